/- What is proved: the texts W1 W2 W3 W9 Wa Wb, one behind the other; each says at its head what it proves, and under which conditions. -/
import Derived.Outline
import Derived.Deep.LoopGhost
import Derived.Test.YtogobjmmgjfjjaaGreatdPRuns10
/- What is proved: the plain model of a run of a sequence; a run's calls keep the plant and the system's numbers as they always are. Conditions: those that each lemma states. -/
namespace Go.Proofs.YtogobjmmgjfjjaaGreat
open Go.RowKit

structure DisD where
  at_ : Int
  kind : Int
  of_ : Int
  rate : Int
def dis0 : DisD := ⟨0, 0, 0, 0⟩
def disC (d : DisD) : Nat → Value
  | 0 => .int .i64 d.at_
  | 1 => .int .i64 d.kind
  | 2 => .int .i64 d.of_
  | _ => .int .i64 d.rate
def DisAt (w : World) (B : Nat) (A : Option Addr) (l : List DisD) : Prop := Sl w B 4 A l.length fun i => disC (l.getD i dis0)
def disOk (p : PlantD) (d : DisD) : Bool := inB d.at_ 0 10000 && inB d.kind 0 1 && inB d.of_ 0 ((if d.kind = 1 then (p.tanks.length : Int) else (p.valves.length : Int)) - 1) && inB d.rate 0 1073741824
def dissB (p : PlantD) (l : List DisD) : Bool := decide ((l.length : Int) ≤ 64) && allN l.length fun i => disOk p (l.getD i dis0)
def wrong1 (S : Sys) (d : DisD) (tick : Int) : Sys := if d.at_ = tick then (if d.kind = 0 then (stickB S d.of_ true).2 else (leakB S d.of_ d.rate).2) else S
def wrongK (S : Sys) (l : List DisD) (tick : Int) : Nat → Sys
  | 0 => S
  | k + 1 => wrong1 (wrongK S l tick k) (l.getD k dis0) tick
def wrongB (S : Sys) (l : List DisD) (tick : Int) : Sys := wrongK S l tick l.length

def keptB (S : Sys) (n : NeedD) : Bool := inB (numOf S n.kind n.of_) n.low n.high
/-- Orders up to the first one that is refused; was one? -/
def giveB : Sys → List LitD → Sys × Bool
  | S, [] => (S, false)
  | S, o :: os => if (orderB S o.valve o.opn).1 = 0 then giveB (orderB S o.valve o.opn).2 os else (S, true)
/-- All orders; how many were refused. -/
def abortB : Sys → List LitD → Sys × Int
  | S, [] => (S, 0)
  | S, o :: os => ((abortB (orderB S o.valve o.opn).2 os).1, (abortB (orderB S o.valve o.opn).2 os).2 + if (orderB S o.valve o.opn).1 = 0 then 0 else 1)
/-- The orders of the steps at a tick, from the step i on, m steps. -/
def stepsF (q : SeqD) (tick : Int) : Nat → Nat → Sys → Sys × Option Nat
  | 0, _, S => (S, none)
  | m + 1, i, S => if (q.step i).at_ = tick then (if (giveB S (q.step i).orders).2 then ((giveB S (q.step i).orders).1, some i) else stepsF q tick m (i + 1) (giveB S (q.step i).orders).1) else stepsF q tick m (i + 1) S
/-- The first of m indices from i on of which f holds. -/
def firstN (f : Nat → Bool) : Nat → Nat → Option Nat
  | 0, _ => none
  | m + 1, i => if f i then some i else firstN f m (i + 1)
def missF (S : Sys) (q : SeqD) (tick : Int) (i : Nat) : Bool := decide ((q.step i).at_ = tick) && !(allN (q.step i).needs.length fun k => keptB S ((q.step i).needs.getD k need0))
def countB (S : Sys) (q : SeqD) (c : Nat → Int) (i : Nat) : Int := if keptB S (q.red i).need then 0 else c i + 1
def hurtF (q : SeqD) (c : Nat → Int) (i : Nat) : Bool := decide ((q.red i).ticks < c i)
def moreF (q : SeqD) (tick : Int) : Bool := !(allN q.steps.length fun i => !decide (tick < (q.step i).at_))
structure EndD where
  why : Int
  at_ : Int
  index : Int
  refused : Int
def endA (e : EndD) : Array Value := #[.int .i64 e.why, .int .i64 e.at_, .int .i64 e.index, .int .i64 e.refused]
structure OnceD where
  s : Sys
  c : Nat → Int
  e : EndD
/-- What is behind the orders of a tick. -/
def ticked (S : Sys) (q : SeqD) (tick : Int) (c : Nat → Int) : EndD :=
  match firstN (hurtF q c) q.reds.length 0 with
  | some i => ⟨3, tick, i, 0⟩
  | none => match firstN (missF S q tick) q.steps.length 0 with
    | some i => ⟨2, tick, i, 0⟩
    | none => if moreF q tick then ⟨-1, 0, 0, 0⟩ else ⟨0, tick, 0, 0⟩
def onceB (q : SeqD) (l : List DisD) (tick : Int) (S : Sys) (c : Nat → Int) : OnceD :=
  match (stepsF q tick q.steps.length 0 (wrongB S l tick)).2 with
  | some i => ⟨(stepsF q tick q.steps.length 0 (wrongB S l tick)).1, c, ⟨1, tick, i, 0⟩⟩
  | none => ⟨tickB (stepsF q tick q.steps.length 0 (wrongB S l tick)).1, countB (tickB (stepsF q tick q.steps.length 0 (wrongB S l tick)).1) q c,
      ticked (tickB (stepsF q tick q.steps.length 0 (wrongB S l tick)).1) q tick (countB (tickB (stepsF q tick q.steps.length 0 (wrongB S l tick)).1) q c)⟩
def runF (q : SeqD) (l : List DisD) : Nat → Int → Sys → (Nat → Int) → Sys × EndD
  | 0, _, S, _ => (S, ⟨-1, 0, 0, 0⟩)
  | f + 1, tick, S, c =>
    if (onceB q l tick S c).e.why = 0 then ((onceB q l tick S c).s, (onceB q l tick S c).e)
    else if 0 < (onceB q l tick S c).e.why then ((abortB (onceB q l tick S c).s q.abort).1, { (onceB q l tick S c).e with refused := (abortB (onceB q l tick S c).s q.abort).2 })
    else runF q l f (tick + 1) (onceB q l tick S c).s (onceB q l tick S c).c
def end0 : EndD := ⟨0, 0, 0, 0⟩
def runB (S : Sys) (q : SeqD) (l : List DisD) : Sys × EndD × Int :=
  if seqB S.p q && dissB S.p l then ((runF q l 10001 0 S fun _ => 0).1, (runF q l 10001 0 S fun _ => 0).2, 0) else (S, end0, 2)

/-! What a run's calls keep. -/
def Keeps (S T : Sys) : Prop := T.p = S.p ∧ (SysOk S → SysOk T)
theorem Keeps.refl (S : Sys) : Keeps S S := ⟨rfl, id⟩
theorem Keeps.trans {S T U : Sys} (h : Keeps S T) (k : Keeps T U) : Keeps S U := ⟨k.1.trans h.1, fun ok => k.2 (h.2 ok)⟩
theorem stickB_keeps (S : Sys) (v : Int) (b : Bool) : Keeps S (stickB S v b).2 := by
  unfold stickB
  split
  · exact ⟨rfl, fun ok => ⟨ok.valid, ok.spots, ok.safe, ok.tanks⟩⟩
  · exact Keeps.refl _
theorem leakB_keeps (S : Sys) (t r : Int) : Keeps S (leakB S t r).2 := by
  unfold leakB
  split
  · next h1 =>
    split
    · next h2 =>
      refine ⟨rfl, fun ok => ok.setT _ _ ?_⟩
      have a1 := inB_iff.1 h1; have a2 := inB_iff.1 h2
      have := ok.tanks t.toNat (by omega)
      simp only
      omega
    · exact Keeps.refl _
  · exact Keeps.refl _
theorem orderB_keeps (S : Sys) (v : Int) (o : Bool) : Keeps S (orderB S v o).2 := by
  unfold orderB
  split
  · next h1 =>
    split
    · next h2 => 
      have a1 := inB_iff.1 h1
      exact ⟨rfl, fun ok => ⟨ok.valid, wantB_ok ok.spots (by omega) o, h2, ok.tanks⟩⟩
    · exact Keeps.refl _
  · exact Keeps.refl _
theorem tickB_keeps (S : Sys) : Keeps S (tickB S) := by
  refine ⟨tickB_p S, fun ok => ?_⟩
  have h2 := (SysOk.move ok).linesK S.p.lines.length (Nat.le_refl _)
  have hp : (linesK S.move S.p.lines.length).p = S.p := linesK_p _ _
  have key : ∀ k, k ≤ S.p.tanks.length → SysOk (tanksK (linesK S.move S.p.lines.length) k) := by
    intro k
    induction k with
    | zero => intro _; exact h2
    | succ k ih =>
      intro hk
      have h1 := ih (by omega)
      have hk1 : k < (tanksK (linesK S.move S.p.lines.length) k).p.tanks.length := by rw [tanksK_p, hp]; omega
      exact (h1.leakS k hk1).ventS k hk1
  exact key _ (Nat.le_refl _)
theorem wrong1_keeps (S : Sys) (d : DisD) (tick : Int) : Keeps S (wrong1 S d tick) := by
  unfold wrong1
  split
  · split
    · exact stickB_keeps _ _ _
    · exact leakB_keeps _ _ _
  · exact Keeps.refl _
theorem wrongK_keeps (S : Sys) (l : List DisD) (tick : Int) (k : Nat) : Keeps S (wrongK S l tick k) := by
  induction k with
  | zero => exact Keeps.refl _
  | succ k ih => exact ih.trans (wrong1_keeps _ _ _)
theorem giveB_keeps (l : List LitD) : ∀ S, Keeps S (giveB S l).1 := by
  induction l with
  | nil => intro S; exact Keeps.refl _
  | cons o os ih =>
    intro S
    unfold giveB
    split
    · exact (orderB_keeps _ _ _).trans (ih _)
    · exact Keeps.refl _
theorem abortB_keeps (l : List LitD) : ∀ S, Keeps S (abortB S l).1 := by
  induction l with
  | nil => intro S; exact Keeps.refl _
  | cons o os ih => intro S; exact (orderB_keeps _ _ _).trans (ih _)
theorem stepsF_keeps (q : SeqD) (tick : Int) (m : Nat) : ∀ i S, Keeps S (stepsF q tick m i S).1 := by
  induction m with
  | zero => intro i S; exact Keeps.refl _
  | succ m ih =>
    intro i S
    unfold stepsF
    split
    · split
      · exact giveB_keeps _ _
      · exact (giveB_keeps _ _).trans (ih _ _)
    · exact ih _ _
theorem onceB_keeps (q : SeqD) (l : List DisD) (tick : Int) (S : Sys) (c : Nat → Int) : Keeps S (onceB q l tick S c).s := by
  have h := (wrongK_keeps S l tick l.length).trans (stepsF_keeps q tick q.steps.length 0 (wrongK S l tick l.length))
  unfold onceB
  split
  · exact h
  · exact h.trans (tickB_keeps _)

/-! Small laws of the parts. -/
theorem getD_drop {α : Type} (l : List α) (k : Nat) (d : α) (hk : k < l.length) : l.drop k = l.getD k d :: l.drop (k + 1) := by
  rw [List.drop_eq_getElem_cons hk, List.getD_eq_getElem?_getD, List.getElem?_eq_getElem hk]; rfl
theorem giveB_ok {S : Sys} {l : List LitD} {k : Nat} (hk : k < l.length) (h : (orderB S (l.getD k lit0).valve (l.getD k lit0).opn).1 = 0) : giveB S (l.drop k) = giveB (orderB S (l.getD k lit0).valve (l.getD k lit0).opn).2 (l.drop (k + 1)) := by
  rw [getD_drop l k lit0 hk]; show (if _ then _ else _) = _; rw [if_pos h]
theorem giveB_no {S : Sys} {l : List LitD} {k : Nat} (hk : k < l.length) (h : ¬ (orderB S (l.getD k lit0).valve (l.getD k lit0).opn).1 = 0) : giveB S (l.drop k) = (S, true) := by
  rw [getD_drop l k lit0 hk]; show (if _ then _ else _) = _; rw [if_neg h]
theorem giveB_end {S : Sys} {l : List LitD} : giveB S (l.drop l.length) = (S, false) := by rw [List.drop_length]; rfl
theorem abortB_step {S : Sys} {l : List LitD} {k : Nat} (hk : k < l.length) : abortB S (l.drop k) = ((abortB (orderB S (l.getD k lit0).valve (l.getD k lit0).opn).2 (l.drop (k + 1))).1, (abortB (orderB S (l.getD k lit0).valve (l.getD k lit0).opn).2 (l.drop (k + 1))).2 + if (orderB S (l.getD k lit0).valve (l.getD k lit0).opn).1 = 0 then 0 else 1) := by
  rw [getD_drop l k lit0 hk]; rfl
theorem abortB_end {S : Sys} {l : List LitD} : abortB S (l.drop l.length) = (S, 0) := by rw [List.drop_length]; rfl
theorem orderB_no {S : Sys} {v : Int} {o : Bool} (h : ¬ (orderB S v o).1 = 0) : (orderB S v o).2 = S := by
  unfold orderB at h ⊢
  split
  · split
    · next h1 h2 => rw [if_pos h1, if_pos h2] at h; exact absurd rfl h
    · rfl
  · rfl
theorem firstN_none {f : Nat → Bool} {m : Nat} : ∀ {i : Nat}, firstN f m i = none ↔ ∀ k, i ≤ k → k < i + m → f k = false := by
  induction m with
  | zero => intro i; exact ⟨fun _ k h1 h2 => by omega, fun _ => rfl⟩
  | succ m ih =>
    intro i
    unfold firstN
    cases h : f i with
    | true =>
      simp only [if_true]
      exact ⟨fun h2 => absurd h2 (by simp), fun h2 => by have := h2 i (Nat.le_refl _) (by omega); rw [h] at this; cases this⟩
    | false =>
      simp only [Bool.false_eq_true, if_false]
      rw [ih]
      refine ⟨fun h2 k h3 h4 => ?_, fun h2 k h3 h4 => h2 k (by omega) (by omega)⟩
      by_cases e : k = i
      · subst e; exact h
      · exact h2 k (by omega) (by omega)
theorem firstN_step {f : Nat → Bool} {m i : Nat} (h : f i = false) : firstN f (m + 1) i = firstN f m (i + 1) := by
  show (if f i then some i else _) = _; rw [h]; rfl
theorem firstN_hit {f : Nat → Bool} {m i : Nat} (h : f i = true) : firstN f (m + 1) i = some i := by
  show (if f i then some i else _) = _; rw [h]; rfl
/-- Indices of which f does not hold may be left out ahead. -/
theorem firstN_skip {f : Nat → Bool} (n : Nat) : ∀ (i m : Nat), (∀ k, i ≤ k → k < i + n → f k = false) → firstN f (n + m) i = firstN f m (i + n) := by
  induction n with
  | zero => intro i m _; rw [Nat.zero_add, Nat.add_zero]
  | succ n ih =>
    intro i m h
    rw [show n + 1 + m = (n + m) + 1 from by omega, firstN_step (h i (Nat.le_refl _) (by omega)), ih (i + 1) m (fun k h1 h2 => h k (by omega) (by omega)), show i + 1 + n = i + (n + 1) from by omega]
/-- And behind. -/
theorem firstN_cut {f : Nat → Bool} (m n : Nat) : ∀ (i : Nat), (∀ k, i + m ≤ k → k < i + m + n → f k = false) → firstN f (m + n) i = firstN f m i := by
  induction m with
  | zero => intro i h; rw [Nat.zero_add]; exact firstN_none.2 (fun k h1 h2 => h k (by omega) (by omega))
  | succ m ih =>
    intro i h
    rw [show m + 1 + n = (m + n) + 1 from by omega]
    unfold firstN
    rw [ih (i + 1) (fun k h1 h2 => h k (by omega) (by omega))]
theorem stepsF_skip {q : SeqD} {tick : Int} (n : Nat) : ∀ (i m : Nat) (S : Sys), (∀ k, i ≤ k → k < i + n → (q.step k).at_ ≠ tick) → stepsF q tick (n + m) i S = stepsF q tick m (i + n) S := by
  induction n with
  | zero => intro i m S _; rw [Nat.zero_add, Nat.add_zero]
  | succ n ih =>
    intro i m S h
    rw [show n + 1 + m = (n + m) + 1 from by omega]
    show (if _ then _ else _) = _
    rw [if_neg (h i (Nat.le_refl _) (by omega)), ih (i + 1) m S (fun k h1 h2 => h k (by omega) (by omega)), show i + 1 + n = i + (n + 1) from by omega]
theorem stepsF_none {q : SeqD} {tick : Int} (n i : Nat) (S : Sys) (h : ∀ k, i ≤ k → k < i + n → (q.step k).at_ ≠ tick) : stepsF q tick n i S = (S, none) := by
  have := stepsF_skip (q := q) (tick := tick) n i 0 S h
  rw [Nat.add_zero] at this; exact this
theorem stepsF_step {q : SeqD} {tick : Int} {m i : Nat} {S : Sys} (h : (q.step i).at_ = tick) (h2 : (giveB S (q.step i).orders).2 = false) : stepsF q tick (m + 1) i S = stepsF q tick m (i + 1) (giveB S (q.step i).orders).1 := by
  show (if _ then _ else _) = _; rw [if_pos h, h2]; rfl
theorem stepsF_hit {q : SeqD} {tick : Int} {m i : Nat} {S : Sys} (h : (q.step i).at_ = tick) (h2 : (giveB S (q.step i).orders).2 = true) : stepsF q tick (m + 1) i S = ((giveB S (q.step i).orders).1, some i) := by
  show (if _ then _ else _) = _; rw [if_pos h, h2]; rfl
/-- The steps of a valid sequence do not fall. -/
theorem steps_mono {p : PlantD} {q : SeqD} (h : seqB p q = true) {i j : Nat} (hij : i ≤ j) (hj : j < q.steps.length) : (q.step i).at_ ≤ (q.step j).at_ := by
  have h1 : allN q.steps.length (stepOk p q) = true := by
    unfold seqB at h; simp only [Bool.and_eq_true] at h; exact h.1.2
  induction j with
  | zero => obtain rfl : i = 0 := by omega
            exact Int.le_refl _
  | succ j ih =>
    by_cases e : i = j + 1
    · subst e; exact Int.le_refl _
    · have h2 := ih (by omega) (by omega)
      have h3 := allN_iff.1 h1 (j + 1) hj
      unfold stepOk at h3
      simp only [Bool.and_eq_true, Bool.or_eq_true, decide_eq_true_eq] at h3
      have h4 := h3.1.1.2
      rcases h4 with h4 | h4
      · omega
      · rw [Nat.add_sub_cancel] at h4; exact Int.le_trans h2 h4
theorem steps_at {p : PlantD} {q : SeqD} (h : seqB p q = true) {j : Nat} (hj : j < q.steps.length) : 0 ≤ (q.step j).at_ ∧ (q.step j).at_ ≤ 10000 := by
  have h1 : allN q.steps.length (stepOk p q) = true := by
    unfold seqB at h; simp only [Bool.and_eq_true] at h; exact h.1.2
  have h3 := allN_iff.1 h1 j hj
  unfold stepOk at h3
  simp only [Bool.and_eq_true] at h3
  exact inB_iff.1 h3.1.1.1
end Go.Proofs.YtogobjmmgjfjjaaGreat
/- What is proved: contracts of wrong, give of engine.System, of engine.due. Conditions: the system lies in memory; what is given lies in memory that the system's calls do not turn. -/
namespace Go.Proofs.YtogobjmmgjfjjaaGreat
open Go.RowKit

theorem Chg.old {X : SX} {S : Sys} {w wx : World} {B : Nat} (hx : Chg X w wx) (h : SysAt w X S) (hB : B ≤ w.heap.size) (hX : B ≤ X.lo) : Below B w wx := by
  have := h.lo
  exact hx.below hB (by omega) (by omega) (by omega)
set_option maxRecDepth 100000 in
set_option maxHeartbeats 2000000 in
theorem wrong_any (w : World) (X : SX) (S : Sys) (h : SysAt w X S) (A : Option Addr) (c : Nat) (l : List DisD) (hl : ∀ z, Chg X w z → DisAt z z.heap.size A l) (tick : Int) :
    Calls Tryz.prog 96 #[.pointer (some ⟨X.sb, 0, none⟩), .slice A l.length c, .int .i64 tick] w fun e w' => e = .returned (.tuple #[]) ∧ SysAt w' X (wrongB S l tick) ∧ Chg X w w' := by
  have HL := Lib.hid hl
  have H0 := Lib.hid h
  obtain ⟨n, hn⟩ : ∃ n, l.length = n := ⟨_, rfl⟩
  have hn9 : n ≤ 9223372036854775807 := by rw [← hn]; exact (hl w (Chg.refl _ _)).1
  have HF := Lib.hid (show wrongB S l tick = wrongK S l tick n by rw [← hn]; rfl)
  rw [hn]
  have HN := Lib.hid hn
  clear h hl hn
  go_enter Tryz.func96, Tryz.ntmps96
  go_wp2_with fail
  go_loopw [10] (fun i wr => ∃ (k : Nat), k ≤ n ∧ i = .int .i64 k ∧ Hid (SysAt wr X (wrongK S l tick k) ∧ Chg X w wr)) (fun i _ => n - (intOf i).toNat)
  case atStart => exact ⟨0, Nat.zero_le _, rfl, Lib.hid ⟨H0.out, Chg.refl _ _⟩⟩
  case round =>
    obtain ⟨k, hk, rfl, hs⟩ := hrel
    by_cases hlt : k < n
    · have hki : (k : Int) < (n : Int) := by omega
      have h0i : (0 : Int) ≤ (k : Int) := by omega
      have hlt' : k < l.length := by rw [HN.out]; exact hlt
      obtain ⟨b, off, rfl, hBb, d0, d1, d2, d3⟩ := Sl.at4 (HL.out wr hs.out.2) hlt'
      obtain ⟨d, hd⟩ : ∃ d, l.getD k dis0 = d := ⟨_, rfl⟩
      have hw1 : wrongK S l tick (k + 1) = wrong1 (wrongK S l tick k) d tick := by rw [← hd]; rfl
      rw [hd] at d0 d1 d2 d3
      obtain ⟨at_, kind, of_, rate⟩ := d
      simp only [disC] at d0 d1 d2 d3
      have HW1 := Lib.hid hw1
      clear hd hw1
      have HB0 : Hid (∀ o, Below wr.heap.size wr (wr.alloc o)) := Lib.hid fun o => (Below.refl _ _).alloc (Nat.le_refl _) _
      have HNX : Hid (∀ w2 T, wrongK S l tick (k + 1) = T → SysAt w2 X T → (∃ o, Chg X (wr.alloc o) w2) → SysAt w2 X (wrongK S l tick (k + 1)) ∧ Chg X w w2) := Lib.hid fun w2 T e h1 ⟨o, h2⟩ => by
        rw [e]; exact ⟨h1, hs.out.2.trans ((Chg.of_below (HB0.out o)).trans h2)⟩
      by_cases e1 : at_ = tick
      · subst e1
        by_cases e2 : kind = 0
        · subst e2
          go_wp2_with fail
          refine (stick_any _ X _ (hs.out.1.below (HB0.out _)) of_ true).mono ?_
          rintro e w2 ⟨rfl, h1, h2⟩
          have HS2 := Lib.hid (HNX.out w2 _ (by rw [HW1.out]; unfold wrong1; rw [if_pos rfl, if_pos rfl]) h1 ⟨_, h2⟩)
          clear h1 h2 d0 d1 d2 d3
          go_wp2_with fail
          go_roundw
          case rel => exact ⟨k + 1, by omega, by go_num, HS2⟩
          case measure => simp [intOf]; omega
        · go_wp2_with fail
          refine (leak_any _ X _ (hs.out.1.below (HB0.out _)) of_ rate).mono ?_
          rintro e w2 ⟨rfl, h1, h2⟩
          have HS2 := Lib.hid (HNX.out w2 _ (by rw [HW1.out]; unfold wrong1; rw [if_pos rfl, if_neg e2]) h1 ⟨_, h2⟩)
          clear h1 h2 d0 d1 d2 d3
          go_wp2_with fail
          go_roundw
          case rel => exact ⟨k + 1, by omega, by go_num, HS2⟩
          case measure => simp [intOf]; omega
      · go_wp2_with fail
        have HS2 : Hid (∀ o, SysAt (wr.alloc o) X (wrongK S l tick (k + 1)) ∧ Chg X w (wr.alloc o)) := Lib.hid fun o => HNX.out _ _ (by rw [HW1.out]; unfold wrong1; rw [if_neg e1]) (hs.out.1.below (HB0.out o)) ⟨o, Chg.refl _ _⟩
        go_roundw
        case rel => exact ⟨k + 1, by omega, by go_num, Lib.hid (HS2.out _)⟩
        case measure => simp [intOf]; omega
    · obtain rfl : k = n := by omega
      go_wp2_with fail
      go_end0
      rw [HF.out]
      exact ⟨rfl, hs.out.1, hs.out.2⟩

set_option maxRecDepth 100000 in
set_option maxHeartbeats 2000000 in
theorem give_any (w : World) (X : SX) (S : Sys) (h : SysAt w X S) (A : Option Addr) (c : Nat) (l : List LitD) (hl : ∀ z, Chg X w z → LitsAt z z.heap.size A l) :
    Calls Tryz.prog 98 #[.pointer (some ⟨X.sb, 0, none⟩), .slice A l.length c, .bool false] w fun e w' => e = .returned (.int .i64 (if (giveB S l).2 then 1 else 0)) ∧ SysAt w' X (giveB S l).1 ∧ Chg X w w' := by
  have HL := Lib.hid hl
  have H0 := Lib.hid h
  obtain ⟨n, hn⟩ : ∃ n, l.length = n := ⟨_, rfl⟩
  have hn9 : n ≤ 9223372036854775807 := by rw [← hn]; exact (hl w (Chg.refl _ _)).1
  obtain ⟨G, hG⟩ : ∃ G, giveB S l = G := ⟨_, rfl⟩
  have HG0 : Hid (giveB S (l.drop 0) = G) := Lib.hid hG
  rw [hG, hn]
  have HN := Lib.hid hn
  clear h hl hn hG
  go_enter Tryz.func98, Tryz.ntmps98
  go_wp2_with fail
  go_loopw [7, 12] (fun r i wr => ∃ (k : Nat) (T : Sys), k ≤ n ∧ i = .int .i64 k ∧ r = .int .i64 0 ∧ Hid (SysAt wr X T ∧ Chg X w wr ∧ giveB T (l.drop k) = G)) (fun _ i _ => n - (intOf i).toNat)
  case atStart => exact ⟨0, S, Nat.zero_le _, rfl, rfl, Lib.hid ⟨H0.out, Chg.refl _ _, HG0.out⟩⟩
  case round =>
    obtain ⟨k, T, hk, rfl, rfl, hs⟩ := hrel
    by_cases hlt : k < n
    · have hki : (k : Int) < (n : Int) := by omega
      have h0i : (0 : Int) ≤ (k : Int) := by omega
      have hlt' : k < l.length := by rw [HN.out]; exact hlt
      obtain ⟨b, off, rfl, hBb, d0, d1⟩ := Sl.at2 (HL.out wr hs.out.2.1) hlt'
      obtain ⟨d, hd⟩ : ∃ d, l.getD k lit0 = d := ⟨_, rfl⟩
      have hok := giveB_ok (S := T) hlt'
      have hno := giveB_no (S := T) hlt'
      rw [hs.out.2.2, hd] at hok hno
      rw [hd] at d0 d1
      obtain ⟨v, o⟩ := d
      simp only [litC] at d0 d1 hok hno
      have HOK := Lib.hid hok
      have HNO := Lib.hid hno
      clear hd hok hno
      have HB0 : Hid (∀ o, Below wr.heap.size wr (wr.alloc o)) := Lib.hid fun o => (Below.refl _ _).alloc (Nat.le_refl _) _
      go_wp2_with fail
      refine (sysOrder_any _ X T (hs.out.1.below (HB0.out _)) v o).mono ?_
      rintro e w2 ⟨rfl, h1, h2⟩
      have HC2 : Hid (Chg X w w2) := Lib.hid (hs.out.2.1.trans ((Chg.of_below (HB0.out _)).trans h2))
      have HS2 := Lib.hid h1
      clear h1 h2 d0 d1
      by_cases e0 : (orderB T v o).1 = 0
      · have HS3 : Hid (SysAt w2 X (orderB T v o).2 ∧ Chg X w w2 ∧ giveB (orderB T v o).2 (l.drop (k + 1)) = G) := Lib.hid ⟨HS2.out, HC2.out, (HOK.out e0).symm⟩
        rw [e0]
        clear e0
        go_wp2_with fail
        go_roundw
        case rel => exact ⟨k + 1, _, by omega, by go_num, rfl, HS3⟩
        case measure => simp [intOf]; omega
      · have hG2 := HNO.out e0
        have HS3 : Hid (SysAt w2 X T) := Lib.hid (by have := HS2.out; rw [orderB_no e0] at this; exact this)
        subst hG2
        go_wp2_with fail
        go_ret
        exact ⟨rfl, HS3.out, HC2.out⟩
    · obtain rfl : k = n := by omega
      have hG2 : (T, false) = G := by have := hs.out.2.2; rw [← HN.out, giveB_end] at this; exact this
      subst hG2
      go_wp2_with fail
      go_ret
      exact ⟨rfl, hs.out.1, hs.out.2.1⟩

set_option maxRecDepth 100000 in
set_option maxHeartbeats 2000000 in
theorem giveAll_any (w : World) (X : SX) (S : Sys) (h : SysAt w X S) (A : Option Addr) (c : Nat) (l : List LitD) (hl : ∀ z, Chg X w z → LitsAt z z.heap.size A l) :
    Calls Tryz.prog 98 #[.pointer (some ⟨X.sb, 0, none⟩), .slice A l.length c, .bool true] w fun e w' => e = .returned (.int .i64 (abortB S l).2) ∧ SysAt w' X (abortB S l).1 ∧ Chg X w w' := by
  have HL := Lib.hid hl
  have H0 := Lib.hid h
  obtain ⟨n, hn⟩ : ∃ n, l.length = n := ⟨_, rfl⟩
  have hn9 : n ≤ 9223372036854775807 := by rw [← hn]; exact (hl w (Chg.refl _ _)).1
  obtain ⟨GS, hGS⟩ : ∃ G, (abortB S l).1 = G := ⟨_, rfl⟩
  obtain ⟨GN, hGN⟩ : ∃ G, (abortB S l).2 = G := ⟨_, rfl⟩
  have HG0 : Hid ((abortB S (l.drop 0)).1 = GS ∧ 0 + (abortB S (l.drop 0)).2 = GN) := Lib.hid ⟨hGS, by rw [Int.zero_add]; exact hGN⟩
  rw [hGS, hGN, hn]
  have HN := Lib.hid hn
  clear h hl hn hGS hGN
  go_enter Tryz.func98, Tryz.ntmps98
  go_wp2_with fail
  go_loopw [7, 12] (fun r i wr => ∃ (k m : Nat) (T : Sys), k ≤ n ∧ m ≤ k ∧ i = .int .i64 k ∧ r = .int .i64 m ∧ Hid (SysAt wr X T ∧ Chg X w wr ∧ (abortB T (l.drop k)).1 = GS ∧ (m : Int) + (abortB T (l.drop k)).2 = GN)) (fun _ i _ => n - (intOf i).toNat)
  case atStart => exact ⟨0, 0, S, Nat.zero_le _, Nat.le_refl _, rfl, rfl, Lib.hid ⟨H0.out, Chg.refl _ _, HG0.out⟩⟩
  case round =>
    obtain ⟨k, m, T, hk, hm, rfl, rfl, hs⟩ := hrel
    by_cases hlt : k < n
    · have hki : (k : Int) < (n : Int) := by omega
      have h0i : (0 : Int) ≤ (k : Int) := by omega
      have hm9 : (m : Int) < (n : Int) := by omega
      have h0m : (0 : Int) ≤ (m : Int) := by omega
      have hlt' : k < l.length := by rw [HN.out]; exact hlt
      obtain ⟨b, off, rfl, hBb, d0, d1⟩ := Sl.at2 (HL.out wr hs.out.2.1) hlt'
      obtain ⟨d, hd⟩ : ∃ d, l.getD k lit0 = d := ⟨_, rfl⟩
      have hst := abortB_step (S := T) hlt'
      rw [hd] at hst
      have hs3 := hs.out.2.2
      rw [hst] at hs3
      rw [hd] at d0 d1
      obtain ⟨v, o⟩ := d
      simp only [litC] at d0 d1 hs3
      have HS3 := Lib.hid hs3
      clear hd hst hs3
      have HB0 : Hid (∀ o, Below wr.heap.size wr (wr.alloc o)) := Lib.hid fun o => (Below.refl _ _).alloc (Nat.le_refl _) _
      go_wp2_with fail
      refine (sysOrder_any _ X T (hs.out.1.below (HB0.out _)) v o).mono ?_
      rintro e w2 ⟨rfl, h1, h2⟩
      have HC2 : Hid (Chg X w w2) := Lib.hid (hs.out.2.1.trans ((Chg.of_below (HB0.out _)).trans h2))
      have HS2 := Lib.hid h1
      clear h1 h2 d0 d1
      by_cases e0 : (orderB T v o).1 = 0
      · have HS4 : Hid (SysAt w2 X (orderB T v o).2 ∧ Chg X w w2 ∧ (abortB (orderB T v o).2 (l.drop (k + 1))).1 = GS ∧ (m : Int) + (abortB (orderB T v o).2 (l.drop (k + 1))).2 = GN) := Lib.hid ⟨HS2.out, HC2.out, HS3.out.1, by have := HS3.out.2; rw [if_pos e0] at this; omega⟩
        rw [e0]
        clear e0
        go_wp2_with fail
        go_roundw
        case rel => exact ⟨k + 1, m, _, by omega, by omega, by go_num, rfl, HS4⟩
        case measure => simp [intOf]; omega
      · have HS4 : Hid (SysAt w2 X (orderB T v o).2 ∧ Chg X w w2 ∧ (abortB (orderB T v o).2 (l.drop (k + 1))).1 = GS ∧ ((m + 1 : Nat) : Int) + (abortB (orderB T v o).2 (l.drop (k + 1))).2 = GN) := Lib.hid ⟨HS2.out, HC2.out, HS3.out.1, by have := HS3.out.2; rw [if_neg e0] at this; omega⟩
        obtain ⟨r, hr⟩ : ∃ r, (orderB T v o).1 = r := ⟨_, rfl⟩
        rw [hr] at e0 ⊢
        clear hr
        go_wp2_with fail
        go_roundw
        case rel => exact ⟨k + 1, m + 1, _, by omega, by omega, by go_num, by go_num, HS4⟩
        case measure => simp [intOf]; omega
    · obtain rfl : k = n := by omega
      have hG2 : T = GS ∧ (m : Int) = GN := by have := hs.out.2.2; rw [← HN.out, abortB_end] at this; exact ⟨this.1, by omega⟩
      obtain ⟨rfl, rfl⟩ := hG2
      go_wp2_with fail
      go_ret
      exact ⟨rfl, hs.out.1, hs.out.2.1⟩
end Go.Proofs.YtogobjmmgjfjjaaGreat
/- What is proved: contracts of engine.due, of kept of engine.System, of 'all needs are kept', of engine.disordered. Conditions: the system, the sequence, what goes wrong lie in memory. -/
namespace Go.Proofs.YtogobjmmgjfjjaaGreat
open Go.RowKit

/-- From the step f up to the step t, and no others, are at a tick. -/
def DueOk (q : SeqD) (tick : Int) (f t : Nat) : Prop :=
  f ≤ t ∧ t ≤ q.steps.length ∧ (∀ k, k < f → (q.step k).at_ < tick) ∧ (f < q.steps.length → tick ≤ (q.step f).at_) ∧ (∀ k, f ≤ k → k < t → (q.step k).at_ = tick) ∧ (t < q.steps.length → (q.step t).at_ ≠ tick)
def DuePost (w : World) (q : SeqD) (tick : Int) (e : Ending) (w' : World) : Prop := ∃ f t : Nat, e = .returned (.tuple #[.int .i64 f, .int .i64 t]) ∧ DueOk q tick f t ∧ Below w.heap.size w w'
set_option maxRecDepth 100000 in
set_option maxHeartbeats 2000000 in
theorem engDue_any (w : World) (y : QV) (q : SeqD) (hq : SeqAt w w.heap.size y q) (tick : Int) :
    Calls Tryz.prog 97 #[.agg (seqA y q), .int .i64 tick] w (DuePost w q tick) := by
  obtain ⟨W, hW⟩ : ∃ W, W = w.alloc (.cells (seqA y q) 43) := ⟨_, rfl⟩
  have hbW : Below w.heap.size w W := by rw [hW]; exact (Below.refl _ _).alloc (Nat.le_refl _) _
  have hb0 : Bk W w.heap.size 43 (seqA y q) := by rw [hW]; exact Bk.new _ _ _
  have hqW : SeqAt W W.heap.size y q := (hq.below hbW).mono hbW.size
  have s0 : W.cell? ⟨w.heap.size, 0, none⟩ = some (.slice y.sA q.steps.length y.sc) := hb0.cell 0
  have HB := Lib.hid hbW
  have HW := Lib.hid hW
  simp only [seqA] at HW
  obtain ⟨n, hn⟩ : ∃ n, q.steps.length = n := ⟨_, rfl⟩
  have HAT : Hid (∀ k, k < n → ∃ b off, y.sA = some ⟨b, off, none⟩ ∧ W.cell? ⟨b, off + k * 3, none⟩ = some (.int .i64 (q.step k).at_)) := Lib.hid fun k hk => by
    obtain ⟨b, off, h1, _, h2, _⟩ := hqW.steps.at3 (i := k) (by rw [hn]; exact hk)
    exact ⟨b, off, h1, h2⟩
  have hn9 : n ≤ 9223372036854775807 := by rw [← hn]; exact hqW.steps.1
  have HFIN : Hid (∀ m f t : Nat, f ≤ t → t ≤ n → (∀ k, k < f → (q.step k).at_ < tick) → (f < n → tick ≤ (q.step f).at_) → (∀ k, f ≤ k → k < t → (q.step k).at_ = tick) → (t < n → (q.step t).at_ ≠ tick) →
      DuePost w q tick (.returned (.tuple #[.int .i64 f, .int .i64 t])) (W.drewN m)) := Lib.hid fun m f t h1 h2 h3 h4 h5 h6 =>
    ⟨f, t, rfl, ⟨h1, by rw [hn]; exact h2, h3, fun h => h4 (by rw [← hn]; exact h), h5, fun h => h6 (by rw [← hn]; exact h)⟩, below_drewN hbW m⟩
  dsimp only [seqA]
  rw [hn] at s0 HW ⊢
  clear hq hqW hbW hb0 hW hn
  go_enter Tryz.func97, Tryz.ntmps97
  go_wp2_with fail
  rw [← HW.out]
  go_loop [4] (fun i => ∃ k : Nat, k ≤ n ∧ i = .int .i64 k ∧ Hid (∀ j, j < k → (q.step j).at_ < tick)) (fun i => n - (intOf i).toNat)
  case atStart => exact ⟨0, Nat.zero_le _, rfl, Lib.hid fun j hj => absurd hj (by omega)⟩
  case round =>
    obtain ⟨k, hk, rfl, hl⟩ := hrel
    by_cases hlt : k < n ∧ (q.step k).at_ < tick
    · obtain ⟨hlt, hat⟩ := hlt
      have hki : (k : Int) < (n : Int) := by omega
      have h0i : (0 : Int) ≤ (k : Int) := by omega
      obtain ⟨b, off, hA, hc⟩ := HAT.out k hlt
      rw [hA] at s0
      obtain ⟨a, ha⟩ : ∃ a, (q.step k).at_ = a := ⟨_, rfl⟩
      rw [ha] at hc hat
      have HA := Lib.hid ha
      have HAT2 := Lib.hid hat
      clear ha hA
      go_wp2
      go_round
      case rel => exact ⟨k + 1, by omega, by go_num, Lib.hid fun j hj => if e : j = k then by rw [e, HA.out]; exact HAT2.out else hl.out j (by omega)⟩
      case measure => simp [intOf]; omega
    · have h4 : Hid (k < n → tick ≤ (q.step k).at_) := Lib.hid fun h => by have : ¬ ((q.step k).at_ < tick) := fun h2 => hlt ⟨h, h2⟩; omega
      clear hlt
      rcases Nat.lt_or_ge k n with hkn | hkn
      · have hki : (k : Int) < (n : Int) := by omega
        have h0i : (0 : Int) ≤ (k : Int) := by omega
        obtain ⟨b, off, hA, hc⟩ := HAT.out k hkn
        have h4' := h4.out hkn
        obtain ⟨a, ha⟩ : ∃ a, (q.step k).at_ = a := ⟨_, rfl⟩
        rw [ha] at hc h4'
        have s0' := s0
        rw [hA] at s0'
        have S0 := Lib.hid s0
        clear s0 ha hA
        have hdd : decide (a < tick) = false := by simp; omega
        go_wp2
        clear s0' hc hdd h4' hki
        have s0 := S0.out
        clear S0
        go_loop [5] (fun i => ∃ t : Nat, k ≤ t ∧ t ≤ n ∧ i = .int .i64 t ∧ Hid (∀ j, k ≤ j → j < t → (q.step j).at_ = tick)) (fun i => n - (intOf i).toNat)
        case atStart => exact ⟨k, Nat.le_refl _, hk, rfl, Lib.hid fun j h1 h2 => absurd h1 (by omega)⟩
        case round =>
          obtain ⟨t, hkt, ht, rfl, hm⟩ := hrel
          by_cases hlt : t < n ∧ (q.step t).at_ = tick
          · obtain ⟨hlt, hat⟩ := hlt
            have hki2 : (t : Int) < (n : Int) := by omega
            have h0i2 : (0 : Int) ≤ (t : Int) := by omega
            obtain ⟨b2, off2, hA2, hc2⟩ := HAT.out t hlt
            rw [hA2] at s0
            rw [hat] at hc2
            have HAT2 := Lib.hid hat
            clear hat hA2
            go_wp2
            go_round
            case rel => exact ⟨t + 1, by omega, by omega, by go_num, Lib.hid fun j h1 h2 => if e : j = t then by rw [e]; exact HAT2.out else hm.out j h1 (by omega)⟩
            case measure => simp [intOf]; omega
          · have h6 : Hid (t < n → (q.step t).at_ ≠ tick) := Lib.hid fun h h2 => hlt ⟨h, h2⟩
            clear hlt
            have HE := Lib.hid fun m => HFIN.out m k t hkt ht hl.out h4.out hm.out h6.out
            rcases Nat.lt_or_ge t n with htn | htn
            · have hki2 : (t : Int) < (n : Int) := by omega
              have h0i2 : (0 : Int) ≤ (t : Int) := by omega
              obtain ⟨b2, off2, hA2, hc2⟩ := HAT.out t htn
              have h6' := h6.out htn
              obtain ⟨a2, ha2⟩ : ∃ a, (q.step t).at_ = a := ⟨_, rfl⟩
              rw [ha2] at hc2 h6'
              rw [hA2] at s0
              clear ha2 hA2
              go_wp2
              go_ret2
              exact HE.out 0
            · have hdd : decide ((t : Int) < (n : Int)) = false := by simp; omega
              go_wp2
              go_ret2
              exact HE.out 0
      · have S0 := Lib.hid s0
        clear s0
        have hdd : decide ((k : Int) < (n : Int)) = false := by simp; omega
        have s0 := S0.out
        go_wp2
        clear s0 hdd
        have s0 := S0.out
        clear S0
        go_loop [5] (fun i => ∃ t : Nat, k ≤ t ∧ t ≤ n ∧ i = .int .i64 t ∧ Hid (∀ j, k ≤ j → j < t → (q.step j).at_ = tick)) (fun i => n - (intOf i).toNat)
        case atStart => exact ⟨k, Nat.le_refl _, hk, rfl, Lib.hid fun j h1 h2 => absurd h1 (by omega)⟩
        case round =>
          obtain ⟨t, hkt, ht, rfl, hm⟩ := hrel
          have hlt : ¬ (t < n ∧ (q.step t).at_ = tick) := fun h => absurd h.1 (by omega)
          have h6 : Hid (t < n → (q.step t).at_ ≠ tick) := Lib.hid fun h h2 => hlt ⟨h, h2⟩
          clear hlt
          have HE := Lib.hid fun m => HFIN.out m k t hkt ht hl.out h4.out hm.out h6.out
          have hdd : decide ((t : Int) < (n : Int)) = false := by simp; omega
          go_wp2
          go_ret2
          exact HE.out 0

set_option maxRecDepth 100000 in
set_option maxHeartbeats 4000000 in
theorem kept_any (w : World) (X : SX) (S : Sys) (h : SysAt w X S) (n : NeedD) (hn : needOk S.p n = true) :
    Calls Tryz.prog 99 #[.pointer (some ⟨X.sb, 0, none⟩), .agg #[needC n 0, needC n 1, needC n 2, needC n 3]] w fun e w' => e = .returned (.bool (keptB S n)) ∧ Below w.heap.size w w' := by
  obtain ⟨kind, of_, low, high⟩ := n
  simp only [needC]
  obtain ⟨W, hW⟩ : ∃ W, W = w.alloc (.cells #[.int .i64 kind, .int .i64 of_, .int .i64 low, .int .i64 high] 70) := ⟨_, rfl⟩
  have hbW : Below w.heap.size w W := by rw [hW]; exact (Below.refl _ _).alloc (Nat.le_refl _) _
  have hob : Bk W w.heap.size 70 #[.int .i64 kind, .int .i64 of_, .int .i64 low, .int .i64 high] := by rw [hW]; exact Bk.new _ _ _
  have hS5 := h.below hbW
  have c0 : W.cell? ⟨w.heap.size, 0, none⟩ = some (.int .i64 kind) := hob.cell 0
  have c1 : W.cell? ⟨w.heap.size, 1, none⟩ = some (.int .i64 of_) := hob.cell 1
  have c2 : W.cell? ⟨w.heap.size, 2, none⟩ = some (.int .i64 low) := hob.cell 2
  have c3 : W.cell? ⟨w.heap.size, 3, none⟩ = some (.int .i64 high) := hob.cell 3
  have hneed : needB S.p kind of_ = true := hn
  have HK := Lib.hid (show keptB S ⟨kind, of_, low, high⟩ = inB (numOf S kind of_) low high from rfl)
  have HB := Lib.hid hbW
  have HW := Lib.hid hW
  have HIN : Hid (∀ a w, Calls Tryz.prog 69 #[.int .i64 a, .int .i64 low, .int .i64 high] w fun e w' => e = .returned (.bool (inB a low high)) ∧ ∃ n, w' = w.drewN n) := Lib.hid fun a w => (within_any a low high w).mono fun e w' ⟨he, hw⟩ => ⟨he, 0, hw.symm⟩
  unfold needB at hneed
  clear hn h hob hW hbW
  by_cases k0 : kind = 0
  · subst k0
    have hin : inB of_ 0 (S.p.tanks.length - 1) = true := by simpa using hneed
    obtain ⟨g0, g1⟩ := inB_iff.1 hin
    obtain ⟨i, rfl⟩ := Int.eq_ofNat_of_zero_le g0
    have hi : i < S.p.tanks.length := by omega
    have cc : W.cell? ⟨X.sb, 42, none⟩ = some (.func (.func 54) #[] #[.pointer (some ⟨X.gb, 0, none⟩)]) := (hS5.s.cell 42).trans (sysA_rest X S 2)
    have HC := Lib.hid fun n => newContent_any (W.drewN n) X S (hS5.keep (fun _ _ _ => rfl) (Nat.le_refl _)) i hi
    have HF := Lib.hid (show numOf S 0 (i : Int) = (S.tank i).content from rfl)
    clear hneed hin g0 g1 hS5
    go_enter Tryz.func99, Tryz.ntmps99
    go_wp2_with fail
    rw [← HW.out]
    go_quiet (first | (go_at_call 54; exact Calls.quiet_of (HC.out _)) | (go_at_call 69; exact Calls.quiet_of (HIN.out _ _)))
    go_wp2
    go_ret
    rw [HK.out, HF.out]
    exact ⟨rfl, below_drewN HB.out _⟩
  by_cases k1 : kind = 1
  · subst k1
    have hin : inB of_ 0 (S.p.tanks.length - 1) = true := by simpa using hneed
    obtain ⟨g0, g1⟩ := inB_iff.1 hin
    obtain ⟨i, rfl⟩ := Int.eq_ofNat_of_zero_le g0
    have hi : i < S.p.tanks.length := by omega
    have cc : W.cell? ⟨X.sb, 43, none⟩ = some (.func (.func 55) #[.pointer (some ⟨X.sb, 0, none⟩)] #[]) := (hS5.s.cell 43).trans (sysA_rest X S 3)
    have HC := Lib.hid fun n => pressure_any (W.drewN n) X S (hS5.keep (fun _ _ _ => rfl) (Nat.le_refl _)) i hi
    have HF := Lib.hid (show numOf S 1 (i : Int) = pressB S i from rfl)
    clear hneed hin g0 g1 hS5
    go_enter Tryz.func99, Tryz.ntmps99
    go_wp2_with fail
    rw [← HW.out]
    go_quiet (first | (go_at_call 55; exact Calls.quiet_of (HC.out _)) | (go_at_call 69; exact Calls.quiet_of (HIN.out _ _)))
    go_wp2
    go_ret
    rw [HK.out, HF.out]
    exact ⟨rfl, below_drewN HB.out _⟩
  by_cases k2 : kind = 2
  · subst k2
    have hin : inB of_ 0 (S.p.lines.length - 1) = true := by simpa using hneed
    obtain ⟨g0, g1⟩ := inB_iff.1 hin
    obtain ⟨i, rfl⟩ := Int.eq_ofNat_of_zero_le g0
    have hi : i < S.p.lines.length := by omega
    have cc : W.cell? ⟨X.sb, 44, none⟩ = some (.func (.func 56) #[] #[.pointer (some ⟨X.gb, 0, none⟩)]) := (hS5.s.cell 44).trans (sysA_rest X S 4)
    have HC := Lib.hid fun n => newCarried_any (W.drewN n) X S (hS5.keep (fun _ _ _ => rfl) (Nat.le_refl _)) i hi
    have HF := Lib.hid (show numOf S 2 (i : Int) = S.carried i from rfl)
    clear hneed hin g0 g1 hS5
    go_enter Tryz.func99, Tryz.ntmps99
    go_wp2_with fail
    rw [← HW.out]
    go_quiet (first | (go_at_call 56; exact Calls.quiet_of (HC.out _)) | (go_at_call 69; exact Calls.quiet_of (HIN.out _ _)))
    go_wp2
    go_ret
    rw [HK.out, HF.out]
    exact ⟨rfl, below_drewN HB.out _⟩
  by_cases k3 : kind = 3
  · subst k3
    have hin : inB of_ 0 (S.p.valves.length - 1) = true := by simpa using hneed
    obtain ⟨g0, g1⟩ := inB_iff.1 hin
    obtain ⟨i, rfl⟩ := Int.eq_ofNat_of_zero_le g0
    have hi : i < S.p.valves.length := by omega
    have cc : W.cell? ⟨X.sb, 45, none⟩ = some (.func (.func 57) #[] #[.pointer (some ⟨X.gb, 0, none⟩)]) := (hS5.s.cell 45).trans (sysA_rest X S 5)
    have HC := Lib.hid fun n => newPlace_any (W.drewN n) X S (hS5.keep (fun _ _ _ => rfl) (Nat.le_refl _)) i hi
    have HF := Lib.hid (show numOf S 3 (i : Int) = (S.at_ i).place from rfl)
    clear hneed hin g0 g1 hS5
    go_enter Tryz.func99, Tryz.ntmps99
    go_wp2_with fail
    rw [← HW.out]
    go_quiet (first | (go_at_call 57; exact Calls.quiet_of (HC.out _)) | (go_at_call 69; exact Calls.quiet_of (HIN.out _ _)))
    go_wp2
    go_ret
    rw [HK.out, HF.out]
    exact ⟨rfl, below_drewN HB.out _⟩
  exfalso
  rw [if_neg k0, if_neg k1, if_neg k2, if_neg k3] at hneed
  cases hneed

/-! All needs are kept: 'all(needs, s.kept)'. -/
set_option maxHeartbeats 400000 in
theorem negKept (w : World) (sv : Value) (v0 v1 v2 v3 : Value) (r : Bool) (p : Nat)
    (hp : w.cell? ⟨p, 0, none⟩ = some (.func (.func 99) #[sv] #[]))
    (hq : ∀ w', Below w.heap.size w w' → Calls Tryz.prog 99 #[sv, .agg #[v0, v1, v2, v3]] w' fun e w'' => e = .returned (.bool r) ∧ Below w'.heap.size w' w'') :
    Calls Tryz.prog 140 #[.agg #[v0, v1, v2, v3], .pointer (some ⟨p, 0, none⟩)] w fun e w' => e = .returned (.bool (!r)) ∧ Below w.heap.size w w' := by
  have HQ := Lib.hid hq; clear hq
  have hlt : p < w.heap.size := by
    rcases Nat.lt_or_ge p w.heap.size with h | h
    · exact h
    · simp [World.cell?, Array.getElem?_eq_none h] at hp
  go_enter Tryz.func140, Tryz.ntmps140
  go_wp2_with fail
  refine (HQ.out _ ((Below.refl _ _).alloc (Nat.le_refl _) _)).mono ?_
  rintro e w' ⟨rfl, hb⟩
  go_wp2_with fail
  go_ret
  exact ⟨ret_bool rfl, ((Below.refl _ _).alloc (Nat.le_refl _) _).trans (hb.mono (by simp))⟩
set_option maxHeartbeats 800000 in
theorem allKept_any (w : World) (X : SX) (S : Sys) (h : SysAt w X S) (A : Option Addr) (c : Nat) (l : List NeedD) (hl : NeedsAt w w.heap.size A l) (hn : ∀ i, i < l.length → needOk S.p (l.getD i need0) = true) :
    Calls Tryz.prog 70 #[.slice A l.length c, .func (.func 99) #[.pointer (some ⟨X.sb, 0, none⟩)] #[]] w fun e w' => e = .returned (.bool (allN l.length fun i => keptB S (l.getD i need0))) ∧ Below w.heap.size w w' := by
  have hb0 : ∀ o, Below w.heap.size w (w.alloc o) := fun o => (Below.refl _ _).alloc (Nat.le_refl _) _
  have HC : Hid (∀ t, Calls Tryz.prog 139 #[.slice A l.length c, .func (.func 140) #[] #[.pointer (some ⟨w.heap.size, 0, none⟩)]] (w.alloc (.cells #[.func (.func 99) #[.pointer (some ⟨X.sb, 0, none⟩)] #[]] t))
      fun e w' => e = .returned (.bool (!(allN l.length fun i => !!keptB S (l.getD i need0)))) ∧ Below (w.alloc (.cells #[.func (.func 99) #[.pointer (some ⟨X.sb, 0, none⟩)] #[]] t)).heap.size (w.alloc (.cells #[.func (.func 99) #[.pointer (some ⟨X.sb, 0, none⟩)] #[]] t)) w') := Lib.hid fun t => by
    refine conNeed _ A l.length c _ (Sl.mono (Sl.below hl (hb0 _)) (by simp)) 140 _ (fun i => !keptB S (l.getD i need0)) (fun args w => by kernel_rfl) ?_
    intro w' hw' i hi
    refine negKept w' _ _ _ _ _ (keptB S (l.getD i need0)) _ ?_ (fun w'' hw'' => kept_any w'' X S (h.below ((hb0 _).trans ((hw'.mono (by simp)).trans (hw''.mono (by have := hw'.size; simp at this; omega))))) _ (hn i hi))
    rw [hw'.cell (p := ⟨w.heap.size, 0, none⟩) (by simp)]
    simp
  clear h hl hn
  go_enter Tryz.func70, Tryz.ntmps70
  go_wp2_with fail
  refine (HC.out _).mono ?_
  rintro e w' ⟨rfl, hb⟩
  go_wp2_with fail
  go_ret
  exact ⟨ret_bool (by simp), (hb0 _).trans (hb.mono (by simp))⟩

set_option maxRecDepth 100000 in
set_option maxHeartbeats 2000000 in
theorem dis1_any (w : World) (x : PV) (p : PlantD) (hn : p.tanks.length ≤ 100000 ∧ p.valves.length ≤ 100000) (d : DisD) (bp : Nat) (hp : Bk w bp 27 (plantA x p)) :
    Calls Tryz.prog 149 #[.agg #[disC d 0, disC d 1, disC d 2, disC d 3], .pointer (some ⟨bp, 0, none⟩)] w fun e w' => e = .returned (.bool (disOk p d)) ∧ Below w.heap.size w w' := by
  obtain ⟨at_, kind, of_, rate⟩ := d
  have hlt := hp.lt
  have c0 : w.cell? ⟨bp, 0, none⟩ = some (.slice x.tA p.tanks.length x.tc) := hp.cell 0
  have c1 : w.cell? ⟨bp, 1, none⟩ = some (.slice x.vA p.valves.length x.vc) := hp.cell 1
  have HB := Lib.hid fun o o' => ((Below.refl w.heap.size w).alloc (Nat.le_refl _) o).alloc (by simp) o'
  have HB1 := Lib.hid fun o => (Below.refl w.heap.size w).alloc (Nat.le_refl _) o
  obtain ⟨h1, h2⟩ := hn
  obtain ⟨nt, hnt⟩ : ∃ n, p.tanks.length = n := ⟨_, rfl⟩
  obtain ⟨nv, hnv⟩ : ∃ n, p.valves.length = n := ⟨_, rfl⟩
  have HR := Lib.hid (show disOk p ⟨at_, kind, of_, rate⟩ = (inB at_ 0 10000 && inB kind 0 1 && inB of_ 0 ((if kind = 1 then (nt : Int) else (nv : Int)) - 1) && inB rate 0 1073741824) by rw [← hnt, ← hnv]; rfl)
  simp only [disC]
  rw [hnt] at c0 h1
  rw [hnv] at c1 h2
  have w1 : IntKind.i64.wrap ((nt : Int) - 1) = (nt : Int) - 1 := IntWalk.i64_in _ (by omega)
  have w2 : IntKind.i64.wrap ((nv : Int) - 1) = (nv : Int) - 1 := IntWalk.i64_in _ (by omega)
  clear hp hnt hnv
  by_cases k1 : kind = 1
  · subst k1
    go_enter Tryz.func149, Tryz.ntmps149
    go_wp2_with (go_at_call 69; refine (within_any _ _ _ _).mono ?_; rintro e w' ⟨rfl, rfl⟩)
    all_goals (go_ret; refine ⟨ret_bool ?_, HB1.out _⟩; rw [HR.out])
    all_goals simp_all
  · go_enter Tryz.func149, Tryz.ntmps149
    go_wp2_with (go_at_call 69; refine (within_any _ _ _ _).mono ?_; rintro e w' ⟨rfl, rfl⟩)
    all_goals (go_ret; refine ⟨ret_bool ?_, HB1.out _⟩; rw [HR.out])
    all_goals simp_all
set_option maxRecDepth 100000 in
set_option maxHeartbeats 1000000 in
theorem disordered_any (w : World) (x : PV) (p : PlantD) (hn : p.tanks.length ≤ 100000 ∧ p.valves.length ≤ 100000) (A : Option Addr) (c : Nat) (l : List DisD) (hl : DisAt w w.heap.size A l) :
    Calls Tryz.prog 95 #[.agg (plantA x p), .slice A l.length c] w fun e w' => e = .returned (.bool (dissB p l)) ∧ Below w.heap.size w w' := by
  obtain ⟨W, hW⟩ : ∃ W, W = w.alloc (.cells (plantA x p) 27) := ⟨_, rfl⟩
  have hbW : Below w.heap.size w W := by rw [hW]; exact (Below.refl _ _).alloc (Nat.le_refl _) _
  have hb0 : Bk W w.heap.size 27 (plantA x p) := by rw [hW]; exact Bk.new _ _ _
  have HALL : Hid (Calls Tryz.prog 148 #[.slice A l.length c, .func (.func 149) #[] #[.pointer (some ⟨w.heap.size, 0, none⟩)]] W fun e w' => e = .returned (.bool (allN l.length fun i => disOk p (l.getD i dis0))) ∧ Below W.heap.size W w') := Lib.hid (by
    refine allDis W A l.length c _ (Sl.mono (Sl.below hl hbW) hbW.size) 149 _ (fun i => disOk p (l.getD i dis0)) (fun args w => by kernel_rfl) ?_
    intro w' hw' i hi
    exact dis1_any w' x p hn (l.getD i dis0) _ (hb0.below hw' hb0.lt))
  have hn9 : l.length ≤ 9223372036854775807 := hl.1
  have HB := Lib.hid hbW
  have HW := Lib.hid hW
  have HR := Lib.hid (show dissB p l = (decide ((l.length : Int) ≤ 64) && allN l.length fun i => disOk p (l.getD i dis0)) from rfl)
  simp only [plantA] at HW ⊢
  obtain ⟨n, hnl⟩ : ∃ n, l.length = n := ⟨_, rfl⟩
  rw [hnl] at HALL HR hn9 ⊢
  clear hl hW hbW hb0 hnl hn
  by_cases h64 : (n : Int) ≤ 64
  · have hd : decide ((n : Int) ≤ 64) = true := by simp; omega
    go_enter Tryz.func95, Tryz.ntmps95
    go_wp2_with fail
    rw [← HW.out]
    refine HALL.out.mono ?_
    rintro e w' ⟨rfl, hb⟩
    go_wp2_with fail
    go_ret
    exact ⟨ret_bool (by rw [HR.out, hd]; simp), HB.out.trans (hb.mono HB.out.size)⟩
  · have hd : decide ((n : Int) ≤ 64) = false := by simp; omega
    go_enter Tryz.func95, Tryz.ntmps95
    go_wp2_with fail
    go_ret
    exact ⟨ret_bool (by rw [HR.out, hd]; simp), by rw [← HW.out]; exact HB.out⟩
end Go.Proofs.YtogobjmmgjfjjaaGreat
/- What is proved: plain laws that join the program's reckoning of a tick's steps to the document's: what lies ahead of and behind the steps at a tick may be left out. Conditions: the sequence is valid. -/
namespace Go.Proofs.YtogobjmmgjfjjaaGreat
open Go.RowKit

theorem due_after {p : PlantD} {q : SeqD} {tick : Int} {f t : Nat} (hq : seqB p q = true) (h : DueOk q tick f t) {k : Nat} (hk : t ≤ k) (hn : k < q.steps.length) : tick < (q.step k).at_ := by
  obtain ⟨h1, h2, h3, h4, h5, h6⟩ := h
  have g1 := h6 (by omega)
  have g2 := steps_mono hq hk hn
  rcases Nat.lt_or_ge f t with hft | hft
  · have g3 := h5 (t - 1) (by omega) (by omega)
    have g4 := steps_mono hq (i := t - 1) (j := t) (by omega) (by omega)
    omega
  · obtain rfl : f = t := by omega
    have g3 := h4 (by omega)
    omega
theorem stepsF_cut {q : SeqD} {tick : Int} (m r : Nat) : ∀ (i : Nat) (S : Sys), (∀ k, i + m ≤ k → k < i + m + r → (q.step k).at_ ≠ tick) → stepsF q tick (m + r) i S = stepsF q tick m i S := by
  induction m with
  | zero => intro i S h; rw [Nat.zero_add]; exact stepsF_none r i S (fun k h1 h2 => h k (by omega) (by omega))
  | succ m ih =>
    intro i S h
    rw [show m + 1 + r = (m + r) + 1 from by omega]
    unfold stepsF
    rw [ih (i + 1) S (fun k h1 h2 => h k (by omega) (by omega)), ih (i + 1) _ (fun k h1 h2 => h k (by omega) (by omega))]
theorem due_steps {p : PlantD} {q : SeqD} {tick : Int} {f t : Nat} (hq : seqB p q = true) (h : DueOk q tick f t) (S : Sys) : stepsF q tick q.steps.length 0 S = stepsF q tick (t - f) f S := by
  have ha : ∀ k, t ≤ k → k < q.steps.length → tick < (q.step k).at_ := fun k h1 h2 => due_after hq h h1 h2
  obtain ⟨h1, h2, h3, h4, h5, h6⟩ := h
  have e : q.steps.length = f + (t - f + (q.steps.length - t)) := by omega
  rw [e, stepsF_skip f 0 _ S (fun k g1 g2 => by have := h3 k (by omega); omega), Nat.zero_add]
  exact stepsF_cut _ _ f S (fun k g1 g2 => by have := ha k (by omega) (by omega); omega)
theorem due_miss {p : PlantD} {q : SeqD} {tick : Int} {f t : Nat} (hq : seqB p q = true) (h : DueOk q tick f t) (S : Sys) : firstN (missF S q tick) q.steps.length 0 = firstN (missF S q tick) (t - f) f := by
  have ha : ∀ k, t ≤ k → k < q.steps.length → tick < (q.step k).at_ := fun k h1 h2 => due_after hq h h1 h2
  obtain ⟨h1, h2, h3, h4, h5, h6⟩ := h
  have hno : ∀ k, (q.step k).at_ ≠ tick → missF S q tick k = false := fun k hk => by unfold missF; simp [hk]
  have e : q.steps.length = f + (t - f + (q.steps.length - t)) := by omega
  rw [e, firstN_skip f 0 _ (fun k g1 g2 => hno k (by have := h3 k (by omega); omega)), Nat.zero_add]
  exact firstN_cut _ _ f (fun k g1 g2 => hno k (by have := ha k (by omega) (by omega); omega))
theorem due_more {p : PlantD} {q : SeqD} {tick : Int} {f t : Nat} (hq : seqB p q = true) (h : DueOk q tick f t) : moreF q tick = decide (t < q.steps.length) := by
  have ha : ∀ k, t ≤ k → k < q.steps.length → tick < (q.step k).at_ := fun k h1 h2 => due_after hq h h1 h2
  obtain ⟨h1, h2, h3, h4, h5, h6⟩ := h
  unfold moreF
  by_cases ht : t < q.steps.length
  · have := ha t (Nat.le_refl _) ht
    have hf : (allN q.steps.length fun i => !decide (tick < (q.step i).at_)) = false := by
      cases hh : allN q.steps.length fun i => !decide (tick < (q.step i).at_) with
      | false => rfl
      | true => have := allN_iff.1 hh t ht; simp at this; omega
    rw [hf]; simp [ht]
  · have hf : (allN q.steps.length fun i => !decide (tick < (q.step i).at_)) = true := allN_iff.2 fun i hi => by
      have : ¬ (tick < (q.step i).at_) := by
        rcases Nat.lt_or_ge i f with g | g
        · have := h3 i g; omega
        · have := h5 i g (by omega); omega
      simp; omega
    rw [hf]; simp [ht]
end Go.Proofs.YtogobjmmgjfjjaaGreat
/- What is proved: how a run of engine.System stands in memory between its calls; plain laws of a run, tick by tick. Conditions: those that each lemma states. -/
namespace Go.Proofs.YtogobjmmgjfjjaaGreat
open Go.RowKit

theorem und_ended : Tryz.prog.underlying 85 = some (.struct (match Tryz.prog.underlying 85 with | some (.struct f) => f | _ => #[])) := by kernel_rfl
theorem info_ended : (Tryz.prog.info? 85).map (·.size) = some 4 := by kernel_rfl
theorem infoC_IntR : (Tryz.prog.info? 3).map (fun i => (i.zero, i.size, i.bytes)) = some (some (.int .i64 0), 1, 8) := by kernel_rfl
theorem made_carrR (n : Nat) : madeCells (Value.int .i64 0).cells (n * 1) = carrA n fun _ => 0 := made_carr n
theorem endA_one (e : EndD) : ∀ u ∈ (endA e).toList, u.oneCell' = true := by
  intro u hu
  simp only [endA, List.mem_cons, List.not_mem_nil, or_false] at hu
  rcases hu with rfl | rfl | rfl | rfl <;> rfl
theorem endA_spl (e e' : EndD) : splA (endA e) 0 (endA e').toList = endA e' := splA_all (endA e) (endA e') rfl
theorem carrA_congr {n : Nat} {c d : Nat → Int} (h : ∀ i, i < n → c i = d i) : carrA n c = carrA n d := by
  apply Array.ext_getElem?
  intro m
  by_cases hm : m < n
  · rw [carrA_get _ _ _ hm, carrA_get _ _ _ hm, h m hm]
  · have e1 : (carrA n c)[m]? = none := Array.getElem?_eq_none (by rw [carrA_size]; omega)
    have e2 : (carrA n d)[m]? = none := Array.getElem?_eq_none (by rw [carrA_size]; omega)
    rw [e1, e2]

/-- A system at T; the boxes of a run: the sequence, the result, the end so far, the counts. -/
structure RunSt (X : SX) (w : World) (qb rb eb kb n : Nat) (y : QV) (q : SeqD) (wr : World) (T : Sys) (e : EndD) (c : Nat → Int) : Prop where
  sys : SysAt wr X T
  chg : Chg X w wr
  bq : Bk wr qb 43 (seqA y q)
  br : Bk wr rb 85 (endA end0)
  be : Bk wr eb 85 (endA e)
  bk : Bk wr kb 3 (carrA n c)
  ord : X.hi ≤ qb ∧ qb < rb ∧ rb < eb ∧ eb < kb ∧ w.heap.size ≤ qb
section
variable {X : SX} {w wr w1 : World} {qb rb eb kb n : Nat} {y : QV} {q : SeqD} {T T' : Sys} {e e' : EndD} {c c' : Nat → Int}
theorem RunSt.calls (h : RunSt X w qb rb eb kb n y q wr T e c) (hs : SysAt w1 X T') (hc : Chg X wr w1) : RunSt X w qb rb eb kb n y q w1 T' e c := by
  obtain ⟨o1, o2, o3, o4, o5⟩ := h.ord
  obtain ⟨h1, h2, h3, h4, h5⟩ := h.sys.hi
  have k1 := h.bq.lt; have k2 := h.br.lt; have k3 := h.be.lt; have k4 := h.bk.lt
  exact ⟨hs, h.chg.trans hc, (hc.block _ k1 (by omega) (by omega) (by omega)).trans h.bq, (hc.block _ k2 (by omega) (by omega) (by omega)).trans h.br, (hc.block _ k3 (by omega) (by omega) (by omega)).trans h.be, (hc.block _ k4 (by omega) (by omega) (by omega)).trans h.bk, h.ord⟩
theorem RunSt.later (h : RunSt X w qb rb eb kb n y q wr T e c) (hb : Below wr.heap.size wr w1) : RunSt X w qb rb eb kb n y q w1 T e c := h.calls (h.sys.below hb) (Chg.of_below hb)
theorem Chg.only2 {g : Nat} (h : Chg X w wr) (ho : Only g wr w1) (hg : w.heap.size ≤ g) : Chg X w w1 :=
  ⟨ho.os.trans h.os, ho.tape.trans h.tape, ho.output.trans h.output, by rw [ho.size]; exact h.size, fun b hb h1 h2 h3 => (ho.block b (by omega)).trans (h.block b hb h1 h2 h3)⟩
theorem SysAt.only {g : Nat} (h : SysAt wr X T) (ho : Only g wr w1) (hg : X.hi ≤ g) : SysAt w1 X T := h.keep (fun b _ hb => ho.block b (by omega)) (by rw [ho.size]; exact Nat.le_refl _)
theorem RunSt.setE (h : RunSt X w qb rb eb kb n y q wr T e c) (j : Nat) (v : Value) (he : (endA e).setIfInBounds j v = endA e') : RunSt X w qb rb eb kb n y q (wr.setCell ⟨eb, j, none⟩ v) T e' c := by
  obtain ⟨o1, o2, o3, o4, o5⟩ := h.ord
  have ho := Only.setCell wr eb j v
  have hk := h.be.set j v
  rw [he] at hk
  exact ⟨h.sys.only ho (by omega), h.chg.only2 ho (by omega), h.bq.only ho (by omega), h.br.only ho (by omega), hk, h.bk.only ho (by omega), h.ord⟩
theorem RunSt.setC (h : RunSt X w qb rb eb kb n y q wr T e c) (j : Nat) (v : Int) (hc : ∀ i, i < n → (if i = j then v else c i) = c' i) : RunSt X w qb rb eb kb n y q (wr.setCell ⟨kb, j, none⟩ (.int .i64 v)) T e c' := by
  obtain ⟨o1, o2, o3, o4, o5⟩ := h.ord
  have ho := Only.setCell wr kb j (.int .i64 v)
  have hk := h.bk.set j (.int .i64 v)
  rw [carrA_set, carrA_congr hc] at hk
  exact ⟨h.sys.only ho (by omega), h.chg.only2 ho (by omega), h.bq.only ho (by omega), h.br.only ho (by omega), h.be.only ho (by omega), hk, h.ord⟩
theorem RunSt.congr (h : RunSt X w qb rb eb kb n y q wr T e c) (hc : ∀ i, i < n → c i = c' i) : RunSt X w qb rb eb kb n y q wr T e c' := ⟨h.sys, h.chg, h.bq, h.br, h.be, by rw [← carrA_congr hc]; exact h.bk, h.ord⟩
theorem RunSt.out (h : RunSt X w qb rb eb kb n y q wr T e c) (ho : Only rb wr w1) : SysAt w1 X T ∧ Chg X w w1 := by
  obtain ⟨o1, o2, o3, o4, o5⟩ := h.ord
  exact ⟨h.sys.only ho (by omega), h.chg.only2 ho (by omega)⟩
/-- The cells of the sequence's box and of the end's box. -/
theorem RunSt.cells (h : RunSt X w qb rb eb kb n y q wr T e c) : (wr.cell? ⟨qb, 0, none⟩ = some (.slice y.sA q.steps.length y.sc) ∧ wr.cell? ⟨qb, 1, none⟩ = some (.slice y.rA q.reds.length y.rc) ∧ wr.cell? ⟨qb, 2, none⟩ = some (.slice y.aA q.abort.length y.ac)) ∧
    (wr.cell? ⟨eb, 0, none⟩ = some (.int .i64 e.why) ∧ wr.cell? ⟨eb, 1, none⟩ = some (.int .i64 e.at_) ∧ wr.cell? ⟨eb, 2, none⟩ = some (.int .i64 e.index) ∧ wr.cell? ⟨eb, 3, none⟩ = some (.int .i64 e.refused)) ∧ ∀ i, wr.frozen? ⟨eb, i, none⟩ = false :=
  ⟨⟨h.bq.cell 0, h.bq.cell 1, h.bq.cell 2⟩, ⟨h.be.cell 0, h.be.cell 1, h.be.cell 2, h.be.cell 3⟩, fun i => h.be.free i⟩
theorem RunSt.count (h : RunSt X w qb rb eb kb n y q wr T e c) {k : Nat} (hk : k < n) : wr.cell? ⟨kb, k, none⟩ = some (.int .i64 (c k)) ∧ wr.frozen? ⟨kb, k, none⟩ = false := ⟨(h.bk.cell k).trans (carrA_get n c k hk), h.bk.free k⟩
end
def mixC (c d : Nat → Int) (k : Nat) : Nat → Int := fun i => if i < k then d i else c i
theorem mixC_zero (c d : Nat → Int) : mixC c d 0 = c := by funext i; simp [mixC]
theorem mixC_at (c d : Nat → Int) (k : Nat) : mixC c d k k = c k := by simp [mixC]
theorem mixC_all {c d : Nat → Int} {n : Nat} : ∀ i, i < n → mixC c d n i = d i := fun i hi => by simp [mixC, hi]
theorem mix_kept {T : Sys} {q : SeqD} {c : Nat → Int} {k n : Nat} (h : keptB T (q.red k).need = true) : ∀ i, i < n → (if i = k then 0 else if i = k then c k + 1 else mixC c (countB T q c) k i) = mixC c (countB T q c) (k + 1) i := fun i _ => by
  unfold mixC
  by_cases e : i = k
  · subst e; rw [if_pos rfl, if_pos (by omega)]; unfold countB; rw [if_pos h]
  · rw [if_neg e, if_neg e]
    by_cases h2 : i < k
    · rw [if_pos h2, if_pos (by omega)]
    · rw [if_neg h2, if_neg (by omega)]
theorem mix_not {T : Sys} {q : SeqD} {c : Nat → Int} {k n : Nat} (h : keptB T (q.red k).need = false) : ∀ i, i < n → (if i = k then c k + 1 else mixC c (countB T q c) k i) = mixC c (countB T q c) (k + 1) i := fun i _ => by
  unfold mixC
  by_cases e : i = k
  · subst e; rw [if_pos rfl, if_pos (by omega)]; unfold countB; rw [h]; rfl
  · rw [if_neg e]
    by_cases h2 : i < k
    · rw [if_pos h2, if_pos (by omega)]
    · rw [if_neg h2, if_neg (by omega)]
theorem countB_range {T : Sys} {q : SeqD} {c : Nat → Int} {t : Nat} (h : ∀ k, 0 ≤ c k ∧ c k ≤ t) (k : Nat) : 0 ≤ countB T q c k ∧ countB T q c k ≤ ((t + 1 : Nat) : Int) := by
  unfold countB
  have := h k
  split
  · omega
  · push_cast; omega

/-! How a run goes on. -/
theorem onceB_hit2 {q : SeqD} {l : List DisD} {tick : Int} {S U : Sys} {c : Nat → Int} {i : Nat} (h : stepsF q tick q.steps.length 0 (wrongB S l tick) = (U, some i)) :
    onceB q l tick S c = ⟨U, c, ⟨1, tick, i, 0⟩⟩ := by unfold onceB; rw [h]
theorem onceB_on2 {q : SeqD} {l : List DisD} {tick : Int} {S U : Sys} {c : Nat → Int} (h : stepsF q tick q.steps.length 0 (wrongB S l tick) = (U, none)) :
    onceB q l tick S c = ⟨tickB U, countB (tickB U) q c, ticked (tickB U) q tick (countB (tickB U) q c)⟩ := by unfold onceB; rw [h]
theorem ticked_hurt {S : Sys} {q : SeqD} {tick : Int} {c : Nat → Int} {i : Nat} (h : firstN (hurtF q c) q.reds.length 0 = some i) : ticked S q tick c = ⟨3, tick, i, 0⟩ := by unfold ticked; rw [h]
theorem ticked_miss {S : Sys} {q : SeqD} {tick : Int} {c : Nat → Int} {i : Nat} (h : firstN (hurtF q c) q.reds.length 0 = none) (h2 : firstN (missF S q tick) q.steps.length 0 = some i) : ticked S q tick c = ⟨2, tick, i, 0⟩ := by unfold ticked; rw [h, h2]
theorem ticked_end {S : Sys} {q : SeqD} {tick : Int} {c : Nat → Int} (h : firstN (hurtF q c) q.reds.length 0 = none) (h2 : firstN (missF S q tick) q.steps.length 0 = none) (h3 : moreF q tick = false) : ticked S q tick c = ⟨0, tick, 0, 0⟩ := by unfold ticked; rw [h, h2, h3]; rfl
theorem ticked_more {S : Sys} {q : SeqD} {tick : Int} {c : Nat → Int} (h : firstN (hurtF q c) q.reds.length 0 = none) (h2 : firstN (missF S q tick) q.steps.length 0 = none) (h3 : moreF q tick = true) : ticked S q tick c = ⟨-1, 0, 0, 0⟩ := by unfold ticked; rw [h, h2, h3]; rfl
theorem runF_succ (q : SeqD) (l : List DisD) (g : Nat) (tick : Int) (S : Sys) (c : Nat → Int) : runF q l (g + 1) tick S c = (if (onceB q l tick S c).e.why = 0 then ((onceB q l tick S c).s, (onceB q l tick S c).e)
    else if 0 < (onceB q l tick S c).e.why then ((abortB (onceB q l tick S c).s q.abort).1, { (onceB q l tick S c).e with refused := (abortB (onceB q l tick S c).s q.abort).2 })
    else runF q l g (tick + 1) (onceB q l tick S c).s (onceB q l tick S c).c) := rfl
theorem runF_hit {q : SeqD} {l : List DisD} {g : Nat} {tick : Int} {S U : Sys} {c C : Nat → Int} {e : EndD} (h : onceB q l tick S c = ⟨U, C, e⟩) (he : 0 < e.why) : runF q l (g + 1) tick S c = ((abortB U q.abort).1, { e with refused := (abortB U q.abort).2 }) := by
  rw [runF_succ, h]; rw [if_neg (by show ¬ e.why = 0; omega), if_pos (by show 0 < e.why; exact he)]
theorem runF_done {q : SeqD} {l : List DisD} {g : Nat} {tick : Int} {S U : Sys} {c C : Nat → Int} {e : EndD} (h : onceB q l tick S c = ⟨U, C, e⟩) (he : e.why = 0) : runF q l (g + 1) tick S c = (U, e) := by
  rw [runF_succ, h]; rw [if_pos (by show e.why = 0; exact he)]
theorem runF_on {q : SeqD} {l : List DisD} {g : Nat} {tick : Int} {S U : Sys} {c C : Nat → Int} {e : EndD} (h : onceB q l tick S c = ⟨U, C, e⟩) (he : e.why < 0) : runF q l (g + 1) tick S c = runF q l g (tick + 1) U C := by
  rw [runF_succ, h]; rw [if_neg (by show ¬ e.why = 0; omega), if_neg (by show ¬ 0 < e.why; omega)]
theorem firstN_first {f : Nat → Bool} (m : Nat) : ∀ {i k : Nat}, i ≤ k → k < i + m → (∀ j, i ≤ j → j < k → f j = false) → f k = true → firstN f m i = some k := by
  induction m with
  | zero => intro i k h1 h2; omega
  | succ m ih =>
    intro i k h1 h2 h3 h4
    by_cases e : i = k
    · subst e; exact firstN_hit h4
    · rw [firstN_step (h3 i (Nat.le_refl _) (by omega))]
      exact ih (by omega) (by omega) (fun j g1 g2 => h3 j (by omega) g2) h4
theorem moreF_iff2 {q : SeqD} {tick : Int} (h : moreF q tick = true) : ∃ k, k < q.steps.length ∧ tick < (q.step k).at_ := by
  unfold moreF at h
  apply Classical.byContradiction
  intro hn
  have : (allN q.steps.length fun i => !decide (tick < (q.step i).at_)) = true := allN_iff.2 fun i hi => by
    have : ¬ tick < (q.step i).at_ := fun h2 => hn ⟨i, hi, h2⟩
    simp; omega
  rw [this] at h; cases h
theorem runB_no0 {S : Sys} {q : SeqD} {l : List DisD} (hv : ¬ (seqB S.p q = true ∧ dissB S.p l = true)) : runB S q l = (S, end0, 2) := by
  unfold runB; rw [if_neg (by rw [Bool.and_eq_true]; exact hv)]
theorem seqB_red {p : PlantD} {q : SeqD} (h : seqB p q = true) {i : Nat} (hi : i < q.reds.length) : needOk p (q.red i).need = true := by
  unfold seqB at h
  simp only [Bool.and_eq_true] at h
  have h1 := allN_iff.1 h.2 i hi
  unfold redOk at h1
  simp only [Bool.and_eq_true] at h1
  exact h1.1
theorem seqB_need {p : PlantD} {q : SeqD} (h : seqB p q = true) {i : Nat} (hi : i < q.steps.length) {k : Nat} (hk : k < (q.step i).needs.length) : needOk p ((q.step i).needs.getD k need0) = true := by
  unfold seqB at h
  simp only [Bool.and_eq_true] at h
  have h1 := allN_iff.1 h.1.2 i hi
  unfold stepOk needsOk at h1
  simp only [Bool.and_eq_true] at h1
  exact allN_iff.1 h1.2.2 k hk
theorem seqB_lens {p : PlantD} {q : SeqD} (h : seqB p q = true) : q.steps.length ≤ 64 ∧ q.reds.length ≤ 16 := by
  unfold seqB at h
  simp only [Bool.and_eq_true, decide_eq_true_eq] at h
  omega
theorem missF_eq {S : Sys} {q : SeqD} {tick : Int} {i : Nat} (h : (q.step i).at_ = tick) : missF S q tick i = !(allN (q.step i).needs.length fun k => keptB S ((q.step i).needs.getD k need0)) := by
  unfold missF; rw [h]; simp
end Go.Proofs.YtogobjmmgjfjjaaGreat
/- What is proved: a contract of Run of engine.System. Conditions: the system lies in memory; the sequence and what goes wrong lie in memory that the system's calls do not turn. -/
namespace Go.Proofs.YtogobjmmgjfjjaaGreat
open Go.RowKit

def RunPost (X : SX) (w : World) (S : Sys) (q : SeqD) (l : List DisD) (e : Ending) (w' : World) : Prop :=
  e = .returned (.tuple #[.agg (endA (runB S q l).2.1), .int .i64 (runB S q l).2.2]) ∧ SysAt w' X (runB S q l).1 ∧ Chg X w w'

set_option maxRecDepth 100000 in
set_option maxHeartbeats 16000000 in
theorem run_any (w : World) (X : SX) (S : Sys) (h : SysAt w X S) (y : QV) (q : SeqD) (hq : ∀ z, Chg X w z → SeqAt z z.heap.size y q) (A : Option Addr) (cc : Nat) (l : List DisD) (hl : ∀ z, Chg X w z → DisAt z z.heap.size A l) :
    Calls Tryz.prog 35 #[.pointer (some ⟨X.sb, 0, none⟩), .agg (seqA y q), .slice A l.length cc] w (RunPost X w S q l) := by
  obtain ⟨W, hW⟩ : ∃ W, W = (w.alloc (.cells (seqA y q) 43)).alloc (.cells (endA end0) 85) := ⟨_, rfl⟩
  have hbW : Below w.heap.size w W := by rw [hW]; exact ((Below.refl _ _).alloc (Nat.le_refl _) _).alloc (by simp) _
  have hWs : W.heap.size = w.heap.size + 2 := by rw [hW]; simp
  have hb0 : Bk W w.heap.size 43 (seqA y q) := by rw [hW]; exact (Bk.new _ _ _).alloc _
  have hb1 : Bk W (w.heap.size + 1) 85 (endA end0) := by rw [hW]; exact Bk.newAt _ _ _ _ (by simp)
  have hSW := h.below hbW
  have hlens := h.lens
  have HQ := Lib.hid hq
  have HL := Lib.hid hl
  have HCW : Hid (∀ z, Below W.heap.size W z → Chg X w z) := Lib.hid fun z hz => Chg.of_below (hbW.trans (hz.mono hbW.size))
  have HI := Lib.hid (is_any W X S hSW)
  have HCS := Lib.hid fun (z : Ext W) => checkSequence_any z.w X.pv S.p (hSW.below z.h).plantAt y q (HQ.out _ (HCW.out _ z.h))
  have HDI := Lib.hid fun (z : Ext W) => disordered_any z.w X.pv S.p (by omega) A cc l (HL.out _ (HCW.out _ z.h))
  have c0 := Ext.cell hSW.cells.c0; have c1 := Ext.cell hSW.cells.c1; have c2 := Ext.cell hSW.cells.c2; have c3 := Ext.cell hSW.cells.c3
  have q0 := Ext.cell (hb0.cell 0); have q1 := Ext.cell (hb0.cell 1); have q2 := Ext.cell (hb0.cell 2)
  have hXi := h.hi.2.2.2.2
  have HSW := Lib.hid hSW
  have HB0 := Lib.hid hb0
  have HB1 := Lib.hid hb1
  have HBW := Lib.hid hbW
  have HW := Lib.hid hW
  have HH := Lib.hid h
  simp only [plantA, seqA] at HCS HDI
  simp only [seqA, endA, end0] at HW
  simp only [seqA] at q0 q1 q2
  clear h hq hl hlens hSW hb0 hb1 hbW hW
  simp only [seqA]
  by_cases hv1 : seqB S.p q = true
  case neg =>
    have HF : Hid (runB S q l = (S, end0, 2)) := Lib.hid (runB_no0 fun hh => hv1 hh.1)
    have hv1' : seqB S.p q = false := by simpa using hv1
    rw [hv1'] at HCS
    clear hv1 hv1'
    go_enter Tryz.func35, Tryz.ntmps35
    go_wp2_with fail
    go_step3
    go_wp2_with fail
    rw [← HW.out]
    refine HI.out.mono ?_
    rintro e w' ⟨rfl, rfl⟩
    go_wp2_with fail
    refine wp_region_ext_quiet (by kernel_rfl) (by kernel_rfl) ?_
    repeat (go_big_quiet_step (first | ((go_at_call 21; exact Ext.calls (HCS.out _))) | ((go_at_call 95; exact Ext.calls (HDI.out _)))))
    refine wpQuiet_nil ?_
    intro w5 hw5
    have HR1 := Lib.hid (HB1.out.below hw5 HB1.out.lt)
    have HS5 := Lib.hid (HSW.out.below hw5)
    have HC5 := Lib.hid (HCW.out _ hw5)
    clear c0 c1 c2 c3 q0 q1 q2 hw5
    go_wp2_with (refine wpStoreAt rfl rfl 85 _ _ rfl (w.heap.size + 1) 0 rfl (endA end0) rfl 85 _ HR1.out (by show 0 + 4 ≤ 4; omega) (endA_one _) info_ended ?_; intro wf hkf hof)
    try rw [Exit.noGoto_ret]
    refine bodyPost_ret (results_cellS_tmp rfl _ _ (w.heap.size + 1) 85 (endA end0) _ rfl (by rw [endA_spl] at hkf; exact hkf) und_ended rfl info_ended) rfl ?_
    unfold RunPost
    rw [HF.out]
    exact ⟨rfl, HS5.out.only hof (by omega), HC5.out.only2 hof (by omega)⟩
  by_cases hv2 : dissB S.p l = true
  case neg =>
    have HF : Hid (runB S q l = (S, end0, 2)) := Lib.hid (runB_no0 fun hh => hv2 hh.2)
    have hv2' : dissB S.p l = false := by simpa using hv2
    rw [hv1] at HCS
    rw [hv2'] at HDI
    clear hv1 hv2 hv2'
    go_enter Tryz.func35, Tryz.ntmps35
    go_wp2_with fail
    go_step3
    go_wp2_with fail
    rw [← HW.out]
    refine HI.out.mono ?_
    rintro e w' ⟨rfl, rfl⟩
    go_wp2_with fail
    refine wp_region_ext_quiet (by kernel_rfl) (by kernel_rfl) ?_
    repeat (go_big_quiet_step (first | ((go_at_call 21; exact Ext.calls (HCS.out _))) | ((go_at_call 95; exact Ext.calls (HDI.out _)))))
    refine wpQuiet_nil ?_
    intro w5 hw5
    have HR1 := Lib.hid (HB1.out.below hw5 HB1.out.lt)
    have HS5 := Lib.hid (HSW.out.below hw5)
    have HC5 := Lib.hid (HCW.out _ hw5)
    clear c0 c1 c2 c3 q0 q1 q2 hw5
    go_wp2_with (refine wpStoreAt rfl rfl 85 _ _ rfl (w.heap.size + 1) 0 rfl (endA end0) rfl 85 _ HR1.out (by show 0 + 4 ≤ 4; omega) (endA_one _) info_ended ?_; intro wf hkf hof)
    try rw [Exit.noGoto_ret]
    refine bodyPost_ret (results_cellS_tmp rfl _ _ (w.heap.size + 1) 85 (endA end0) _ rfl (by rw [endA_spl] at hkf; exact hkf) und_ended rfl info_ended) rfl ?_
    unfold RunPost
    rw [HF.out]
    exact ⟨rfl, HS5.out.only hof (by omega), HC5.out.only2 hof (by omega)⟩
  obtain ⟨G, hG⟩ : ∃ G, runF q l 10001 0 S (fun _ => 0) = G := ⟨_, rfl⟩
  have HPOST : Hid (∀ (e : EndD) (U : Sys) w', (U, e) = G → SysAt w' X U ∧ Chg X w w' → RunPost X w S q l (.returned (.tuple #[.agg (endA e), .int .i64 0])) w') := Lib.hid fun e U w' hh h2 => by
    have e1 : runB S q l = (G.1, G.2, 0) := by unfold runB; rw [if_pos (by rw [hv1, hv2]; rfl), hG]
    unfold RunPost
    rw [e1, ← hh]
    exact ⟨rfl, h2⟩
  have HG0 := Lib.hid hG
  have HV1 := Lib.hid hv1
  obtain ⟨p, hp⟩ : ∃ p, S.p = p := ⟨_, rfl⟩
  have HP := Lib.hid hp
  rw [hv1] at HCS
  rw [hv2] at HDI
  have hred := (seqB_lens hv1).2
  have hstp := (seqB_lens hv1).1
  clear hv1 hv2 hG hp
  obtain ⟨i0, hi0, hz0, hz1, hz2⟩ := info_parts infoC_IntR
  have KM : ∀ w : World, (Instr.makeSlice 50 (.int .i64 (q.reds.length : Int)) (.int .i64 (q.reds.length : Int))).run Tryz.prog w = .ok (.slice (some ⟨w.heap.size, 0, none⟩) q.reds.length q.reds.length) (w.alloc (.cells (carrA q.reds.length fun _ => 0) 3)) := fun w => by
    have hm := run_makeSlice (P := Tryz.prog) w 50 3 i0 _ Tryz.underlying50 hi0 hz0 .i64 .i64 (q.reds.length : Int) (q.reds.length : Int) (by omega) (by omega) (by rw [hz1, Int.toNat_natCast]; omega) (by rw [hz2]; omega) (by omega)
    rw [hz1, Int.toNat_natCast, made_carrR] at hm
    exact hm
  clear hi0 hz0 hz1 hz2 i0
  go_enter Tryz.func35, Tryz.ntmps35
  go_wp2_with fail
  go_step3
  go_wp2_with fail
  rw [← HW.out]
  refine HI.out.mono ?_
  rintro e w' ⟨rfl, rfl⟩
  go_wp2_with fail
  refine wp_region_ext_quiet (by kernel_rfl) (by kernel_rfl) ?_
  repeat (go_big_quiet_step (first | ((go_at_call 21; exact Ext.calls (HCS.out _))) | ((go_at_call 95; exact Ext.calls (HDI.out _)))))
  refine wpQuiet_nil ?_
  intro w5 hw5
  have HW5 := Lib.hid hw5
  have hsz5 : w.heap.size + 2 ≤ w5.heap.size := by rw [← hWs]; exact hw5.size
  have b1 : w5.cell? ⟨w.heap.size, 1, none⟩ = some (.slice y.rA q.reds.length y.rc) := (HB0.out.below hw5 HB0.out.lt).cell 1
  have hq5 : w.heap.size < w5.heap.size := by omega
  clear c0 c1 c2 c3 q0 q1 q2 hw5
  go_wp2_with fail
  go_step3
  go_wp2_with fail
  have HST : Hid (RunSt X w w.heap.size (w.heap.size + 1) w5.heap.size (w5.heap.size + 1) q.reds.length y q ((w5.alloc (.cells (endA ⟨0, 0, 0, 0⟩) 85)).alloc (.cells (carrA q.reds.length fun _ => 0) 3)) S ⟨0, 0, 0, 0⟩ fun _ => 0) := Lib.hid (by
    have hal : Below w5.heap.size w5 ((w5.alloc (.cells (endA ⟨0, 0, 0, 0⟩) 85)).alloc (.cells (carrA q.reds.length fun _ => 0) 3)) := ((Below.refl _ _).alloc (Nat.le_refl _) _).alloc (by simp) _
    have hb5 := HW5.out.trans (hal.mono HW5.out.size)
    exact ⟨HSW.out.below hb5, HCW.out _ hb5, HB0.out.below hb5 HB0.out.lt, HB1.out.below hb5 HB1.out.lt, (Bk.new _ _ _).alloc _, Bk.newAt _ _ _ _ (by simp), by omega⟩)
  simp only [endA] at HST
  obtain ⟨eb, heb⟩ : ∃ b, w5.heap.size = b := ⟨_, rfl⟩
  rw [heb] at HST ⊢
  obtain ⟨w6, hw6⟩ : ∃ w6, ((w5.alloc (.cells #[.int .i64 0, .int .i64 0, .int .i64 0, .int .i64 0] 85)).alloc (.cells (carrA q.reds.length fun _ => 0) 3)) = w6 := ⟨_, rfl⟩
  rw [hw6] at HST ⊢
  obtain ⟨kb, hkb⟩ : ∃ b, eb + 1 = b := ⟨_, rfl⟩
  rw [hkb] at HST ⊢
  clear hw6 hkb heb b1 KM hsz5 HW5
  go_loopg [10] 10001 (fun g i wr => ∃ (t : Nat) (T : Sys) (a0 : Int) (c : Nat → Int), t + g = 10001 ∧ 1 ≤ g ∧ i = .int .i64 t ∧ Hid (RunSt X w w.heap.size (w.heap.size + 1) eb kb q.reds.length y q wr T ⟨0, a0, 0, 0⟩ c ∧ T.p = p ∧ runF q l g t T c = G ∧ ∀ k, 0 ≤ c k ∧ c k ≤ t))
  case atStart => exact ⟨0, S, 0, fun _ => 0, rfl, by omega, rfl, Lib.hid ⟨HST.out, HP.out, HG0.out, fun k => by simp⟩⟩
  case round =>
    obtain ⟨t, T, a0, c, htg, hg1, rfl, hs⟩ := hrel
    obtain ⟨g, rfl⟩ : ∃ g, gk = g + 1 := ⟨gk - 1, by omega⟩
    have e1 := hs.out.1.cells.2.1.2.1
    have ef := hs.out.1.cells.2.2 1
    simp only at e1
    go_wp2_with fail
    have HS1 : Hid (RunSt X w w.heap.size (w.heap.size + 1) eb kb q.reds.length y q (wr.setCell ⟨eb, 1, none⟩ (.int .i64 t)) T ⟨0, t, 0, 0⟩ c) := Lib.hid (hs.out.1.setE 1 _ rfl)
    refine (wrong_any _ X T HS1.out.sys A cc l (fun z hz => HL.out z (HS1.out.chg.trans hz)) t).mono ?_
    rintro e w2 ⟨rfl, h1, h2⟩
    have HS2 := Lib.hid (HS1.out.calls h1 h2)
    obtain ⟨T1, hT1⟩ : ∃ T1, wrongB T l t = T1 := ⟨_, rfl⟩
    rw [hT1] at HS2
    have hT1p : T1.p = p := by rw [← hT1]; exact (wrongK_keeps T l t l.length).1.trans hs.out.2.1
    have HT1 := Lib.hid hT1
    have HT1P := Lib.hid hT1p
    have HRF := Lib.hid hs.out.2.2.1
    have HCR := Lib.hid hs.out.2.2.2
    clear h1 h2 e1 ef HS1 hs hT1 hT1p
    obtain ⟨⟨s0, s1, s2⟩, _, _⟩ := HS2.out.cells
    have hdu := engDue_any w2 y q (HQ.out w2 HS2.out.chg) t
    simp only [seqA] at hdu
    have HDU := Lib.hid hdu
    clear hdu
    go_wp2_with fail
    refine HDU.out.mono ?_
    rintro e w3 ⟨f, u, rfl, hdue, hb3⟩
    have HS3 := Lib.hid (HS2.out.later hb3)
    have HDUE := Lib.hid hdue
    have hfu : f ≤ u := hdue.1
    have hun : u ≤ q.steps.length := hdue.2.1
    obtain ⟨SF, hSF⟩ : ∃ SF, stepsF q t (u - f) f T1 = SF := ⟨_, rfl⟩
    have HSF0 : Hid (stepsF q t q.steps.length 0 (wrongB T l t) = SF) := Lib.hid (by rw [HT1.out, due_steps HV1.out hdue T1, hSF])
    have HSF := Lib.hid hSF
    clear hdue hb3 hSF s0 s1 s2 HDU
    go_wp2_with fail
    go_loopg [13] (u - f) (fun g2 i wr => ∃ (k : Nat) (T2 : Sys), k + g2 = u ∧ f ≤ k ∧ i = .int .i64 k ∧ Hid (RunSt X w w.heap.size (w.heap.size + 1) eb kb q.reds.length y q wr T2 ⟨0, t, 0, 0⟩ c ∧ T2.p = p ∧ stepsF q t (u - k) k T2 = SF))
    case atStart => exact ⟨f, T1, by omega, Nat.le_refl _, rfl, Lib.hid ⟨HS3.out, HT1P.out, HSF.out⟩⟩
    case round =>
      obtain ⟨k, T2, hkg, hfk, rfl, hs2⟩ := hrel
      by_cases hlt : k < u
      · have hki : (k : Int) < (u : Int) := by omega
        have h0k : (0 : Int) ≤ (k : Int) := by omega
        have hks : k < q.steps.length := by omega
        have hkn : (k : Int) < (q.steps.length : Int) := by omega
        have s0 := hs2.out.1.cells.1.1
        obtain ⟨b, off, hA, hBb, d0, d1, d2⟩ := (HQ.out wr hs2.out.1.chg).steps.at3 hks
        simp only [stepC] at d0 d1 d2
        rw [hA] at s0
        have HGV := Lib.hid (give_any wr X T2 hs2.out.1.sys (y.oA k) (y.oc k) (q.step k).orders (fun z hz => (HQ.out z (hs2.out.1.chg.trans hz)).so k hks))
        have hat : (q.step k).at_ = t := HDUE.out.2.2.2.2.1 k hfk hlt
        have HST2 := Lib.hid (show stepsF q t (u - (k + 1) + 1) k T2 = SF by rw [show u - (k + 1) + 1 = u - k from by omega]; exact hs2.out.2.2)
        have HAT := Lib.hid hat
        have HT2P := Lib.hid hs2.out.2.1
        have HR2 := Lib.hid hs2.out.1
        clear hat hA hs2
        go_wp2_with fail
        refine HGV.out.mono ?_
        rintro e w4 ⟨rfl, h1, h2⟩
        have HS4 := Lib.hid (HR2.out.calls h1 h2)
        obtain ⟨T3, hT3⟩ : ∃ T3, (giveB T2 (q.step k).orders).1 = T3 := ⟨_, rfl⟩
        rw [hT3] at HS4
        have HT3P : Hid (T3.p = p) := Lib.hid (by rw [← hT3]; exact (giveB_keeps _ _).1.trans HT2P.out)
        have HT3 := Lib.hid hT3
        clear h1 h2 s0 d0 d1 d2 HGV hT3 HR2
        cases hgb : (giveB T2 (q.step k).orders).2 with
        | true =>
          have HGG : Hid (((abortB T3 q.abort).1, ({ why := 1, at_ := t, index := k, refused := (abortB T3 q.abort).2 } : EndD)) = G) := Lib.hid (by
            have e1 := stepsF_hit (q := q) (tick := t) (m := u - (k + 1)) HAT.out hgb
            rw [HST2.out, HT3.out] at e1
            have e2 := HSF0.out
            rw [e1] at e2
            have e3 := runF_hit (g := g) (onceB_hit2 (c := c) e2) (by show (0 : Int) < 1; decide)
            rw [HRF.out] at e3
            exact e3.symm)
          have hif : (if true = true then (1 : Int) else 0) = 1 := rfl
          rw [hif]
          clear hif hgb
          obtain ⟨_, ⟨e0, _, e2, _⟩, ef⟩ := HS4.out.cells
          have ef0 := ef 0
          have ef2 := ef 2
          simp only at e0 e2
          clear ef
          go_upto_region 38 with (fail)
          have HSb : Hid (RunSt X w w.heap.size (w.heap.size + 1) eb kb q.reds.length y q ((w4.setCell ⟨eb, 0, none⟩ (.int .i64 1)).setCell ⟨eb, 2, none⟩ (.int .i64 k)) T3 ({ why := 1, at_ := t, index := k, refused := 0 } : EndD) c) := Lib.hid ((HS4.out.setE (e' := ⟨1, t, 0, 0⟩) 0 _ rfl).setE 2 _ rfl)
          obtain ⟨wb, hwb⟩ : ∃ wb, ((w4.setCell ⟨eb, 0, none⟩ (.int .i64 1)).setCell ⟨eb, 2, none⟩ (.int .i64 k)) = wb := ⟨_, rfl⟩
          rw [hwb] at HSb ⊢
          clear hwb e0 e2 ef0 ef2 HS4
          have b2 := HSb.out.cells.1.2.2
          have HGA := Lib.hid (giveAll_any wb X T3 HSb.out.sys y.aA y.ac q.abort (fun z hz => (HQ.out z (HSb.out.chg.trans hz)).abort))
          go_wp2_with fail
          refine HGA.out.mono ?_
          rintro e w7 ⟨rfl, h1, h2⟩
          have HSc := Lib.hid (HSb.out.calls h1 h2)
          clear h1 h2 b2 HGA HSb
          have b3 := HSc.out.cells.2.1.2.2.2
          have f3 := HSc.out.cells.2.2 3
          simp only at b3
          go_upto_region 39 with (fail)
          have HSd : Hid (RunSt X w w.heap.size (w.heap.size + 1) eb kb q.reds.length y q (w7.setCell ⟨eb, 3, none⟩ (.int .i64 (abortB T3 q.abort).2)) (abortB T3 q.abort).1 ({ why := 1, at_ := t, index := k, refused := (abortB T3 q.abort).2 } : EndD) c) := Lib.hid (HSc.out.setE 3 _ rfl)
          obtain ⟨w8, hw8⟩ : ∃ w8, w7.setCell ⟨eb, 3, none⟩ (.int .i64 (abortB T3 q.abort).2) = w8 := ⟨_, rfl⟩
          rw [hw8] at HSd ⊢
          clear hw8 b3 f3 HSc
          go_wp2_with (first
            | (refine wpLoadAt rfl 85 _ rfl eb 0 rfl (endA ({ why := 1, at_ := t, index := k, refused := (abortB T3 q.abort).2 } : EndD)) _ (fun j u hj => by rw [Nat.zero_add]; exact (HSd.out.be.cell j).trans hj) und_ended rfl info_ended ?_)
            | (refine wpStoreAt rfl rfl 85 _ _ rfl (w.heap.size + 1) 0 rfl (endA ({ why := 1, at_ := t, index := k, refused := (abortB T3 q.abort).2 } : EndD)) rfl 85 _ HSd.out.br (by show 0 + 4 ≤ 4; omega) (endA_one _) info_ended ?_; intro wf hkf hof))
          try rw [Exit.noGoto_ret]
          refine bodyPost_ret (results_cellS_tmp rfl _ _ (w.heap.size + 1) 85 (endA ({ why := 1, at_ := t, index := k, refused := (abortB T3 q.abort).2 } : EndD)) _ rfl (by rw [endA_spl] at hkf; exact hkf) und_ended rfl info_ended) rfl ?_
          exact HPOST.out _ _ _ HGG.out (HSd.out.out hof)
        | false =>
          have hif : (if false = true then (1 : Int) else 0) = 0 := rfl
          rw [hif]
          have HST3 : Hid (stepsF q t (u - (k + 1)) (k + 1) T3 = SF) := Lib.hid (by rw [← HST2.out, stepsF_step HAT.out hgb, HT3.out])
          clear hif hgb
          go_wp2_with fail
          go_roundg (u - (k + 1))
          case measure => omega
          case rel => exact ⟨k + 1, T3, by omega, by omega, by go_num, Lib.hid ⟨HS4.out, HT3P.out, HST3.out⟩⟩
      · obtain rfl : k = u := by omega
        have HON : Hid (onceB q l t T c = ⟨tickB T2, countB (tickB T2) q c, ticked (tickB T2) q t (countB (tickB T2) q c)⟩) := Lib.hid (onceB_on2 (by
          rw [HSF0.out, ← hs2.out.2.2, Nat.sub_self]; rfl))
        have hT4p : (tickB T2).p = p := (tickB_p T2).trans hs2.out.2.1
        have HTK := Lib.hid (tick_any wr X T2 hs2.out.1.sys)
        have HR2 := Lib.hid hs2.out.1
        clear hs2
        obtain ⟨T4, hT4⟩ : ∃ T4, tickB T2 = T4 := ⟨_, rfl⟩
        rw [hT4] at HON HTK hT4p
        obtain ⟨C, hC⟩ : ∃ C, countB T4 q c = C := ⟨_, rfl⟩
        rw [hC] at HON
        have HC := Lib.hid hC
        have HT4P := Lib.hid hT4p
        have HCC : Hid (∀ j, 0 ≤ C j ∧ C j ≤ ((t + 1 : Nat) : Int)) := Lib.hid (by rw [← hC]; exact countB_range HCR.out)
        have hnr : ∀ j, j < q.reds.length → needOk T4.p (q.red j).need = true := fun j hj => seqB_red (by rw [hT4p, ← HP.out]; exact HV1.out) hj
        have HNR := Lib.hid hnr
        have HNS : Hid (∀ j, j < q.steps.length → ∀ i, i < (q.step j).needs.length → needOk T4.p ((q.step j).needs.getD i need0) = true) := Lib.hid fun j hj i hi => seqB_need (by rw [hT4p, ← HP.out]; exact HV1.out) hj hi
        clear hT4 hC hT4p hnr
        have hkk : ¬ ((k : Int) < (k : Int)) := by omega
        go_wp2_with fail
        refine HTK.out.mono ?_
        rintro e w4 ⟨rfl, h1, h2⟩
        have HS4 := Lib.hid (HR2.out.calls h1 h2)
        clear h1 h2 HTK HR2
        have s1 := HS4.out.cells.1.2.1
        go_wp2_with fail
        clear s1
        go_loopg [83] q.reds.length (fun g3 i wr => ∃ (j : Nat), j + g3 = q.reds.length ∧ i = .int .i64 j ∧ Hid (RunSt X w w.heap.size (w.heap.size + 1) eb kb q.reds.length y q wr T4 ⟨0, t, 0, 0⟩ (mixC c C j)))
        case atStart => exact ⟨0, by omega, rfl, Lib.hid (by rw [mixC_zero]; exact HS4.out)⟩
        case round =>
          obtain ⟨j, hjg, rfl, hs3⟩ := hrel
          by_cases hjl : j < q.reds.length
          · have hji : (j : Int) < (q.reds.length : Int) := by omega
            have h0j : (0 : Int) ≤ (j : Int) := by omega
            obtain ⟨b, off, hA, hBb, d0, d1, d2, d3, d4⟩ := (HQ.out wr hs3.out.chg).reds.at5 hjl
            simp only [redC] at d0 d1 d2 d3 d4
            obtain ⟨⟨⟨kd, of_, lw, hg⟩, tk⟩, hrd⟩ : ∃ r, q.red j = r := ⟨_, rfl⟩
            have HRD := Lib.hid hrd
            rw [hrd] at d0 d1 d2 d3 d4
            simp only at d0 d1 d2 d3 d4
            have HA := Lib.hid hA
            rw [hA]
            clear hA
            obtain ⟨cj, hcj⟩ : ∃ a, c j = a := ⟨_, rfl⟩
            have hcr := HCR.out j
            rw [hcj] at hcr
            have hwr : IntKind.i64.wrap (cj + 1) = cj + 1 := IntWalk.i64_in _ (by omega)
            have HCJ := Lib.hid hcj
            have HB9 : Hid (∀ o, Below wr.heap.size wr (wr.alloc o)) := Lib.hid fun o => (Below.refl _ _).alloc (Nat.le_refl _) _
            clear hrd hcj
            go_upto_region 21 with (fail)
            clear d0 d1 d2 d3 d4
            have HS5 := Lib.hid (hs3.out.later (HB9.out (.cells #[.int .i64 kd, .int .i64 of_, .int .i64 lw, .int .i64 hg, .int .i64 tk] 96)))
            have HBN := Lib.hid (Bk.new wr 96 #[.int .i64 kd, .int .i64 of_, .int .i64 lw, .int .i64 hg, .int .i64 tk])
            obtain ⟨w7, hw7⟩ : ∃ w7, wr.alloc (.cells #[.int .i64 kd, .int .i64 of_, .int .i64 lw, .int .i64 hg, .int .i64 tk] 96) = w7 := ⟨_, rfl⟩
            rw [hw7] at HS5 HBN ⊢
            obtain ⟨nb, hnb⟩ : ∃ nb, wr.heap.size = nb := ⟨_, rfl⟩
            have hnk : kb < nb := by rw [← hnb]; exact hs3.out.bk.lt
            rw [hnb] at HBN ⊢
            have e5 := (HS5.out.count hjl).1
            have f5 := (HS5.out.count hjl).2
            rw [mixC_at, HCJ.out] at e5
            clear hw7 hnb hs3 HB9
            go_upto_region 22 with (fail)
            have HS6 : Hid (RunSt X w w.heap.size (w.heap.size + 1) eb kb q.reds.length y q (w7.setCell ⟨kb, j, none⟩ (.int .i64 (cj + 1))) T4 ⟨0, t, 0, 0⟩ fun i => if i = j then cj + 1 else mixC c C j i) := Lib.hid (HS5.out.setC j _ fun i _ => rfl)
            have HBM := Lib.hid (HBN.out.only (Only.setCell w7 kb j (.int .i64 (cj + 1))) (by omega))
            obtain ⟨w8, hw8⟩ : ∃ w8, w7.setCell ⟨kb, j, none⟩ (.int .i64 (cj + 1)) = w8 := ⟨_, rfl⟩
            rw [hw8] at HS6 HBM ⊢
            clear hw8 e5 f5 HS5 HBN
            have n0 := HBM.out.cell 0; have n1 := HBM.out.cell 1; have n2 := HBM.out.cell 2; have n3 := HBM.out.cell 3
            simp at n0 n1 n2 n3
            have hkp := kept_any w8 X T4 HS6.out.sys ⟨kd, of_, lw, hg⟩ (by have := HNR.out j hjl; rw [HRD.out] at this; exact this)
            simp only [needC] at hkp
            have HKP := Lib.hid hkp
            clear hkp
            go_wp2_with fail
            refine HKP.out.mono ?_
            rintro e w9 ⟨rfl, hb9⟩
            have HS7 := Lib.hid (HS6.out.later hb9)
            clear n0 n1 n2 n3 hb9 HKP HS6 HBM
            cases hkb : keptB T4 ⟨kd, of_, lw, hg⟩ with
            | true =>
              have HMX := Lib.hid (mix_kept (T := T4) (q := q) (c := c) (k := j) (n := q.reds.length) (by rw [HRD.out]; exact hkb))
              clear hkb
              have f5 := (HS7.out.count hjl).2
              have e5 := (HS7.out.count hjl).1
              rw [if_pos rfl] at e5
              go_wp2_with fail
              rw [← HA.out]
              go_roundg (q.reds.length - (j + 1))
              case measure => omega
              case rel => exact ⟨j + 1, by omega, by go_num, Lib.hid (HS7.out.setC j 0 fun i hi => by have := HMX.out i hi; rw [HC.out, HCJ.out] at this; exact this)⟩
            | false =>
              have HMX := Lib.hid (mix_not (T := T4) (q := q) (c := c) (k := j) (n := q.reds.length) (by rw [HRD.out]; exact hkb))
              clear hkb
              go_wp2_with fail
              rw [← HA.out]
              go_roundg (q.reds.length - (j + 1))
              case measure => omega
              case rel => exact ⟨j + 1, by omega, by go_num, Lib.hid (HS7.out.congr fun i hi => by have := HMX.out i hi; rw [HC.out, HCJ.out] at this; exact this)⟩
          · obtain rfl : j = q.reds.length := by omega
            have HS5 : Hid (RunSt X w w.heap.size (w.heap.size + 1) eb kb q.reds.length y q wr T4 ⟨0, t, 0, 0⟩ C) := Lib.hid (hs3.out.congr mixC_all)
            clear hs3
            have s1 := HS5.out.cells.1.2.1
            have hjj : ¬ ((q.reds.length : Int) < (q.reds.length : Int)) := by omega
            go_wp2_with fail
            clear s1
            go_loopg [105] q.reds.length (fun g4 i wr => ∃ (j : Nat), j + g4 = q.reds.length ∧ i = .int .i64 j ∧ Hid (RunSt X w w.heap.size (w.heap.size + 1) eb kb q.reds.length y q wr T4 ⟨0, t, 0, 0⟩ C ∧ ∀ i, i < j → hurtF q C i = false))
            case atStart => exact ⟨0, by omega, rfl, Lib.hid ⟨HS5.out, fun i hi => absurd hi (by omega)⟩⟩
            case round =>
              obtain ⟨j, hjg, rfl, hs4⟩ := hrel
              by_cases hjl : j < q.reds.length
              · have hji : (j : Int) < (q.reds.length : Int) := by omega
                have h0j : (0 : Int) ≤ (j : Int) := by omega
                obtain ⟨b, off, hA, hBb, d0, d1, d2, d3, d4⟩ := (HQ.out wr hs4.out.1.chg).reds.at5 hjl
                simp only [redC] at d0 d1 d2 d3 d4
                obtain ⟨⟨⟨kd, of_, lw, hg⟩, tk⟩, hrd⟩ : ∃ r, q.red j = r := ⟨_, rfl⟩
                have HRD := Lib.hid hrd
                rw [hrd] at d0 d1 d2 d3 d4
                simp only at d0 d1 d2 d3 d4
                have HA := Lib.hid hA
                rw [hA]
                clear hA
                obtain ⟨cj, hcj⟩ : ∃ a, C j = a := ⟨_, rfl⟩
                have HCJ := Lib.hid hcj
                have HNH := Lib.hid hs4.out.2
                have hs5 := Lib.hid hs4.out.1
                have HB9 : Hid (∀ o, Below wr.heap.size wr (wr.alloc o)) := Lib.hid fun o => (Below.refl _ _).alloc (Nat.le_refl _) _
                clear hrd hcj hs4
                go_upto_region 28 with (fail)
                clear d0 d1 d2 d3 d4
                have HS6 := Lib.hid (hs5.out.later (HB9.out (.cells #[.int .i64 kd, .int .i64 of_, .int .i64 lw, .int .i64 hg, .int .i64 tk] 96)))
                have HBN := Lib.hid (Bk.new wr 96 #[.int .i64 kd, .int .i64 of_, .int .i64 lw, .int .i64 hg, .int .i64 tk])
                obtain ⟨w7, hw7⟩ : ∃ w7, wr.alloc (.cells #[.int .i64 kd, .int .i64 of_, .int .i64 lw, .int .i64 hg, .int .i64 tk] 96) = w7 := ⟨_, rfl⟩
                rw [hw7] at HS6 HBN ⊢
                obtain ⟨nb, hnb⟩ : ∃ nb, wr.heap.size = nb := ⟨_, rfl⟩
                rw [hnb] at HBN ⊢
                have e5 := (HS6.out.count hjl).1
                rw [HCJ.out] at e5
                have n4 := HBN.out.cell 4
                simp at n4
                clear hw7 hnb hs5 HB9
                by_cases hh : tk < cj
                · have hgt : decide (cj > tk) = true := by simp; omega
                  have HHF : Hid (hurtF q C j = true) := Lib.hid (by unfold hurtF; rw [HRD.out, HCJ.out]; simpa using hh)
                  have HGG : Hid (((abortB T4 q.abort).1, ({ why := 3, at_ := t, index := j, refused := (abortB T4 q.abort).2 } : EndD)) = G) := Lib.hid (by
                    have e2 := firstN_first (f := hurtF q C) q.reds.length (Nat.zero_le j) (by omega) (fun i _ hi => HNH.out i hi) HHF.out
                    have e1 := HON.out
                    rw [ticked_hurt e2] at e1
                    have e3 := runF_hit (g := g) e1 (by show (0 : Int) < 3; decide)
                    rw [HRF.out] at e3
                    exact e3.symm)
                  go_quiet (fail)
                  rename_i nq
                  have HS8 := Lib.hid (HS6.out.later (below_drewN (Below.refl _ _) nq))
                  obtain ⟨wd, hwd⟩ : ∃ wd, w7.drewN nq = wd := ⟨_, rfl⟩
                  rw [hwd] at HS8 ⊢
                  clear n4 e5 hwd HS6
                  obtain ⟨_, ⟨e0, _, e2, _⟩, ef⟩ := HS8.out.cells
                  have ef0 := ef 0
                  have ef2 := ef 2
                  simp only at e0 e2
                  clear ef HBN
                  go_upto_region 38 with (fail)
                  have HSb : Hid (RunSt X w w.heap.size (w.heap.size + 1) eb kb q.reds.length y q ((wd.setCell ⟨eb, 0, none⟩ (.int .i64 3)).setCell ⟨eb, 2, none⟩ (.int .i64 j)) T4 ({ why := 3, at_ := t, index := j, refused := 0 } : EndD) C) := Lib.hid ((HS8.out.setE (e' := ⟨3, t, 0, 0⟩) 0 _ rfl).setE 2 _ rfl)
                  obtain ⟨wb, hwb⟩ : ∃ wb, ((wd.setCell ⟨eb, 0, none⟩ (.int .i64 3)).setCell ⟨eb, 2, none⟩ (.int .i64 j)) = wb := ⟨_, rfl⟩
                  rw [hwb] at HSb ⊢
                  clear hwb e0 e2 ef0 ef2 HS8
                  have b2 := HSb.out.cells.1.2.2
                  have HGA := Lib.hid (giveAll_any wb X T4 HSb.out.sys y.aA y.ac q.abort (fun z hz => (HQ.out z (HSb.out.chg.trans hz)).abort))
                  go_wp2_with fail
                  refine HGA.out.mono ?_
                  rintro e w7 ⟨rfl, h1, h2⟩
                  have HSc := Lib.hid (HSb.out.calls h1 h2)
                  clear h1 h2 b2 HGA HSb
                  have b3 := HSc.out.cells.2.1.2.2.2
                  have f3 := HSc.out.cells.2.2 3
                  simp only at b3
                  go_upto_region 39 with (fail)
                  have HSd : Hid (RunSt X w w.heap.size (w.heap.size + 1) eb kb q.reds.length y q (w7.setCell ⟨eb, 3, none⟩ (.int .i64 (abortB T4 q.abort).2)) (abortB T4 q.abort).1 ({ why := 3, at_ := t, index := j, refused := (abortB T4 q.abort).2 } : EndD) C) := Lib.hid (HSc.out.setE 3 _ rfl)
                  obtain ⟨w8, hw8⟩ : ∃ w8, w7.setCell ⟨eb, 3, none⟩ (.int .i64 (abortB T4 q.abort).2) = w8 := ⟨_, rfl⟩
                  rw [hw8] at HSd ⊢
                  clear hw8 b3 f3 HSc
                  go_wp2_with (first
                    | (refine wpLoadAt rfl 85 _ rfl eb 0 rfl (endA ({ why := 3, at_ := t, index := j, refused := (abortB T4 q.abort).2 } : EndD)) _ (fun j u hj => by rw [Nat.zero_add]; exact (HSd.out.be.cell j).trans hj) und_ended rfl info_ended ?_)
                    | (refine wpStoreAt rfl rfl 85 _ _ rfl (w.heap.size + 1) 0 rfl (endA ({ why := 3, at_ := t, index := j, refused := (abortB T4 q.abort).2 } : EndD)) rfl 85 _ HSd.out.br (by show 0 + 4 ≤ 4; omega) (endA_one _) info_ended ?_; intro wf hkf hof))
                  try rw [Exit.noGoto_ret]
                  refine bodyPost_ret (results_cellS_tmp rfl _ _ (w.heap.size + 1) 85 (endA ({ why := 3, at_ := t, index := j, refused := (abortB T4 q.abort).2 } : EndD)) _ rfl (by rw [endA_spl] at hkf; exact hkf) und_ended rfl info_ended) rfl ?_
                  exact HPOST.out _ _ _ HGG.out (HSd.out.out hof)
                · have hgt : decide (cj > tk) = false := by simp; omega
                  have HHF : Hid (hurtF q C j = false) := Lib.hid (by unfold hurtF; rw [HRD.out, HCJ.out]; simpa using hh)
                  go_quiet (fail)
                  go_wp2_with fail
                  rw [← HA.out]
                  go_roundg (q.reds.length - (j + 1))
                  case measure => omega
                  case rel => exact ⟨j + 1, by omega, by go_num, Lib.hid ⟨HS6.out.later (below_drewN (Below.refl _ _) _), fun i hi => if e : i = j then by rw [e]; exact HHF.out else HNH.out i (by omega)⟩⟩
              · obtain rfl : j = q.reds.length := by omega
                have HS6 := Lib.hid hs4.out.1
                have HNH : Hid (firstN (hurtF q C) q.reds.length 0 = none) := Lib.hid (firstN_none.2 fun i _ hi => hs4.out.2 i (by omega))
                have hjj : ¬ ((q.reds.length : Int) < (q.reds.length : Int)) := by omega
                clear hs4
                go_wp2_with fail
                go_loopg [18] (k - f) (fun g5 i wr => ∃ (j : Nat), j + g5 = k ∧ f ≤ j ∧ i = .int .i64 j ∧ Hid (RunSt X w w.heap.size (w.heap.size + 1) eb kb q.reds.length y q wr T4 ⟨0, t, 0, 0⟩ C ∧ ∀ i, f ≤ i → i < j → missF T4 q t i = false))
                case atStart => exact ⟨f, by omega, Nat.le_refl _, rfl, Lib.hid ⟨HS6.out, fun i h1 h2 => absurd h1 (by omega)⟩⟩
                case round =>
                  obtain ⟨j, hjg, hfj, rfl, hs5⟩ := hrel
                  have s0 := hs5.out.1.cells.1.1
                  by_cases hjl : j < k
                  · have hji : (j : Int) < (k : Int) := by omega
                    have h0j : (0 : Int) ≤ (j : Int) := by omega
                    have hjs : j < q.steps.length := by omega
                    have hjn : (j : Int) < (q.steps.length : Int) := by omega
                    obtain ⟨b, off, hA, hBb, d0, d1, d2⟩ := (HQ.out wr hs5.out.1.chg).steps.at3 hjs
                    simp only [stepC] at d0 d1 d2
                    rw [hA] at s0
                    have HAK := Lib.hid (allKept_any wr X T4 hs5.out.1.sys (y.nA j) (y.nc j) (q.step j).needs ((HQ.out wr hs5.out.1.chg).sn j hjs) (fun i hi => HNS.out j hjs i hi))
                    have HMF := Lib.hid (missF_eq (S := T4) (HDUE.out.2.2.2.2.1 j hfj hjl))
                    have HNM := Lib.hid hs5.out.2
                    have HS7 := Lib.hid hs5.out.1
                    clear hA hs5
                    go_wp2_with fail
                    refine HAK.out.mono ?_
                    rintro e w4 ⟨rfl, hb4⟩
                    have HS8 := Lib.hid (HS7.out.later hb4)
                    obtain ⟨kb2, hkb2⟩ : ∃ b, (allN (q.step j).needs.length fun i => keptB T4 ((q.step j).needs.getD i need0)) = b := ⟨_, rfl⟩
                    rw [hkb2] at HMF ⊢
                    clear hb4 hkb2 s0 d0 d1 d2 HAK HS7
                    cases kb2 with
                    | true =>
                      go_wp2_with fail
                      go_roundg (k - (j + 1))
                      case measure => omega
                      case rel => exact ⟨j + 1, by omega, by omega, by go_num, Lib.hid ⟨HS8.out, fun i h1 h2 => if e : i = j then by rw [e]; exact HMF.out else HNM.out i h1 (by omega)⟩⟩
                    | false =>
                      have HGG : Hid (((abortB T4 q.abort).1, ({ why := 2, at_ := t, index := j, refused := (abortB T4 q.abort).2 } : EndD)) = G) := Lib.hid (by
                        have e2 := firstN_first (f := missF T4 q t) (k - f) hfj (by omega) HNM.out HMF.out
                        rw [← due_miss HV1.out HDUE.out] at e2
                        have e1 := HON.out
                        rw [ticked_miss HNH.out e2] at e1
                        have e3 := runF_hit (g := g) e1 (by show (0 : Int) < 2; decide)
                        rw [HRF.out] at e3
                        exact e3.symm)
                      obtain ⟨_, ⟨e0, _, e2, _⟩, ef⟩ := HS8.out.cells
                      have ef0 := ef 0
                      have ef2 := ef 2
                      simp only at e0 e2
                      clear ef
                      go_upto_region 38 with (fail)
                      have HSb : Hid (RunSt X w w.heap.size (w.heap.size + 1) eb kb q.reds.length y q ((w4.setCell ⟨eb, 0, none⟩ (.int .i64 2)).setCell ⟨eb, 2, none⟩ (.int .i64 j)) T4 ({ why := 2, at_ := t, index := j, refused := 0 } : EndD) C) := Lib.hid ((HS8.out.setE (e' := ⟨2, t, 0, 0⟩) 0 _ rfl).setE 2 _ rfl)
                      obtain ⟨wb, hwb⟩ : ∃ wb, ((w4.setCell ⟨eb, 0, none⟩ (.int .i64 2)).setCell ⟨eb, 2, none⟩ (.int .i64 j)) = wb := ⟨_, rfl⟩
                      rw [hwb] at HSb ⊢
                      clear hwb e0 e2 ef0 ef2 HS8
                      have b2 := HSb.out.cells.1.2.2
                      have HGA := Lib.hid (giveAll_any wb X T4 HSb.out.sys y.aA y.ac q.abort (fun z hz => (HQ.out z (HSb.out.chg.trans hz)).abort))
                      go_wp2_with fail
                      refine HGA.out.mono ?_
                      rintro e w7 ⟨rfl, h1, h2⟩
                      have HSc := Lib.hid (HSb.out.calls h1 h2)
                      clear h1 h2 b2 HGA HSb
                      have b3 := HSc.out.cells.2.1.2.2.2
                      have f3 := HSc.out.cells.2.2 3
                      simp only at b3
                      go_upto_region 39 with (fail)
                      have HSd : Hid (RunSt X w w.heap.size (w.heap.size + 1) eb kb q.reds.length y q (w7.setCell ⟨eb, 3, none⟩ (.int .i64 (abortB T4 q.abort).2)) (abortB T4 q.abort).1 ({ why := 2, at_ := t, index := j, refused := (abortB T4 q.abort).2 } : EndD) C) := Lib.hid (HSc.out.setE 3 _ rfl)
                      obtain ⟨w8, hw8⟩ : ∃ w8, w7.setCell ⟨eb, 3, none⟩ (.int .i64 (abortB T4 q.abort).2) = w8 := ⟨_, rfl⟩
                      rw [hw8] at HSd ⊢
                      clear hw8 b3 f3 HSc
                      go_wp2_with (first
                        | (refine wpLoadAt rfl 85 _ rfl eb 0 rfl (endA ({ why := 2, at_ := t, index := j, refused := (abortB T4 q.abort).2 } : EndD)) _ (fun j u hj => by rw [Nat.zero_add]; exact (HSd.out.be.cell j).trans hj) und_ended rfl info_ended ?_)
                        | (refine wpStoreAt rfl rfl 85 _ _ rfl (w.heap.size + 1) 0 rfl (endA ({ why := 2, at_ := t, index := j, refused := (abortB T4 q.abort).2 } : EndD)) rfl 85 _ HSd.out.br (by show 0 + 4 ≤ 4; omega) (endA_one _) info_ended ?_; intro wf hkf hof))
                      try rw [Exit.noGoto_ret]
                      refine bodyPost_ret (results_cellS_tmp rfl _ _ (w.heap.size + 1) 85 (endA ({ why := 2, at_ := t, index := j, refused := (abortB T4 q.abort).2 } : EndD)) _ rfl (by rw [endA_spl] at hkf; exact hkf) und_ended rfl info_ended) rfl ?_
                      exact HPOST.out _ _ _ HGG.out (HSd.out.out hof)
                  · obtain rfl : j = k := by omega
                    have HNM : Hid (firstN (missF T4 q t) q.steps.length 0 = none) := Lib.hid (by rw [due_miss HV1.out HDUE.out]; exact firstN_none.2 fun i h1 h2 => hs5.out.2 i h1 (by omega))
                    have HS8 := Lib.hid hs5.out.1
                    have hjj : ¬ ((j : Int) < (j : Int)) := by omega
                    clear hs5
                    by_cases hu : j = q.steps.length
                    · have hui : (j : Int) = (q.steps.length : Int) := by omega
                      have HGG : Hid ((T4, (⟨0, t, 0, 0⟩ : EndD)) = G) := Lib.hid (by
                        have e1 := HON.out
                        rw [ticked_end HNH.out HNM.out (by rw [due_more HV1.out HDUE.out]; simp; omega)] at e1
                        have e3 := runF_done (g := g) e1 rfl
                        rw [HRF.out] at e3
                        exact e3.symm)
                      go_upto_region 37 with (fail)
                      clear s0
                      go_wp2_with (first
                        | (refine wpLoadAt rfl 85 _ rfl eb 0 rfl (endA ⟨0, t, 0, 0⟩) _ (fun j u hj => by rw [Nat.zero_add]; exact (HS8.out.be.cell j).trans hj) und_ended rfl info_ended ?_)
                        | (refine wpStoreAt rfl rfl 85 _ _ rfl (w.heap.size + 1) 0 rfl (endA ⟨0, t, 0, 0⟩) rfl 85 _ HS8.out.br (by show 0 + 4 ≤ 4; omega) (endA_one _) info_ended ?_; intro wf hkf hof))
                      try rw [Exit.noGoto_ret]
                      refine bodyPost_ret (results_cellS_tmp rfl _ _ (w.heap.size + 1) 85 (endA ⟨0, t, 0, 0⟩) _ rfl (by rw [endA_spl] at hkf; exact hkf) und_ended rfl info_ended) rfl ?_
                      exact HPOST.out _ _ _ HGG.out (HS8.out.out hof)
                    · have hui : ¬ ((j : Int) = (q.steps.length : Int)) := by omega
                      have hmr : moreF q t = true := by rw [due_more HV1.out HDUE.out]; simp; omega
                      obtain ⟨k2, hk2, hk3⟩ := moreF_iff2 hmr
                      have hk4 := (steps_at HV1.out hk2).2
                      have HRF2 : Hid (runF q l g ((t + 1 : Nat) : Int) T4 C = G) := Lib.hid (by
                        have e1 := HON.out
                        rw [ticked_more HNH.out HNM.out hmr] at e1
                        have e3 := runF_on (g := g) e1 (by show (-1 : Int) < 0; decide)
                        rw [HRF.out] at e3
                        exact e3.symm)
                      have hg2 : 1 ≤ g := by omega
                      have ht9 : t < 10000 := by omega
                      clear hmr hk2 hk3 hk4
                      go_wp2_with fail
                      go_roundg g
                      case measure => omega
                      case rel => exact ⟨t + 1, T4, _, C, by omega, hg2, by go_num, Lib.hid ⟨HS8.out, HT4P.out, HRF2.out, HCC.out⟩⟩
end Go.Proofs.YtogobjmmgjfjjaaGreat
