/- What is proved: the rule for a region whose order is drawn, operation by operation. Conditions: those that the rule states. -/
import Derived.Test.YtogobjmmgjfjjaaReg
namespace Go.Proofs.Ytogobjmmgjfjjaa
open Go.RowKit

/-- What is owed for operation i, o: from a frame that holds what it waits for, it leaves what R says. -/
def StepOk (P : Program) (l : List Oper) (Q : Exit → Act → World → Prop) (a0 : Act) (J : World → Prop) (E : Nat → World → World → Prop) (R : Nat → Value → (Nat → Value) → World → Prop) (i : Nat) (o : Oper) : Prop :=
  ∀ (a : Act) (w : World) (vs : Nat → Value) (K : Act → World → Prop), J w → (∀ t, keepB l i t = true → a.tmps[t]?.getD undef = a0.tmps[t]?.getD undef) →
    (∀ j oj d, l[j]? = some oj → oj.dst = some d → afterB o j = true → a.tmps[d]?.getD undef = vs j ∧ R j (vs j) (maskV oj vs) w) →
    (∀ j oj, l[j]? = some oj → afterB o j = true → R j (vs j) (maskV oj vs) w) →
    (∀ v w', (o.dst = none → v = undef) → J w' → E i w w' → R i v (maskV o vs) w' → K (a.put o.dst v) w') →
    if Region.wanted o (yielded l.toArray a.tmps) then o.wp P a w K Q else K (a.put o.dst undef) w
def StepsOk (P : Program) (l : List Oper) (Q : Exit → Act → World → Prop) (a0 : Act) (J : World → Prop) (E : Nat → World → World → Prop) (R : Nat → Value → (Nat → Value) → World → Prop) : List Oper → Nat → Prop
  | [], _ => True
  | o :: rest, i => StepOk P l Q a0 J E R i o ∧ StepsOk P l Q a0 J E R rest (i + 1)

theorem StepsOk.at {P : Program} {l : List Oper} {Q : Exit → Act → World → Prop} {a0 : Act} {J : World → Prop} {E : Nat → World → World → Prop} {R : Nat → Value → (Nat → Value) → World → Prop} :
    ∀ (r : List Oper) (k : Nat), StepsOk P l Q a0 J E R r k → ∀ i o, r[i]? = some o → StepOk P l Q a0 J E R (k + i) o
  | [], _, _, i, o, h => by simp at h
  | x :: r, k, hs, 0, o, h => by simp at h; subst h; exact hs.1
  | x :: r, k, hs, i + 1, o, h => by
    have := StepsOk.at r (k + 1) hs.2 i o (by simpa using h)
    rwa [show k + (i + 1) = k + 1 + i from by omega]

theorem wp_region_steps {P : Program} {l : List Oper} {Q : Exit → Act → World → Prop} {a0 : Act} {id : Nat} {w0 : World} (hm : P.follows .mixedOrders = true) (hB : regB l a0.tmps.size = true)
    (J : World → Prop) (E : Nat → World → World → Prop) (R : Nat → Value → (Nat → Value) → World → Prop) (hJ : J w0.drew)
    (hR : ∀ i j, i ≠ j → ancB l l.length i j = false → ∀ v d w w', R i v d w → J w → E j w w' → R i v d w')
    (hs : StepsOk P l Q a0 J E R l 0)
    (hend : ∀ (vs : Nat → Value) (w : World), J w → (∀ i o, l[i]? = some o → R i (vs i) (maskV o vs) w) → Q .normal (putAll l vs 0 a0) w) :
    (Code.region id l.toArray true).wp P Q a0 w0 := by
  refine wp_region_ext hm hB J E R hJ hR ?_ hend
  intro i o hi a w vs _ hz hj hk hv hr
  have h := StepsOk.at l 0 hs i o hi
  rw [Nat.zero_add] at h
  have h1 := fun K hK => h a w vs K hj (fun t ht => by have := hk t ht; simpa using this) (fun j oj d h1 h2 h3 => ⟨by have := hv j oj d h3 h1 h2; simpa using this, hr j oj h3 h1⟩) (fun j oj h1 h3 => hr j oj h3 h1) hK
  have h2 := h1 (fun a' w' => ∃ v, (o.dst = none → v = undef) ∧ a' = a.put o.dst v ∧ J w' ∧ E i w w' ∧ R i v (maskV o vs) w') (fun v w' x1 x2 x3 x4 => ⟨v, x1, rfl, x2, x3, x4⟩)
  by_cases hw : Region.wanted o (yielded l.toArray a.tmps) = true
  · rw [if_pos hw] at h2 ⊢
    exact h2
  · rw [if_neg hw] at h2 ⊢
    obtain ⟨v, x1, x2, _, x3, x4⟩ := h2
    have hv' : v = undef := by
      cases hd : o.dst with
      | none => exact x1 hd
      | some d =>
        rw [hd] at x2
        have hlt := (regB_dst hB hi hd).1
        have := congrArg (fun b : Act => b.tmps.getD d undef) x2
        rw [put_getD, put_getD, if_pos ⟨rfl, by omega⟩, if_pos ⟨rfl, by omega⟩] at this
        exact this.symm
    subst hv'
    exact ⟨x3, x4⟩

theorem getD_bool {x : Option Value} {b : Bool} (h : x.getD undef = .bool b) : x = some (.bool b) := by
  cases x with
  | none => simp [undef] at h
  | some v => simp at h; rw [h]
theorem wanted_yes {l : List Oper} {a : Act} {o : Oper} (j : Nat) (want : Bool) (hg : o.guard = some (j, want)) {oj : Oper} {d : Nat} (hj : l[j]? = some oj) (hd : oj.dst = some d) (hv : a.tmps[d]?.getD undef = .bool want) :
    Region.wanted o (yielded l.toArray a.tmps) = true := by
  simp [Region.wanted, hg, yielded, hj, hd, getD_bool hv]
theorem wanted_no {l : List Oper} {a : Act} {o : Oper} (j : Nat) (want : Bool) (hg : o.guard = some (j, want)) {oj : Oper} {d : Nat} (hj : l[j]? = some oj) (hd : oj.dst = some d) (hv : a.tmps[d]?.getD undef = .bool (!want)) :
    ¬ Region.wanted o (yielded l.toArray a.tmps) = true := by
  cases want <;> simp [Region.wanted, hg, yielded, hj, hd, getD_bool hv]

/-! Operations, one by one: each law asks what its operands hold. -/
section
variable {P : Program} {o : Oper} {a : Act} {w : World} {K : Act → World → Prop} {Q : Exit → Act → World → Prop}
theorem wpo_move (x : Operand) (v : Value) (ho : o.op = .move x ∨ o.op = .assign x) (hx : a.eval x = v) (h : K (a.put o.dst v) w) : o.wp P a w K Q := by
  unfold Oper.wp execOp
  rcases ho with ho | ho <;> simp only [ho, hx, Sem.run_pure] <;> exact h
theorem wpo_loadS (ty : TypeId) (x : Operand) (ho : o.op = .load ty x)
    (g off : Nat) (hx : a.eval x = .pointer (some ⟨g, off, none⟩)) (S : Array Value) (d : TypeDesc) (hc : ∀ j u, S[j]? = some u → w.cell? ⟨g, off + j, none⟩ = some u)
    (hu : P.underlying ty = some d) (hd : (match d with | .struct _ | .array _ _ => true | _ => false) = true) (hi : (P.info? ty).map (·.size) = some S.size)
    (h : K (a.put o.dst (.agg S)) w) : o.wp P a w K Q := by
  unfold Oper.wp execOp
  simp only [ho, hx, Instr.loadAt, Instr.sureAddr, Sem.run_bind, Sem.run_pure, Result.andThen_ok, run_loadVar_at w g off ty S d hc hu hd hi]
  exact h
theorem wpo_storeS (ty : TypeId) (x y : Operand) (ho : o.op = .store ty x y) (hdst : o.dst = none)
    (g off : Nat) (hx : a.eval x = .pointer (some ⟨g, off, none⟩)) (S : Array Value) (hy : a.eval y = .agg S) (t : TypeId) (cs : Array Value) (hb : Bk w g t cs)
    (hl : off + S.size ≤ cs.size) (h1 : ∀ u ∈ S.toList, u.oneCell' = true) (hi : (P.info? ty).map (·.size) = some S.size)
    (h : ∀ w', Bk w' g t (splA cs off S.toList) → Only g w w' → K (a.put o.dst undef) w') : o.wp P a w K Q := by
  obtain ⟨w', r1, r2, r3⟩ := run_storeVar_at (P := P) w g off t ty cs S hb hl h1 hi
  unfold Oper.wp execOp
  simp only [ho, hx, hy, Instr.storeAt, Instr.sureAddr, Sem.run_bind, Sem.run_pure, Result.andThen_ok, r1]
  have := h w' r2 r3
  simpa [Oper.upon, hdst, Act.put] using this
theorem wpo_call (f : Nat) (xs : Array Operand) (ts : Array TypeId) (ho : o.op = .call { callee := .value (.func f), args := xs, argTypes := ts }) (vs : Array Value) (hx : xs.map a.eval = vs)
    (eg : ∀ args w, (callFunc f args).run P w = .ok (.enter f args) w) (h : Calls P f vs w fun e w' => ∃ v, e = .returned v ∧ K (a.put o.dst v) w') : o.wp P a w K Q := by
  unfold Oper.wp execOp
  simp only [ho, resolve, hx, Act.eval, Deferred.ofValue, Sem.run_bind, Sem.run_pure, Result.andThen_ok, invoke]
  simp [eg, Oper.upon]
  refine h.mono ?_
  rintro e w' ⟨v, rfl, hk⟩
  exact hk
end
end Go.Proofs.Ytogobjmmgjfjjaa
