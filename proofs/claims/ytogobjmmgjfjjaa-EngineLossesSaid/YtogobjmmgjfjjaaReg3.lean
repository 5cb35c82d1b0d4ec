/- What is proved: the rule for a region whose order is drawn, with one operation that turns old memory. Conditions: those that the rule states. -/
import Derived.Test.YtogobjmmgjfjjaaReg2
namespace Go.Proofs.Ytogobjmmgjfjjaa
open Go.RowKit

/-- What is owed for operation i, o; J false: ahead of operation m, J true: behind it. -/
def StepOkM (P : Program) (l : List Oper) (Q : Exit → Act → World → Prop) (a0 : Act) (m : Nat) (J : Bool → World → Prop) (E : Nat → World → World → Prop) (R : Nat → Value → (Nat → Value) → World → Prop) (i : Nat) (o : Oper) : Prop :=
  ∀ (a : Act) (w : World) (vs : Nat → Value) (K : Act → World → Prop) (b : Bool), (b = true → i ≠ m ∧ ancB l l.length m i = false) → J b w → (∀ t, keepB l i t = true → a.tmps[t]?.getD undef = a0.tmps[t]?.getD undef) →
    (∀ j oj d, l[j]? = some oj → oj.dst = some d → afterB o j = true → a.tmps[d]?.getD undef = vs j ∧ R j (vs j) (maskV oj vs) w) →
    (∀ j oj, l[j]? = some oj → afterB o j = true → R j (vs j) (maskV oj vs) w) →
    (∀ v w', (o.dst = none → v = undef) → J (b || i == m) w' → E i w w' → R i v (maskV o vs) w' → K (a.put o.dst v) w') →
    if Region.wanted o (yielded l.toArray a.tmps) then o.wp P a w K Q else K (a.put o.dst undef) w
def StepsOkM (P : Program) (l : List Oper) (Q : Exit → Act → World → Prop) (a0 : Act) (m : Nat) (J : Bool → World → Prop) (E : Nat → World → World → Prop) (R : Nat → Value → (Nat → Value) → World → Prop) : List Oper → Nat → Prop
  | [], _ => True
  | o :: rest, i => StepOkM P l Q a0 m J E R i o ∧ StepsOkM P l Q a0 m J E R rest (i + 1)
theorem StepsOkM.at {P : Program} {l : List Oper} {Q : Exit → Act → World → Prop} {a0 : Act} {m : Nat} {J : Bool → World → Prop} {E : Nat → World → World → Prop} {R : Nat → Value → (Nat → Value) → World → Prop} :
    ∀ (r : List Oper) (k : Nat), StepsOkM P l Q a0 m J E R r k → ∀ i o, r[i]? = some o → StepOkM P l Q a0 m J E R (k + i) o
  | [], _, _, i, o, h => by simp at h
  | x :: r, k, hs, 0, o, h => by simp at h; subst h; exact hs.1
  | x :: r, k, hs, i + 1, o, h => by
    have := StepsOkM.at r (k + 1) hs.2 i o (by simpa using h)
    rwa [show k + (i + 1) = k + 1 + i from by omega]

theorem wp_region_stepsM {P : Program} {l : List Oper} {Q : Exit → Act → World → Prop} {a0 : Act} {id : Nat} {w0 : World} (hm : P.follows .mixedOrders = true) (hB : regB l a0.tmps.size = true)
    (m : Nat) (hml : m < l.length) (J : Bool → World → Prop) (E : Nat → World → World → Prop) (R : Nat → Value → (Nat → Value) → World → Prop) (hJ : J false w0.drew)
    (hR : ∀ i j, i ≠ j → ancB l l.length i j = false → ∀ v d w w', R i v d w → E j w w' → R i v d w')
    (hs : StepsOkM P l Q a0 m J E R l 0)
    (hend : ∀ (vs : Nat → Value) (w : World), J true w → (∀ i o, l[i]? = some o → R i (vs i) (maskV o vs) w) → Q .normal (putAll l vs 0 a0) w) :
    (Code.region id l.toArray true).wp P Q a0 w0 := by
  refine wp_region_extM hm hB m J E R hJ hR ?_ (fun vs w h1 h2 => hend vs w (h1 hml) h2)
  intro i o hi a w vs b _ hz hb hj hk hv hr
  have h := StepsOkM.at l 0 hs i o hi
  rw [Nat.zero_add] at h
  have h1 := fun K hK => h a w vs K b hb hj (fun t ht => by have := hk t ht; simpa using this) (fun j oj d h1 h2 h3 => ⟨by have := hv j oj d h3 h1 h2; simpa using this, hr j oj h3 h1⟩) (fun j oj h1 h3 => hr j oj h3 h1) hK
  have h2 := h1 (fun a' w' => ∃ v, (o.dst = none → v = undef) ∧ a' = a.put o.dst v ∧ J (b || i == m) w' ∧ (w' = w → E i w w ∧ J (b || i == m) w) ∧ E i w w' ∧ R i v (maskV o vs) w') (fun v w' x1 x2 x3 x4 => ⟨v, x1, rfl, x2, fun e => by subst e; exact ⟨x3, x2⟩, x3, x4⟩)
  by_cases hw : Region.wanted o (yielded l.toArray a.tmps) = true
  · rw [if_pos hw] at h2 ⊢
    exact Oper.wp_mono (fun a' w' ⟨v, y1, y2, y3, _, y5, y6⟩ => ⟨v, y1, y2, y3, y5, y6⟩) h2
  · rw [if_neg hw] at h2 ⊢
    obtain ⟨v, x1, x2, x3, _, x4, x5⟩ := h2
    have hv' : v = undef := by
      cases hd : o.dst with
      | none => exact x1 hd
      | some d =>
        rw [hd] at x2
        have hlt := (regB_dst hB hi hd).1
        have := congrArg (fun b : Act => b.tmps.getD d undef) x2
        rw [put_getD, put_getD, if_pos ⟨rfl, by omega⟩, if_pos ⟨rfl, by omega⟩] at this
        exact this.symm
    subst hv'
    exact ⟨x3, x4, x5⟩
/-- The like, J by which operations are done and what they left. -/
def StepOkJ (P : Program) (l : List Oper) (Q : Exit → Act → World → Prop) (a0 : Act) (J : (Nat → Bool) → (Nat → Value) → World → Prop) (E : Nat → World → World → Prop) (R : Nat → Value → (Nat → Value) → World → Prop) (i : Nat) (o : Oper) : Prop :=
  ∀ (a : Act) (w : World) (vs : Nat → Value) (K : Act → World → Prop) (dn : Nat → Bool), (∀ m, dn m = true → i ≠ m ∧ ancB l l.length m i = false) → (∀ j, afterB o j = true → dn j = true) → J dn vs w → (∀ t, keepB l i t = true → a.tmps[t]?.getD undef = a0.tmps[t]?.getD undef) →
    (∀ j oj d, l[j]? = some oj → oj.dst = some d → afterB o j = true → a.tmps[d]?.getD undef = vs j ∧ R j (vs j) (maskV oj vs) w) →
    (∀ j oj, l[j]? = some oj → afterB o j = true → R j (vs j) (maskV oj vs) w) →
    (∀ v w', (o.dst = none → v = undef) → J (updB dn i) (updV vs i v) w' → E i w w' → R i v (maskV o vs) w' → K (a.put o.dst v) w') →
    if Region.wanted o (yielded l.toArray a.tmps) then o.wp P a w K Q else K (a.put o.dst undef) w
def StepsOkJ (P : Program) (l : List Oper) (Q : Exit → Act → World → Prop) (a0 : Act) (J : (Nat → Bool) → (Nat → Value) → World → Prop) (E : Nat → World → World → Prop) (R : Nat → Value → (Nat → Value) → World → Prop) : List Oper → Nat → Prop
  | [], _ => True
  | o :: rest, i => StepOkJ P l Q a0 J E R i o ∧ StepsOkJ P l Q a0 J E R rest (i + 1)
theorem StepsOkJ.at {P : Program} {l : List Oper} {Q : Exit → Act → World → Prop} {a0 : Act} {J : (Nat → Bool) → (Nat → Value) → World → Prop} {E : Nat → World → World → Prop} {R : Nat → Value → (Nat → Value) → World → Prop} :
    ∀ (r : List Oper) (k : Nat), StepsOkJ P l Q a0 J E R r k → ∀ i o, r[i]? = some o → StepOkJ P l Q a0 J E R (k + i) o
  | [], _, _, i, o, h => by simp at h
  | x :: r, k, hs, 0, o, h => by simp at h; subst h; exact hs.1
  | x :: r, k, hs, i + 1, o, h => by
    have := StepsOkJ.at r (k + 1) hs.2 i o (by simpa using h)
    rwa [show k + (i + 1) = k + 1 + i from by omega]

theorem wp_region_stepsJ {P : Program} {l : List Oper} {Q : Exit → Act → World → Prop} {a0 : Act} {id : Nat} {w0 : World} (hm : P.follows .mixedOrders = true) (hB : regB l a0.tmps.size = true)
    (J : (Nat → Bool) → (Nat → Value) → World → Prop) (E : Nat → World → World → Prop) (R : Nat → Value → (Nat → Value) → World → Prop) (hJ : ∀ vs, J (fun _ => false) vs w0.drew)
    (hR : ∀ i j, i ≠ j → ancB l l.length i j = false → ∀ v d w w', R i v d w → E j w w' → R i v d w')
    (hs : StepsOkJ P l Q a0 J E R l 0)
    (hend : ∀ (vs : Nat → Value) (dn : Nat → Bool) (w : World), (∀ i, i < l.length → dn i = true) → J dn vs w → (∀ i o, l[i]? = some o → R i (vs i) (maskV o vs) w) → Q .normal (putAll l vs 0 a0) w) :
    (Code.region id l.toArray true).wp P Q a0 w0 := by
  refine wp_region_extJ hm hB J E R hJ hR ?_ hend
  intro i o hi a w vs b _ hz hb hb2 hj hk hv hr
  have h := StepsOkJ.at l 0 hs i o hi
  rw [Nat.zero_add] at h
  have h1 := fun K hK => h a w vs K b hb hb2 hj (fun t ht => by have := hk t ht; simpa using this) (fun j oj d h1 h2 h3 => ⟨by have := hv j oj d h3 h1 h2; simpa using this, hr j oj h3 h1⟩) (fun j oj h1 h3 => hr j oj h3 h1) hK
  have h2 := h1 (fun a' w' => ∃ v, (o.dst = none → v = undef) ∧ a' = a.put o.dst v ∧ J (updB b i) (updV vs i v) w' ∧ (w' = w → E i w w ∧ J (updB b i) (updV vs i v) w) ∧ E i w w' ∧ R i v (maskV o vs) w') (fun v w' x1 x2 x3 x4 => ⟨v, x1, rfl, x2, fun e => by subst e; exact ⟨x3, x2⟩, x3, x4⟩)
  by_cases hw : Region.wanted o (yielded l.toArray a.tmps) = true
  · rw [if_pos hw] at h2 ⊢
    exact Oper.wp_mono (fun a' w' ⟨v, y1, y2, y3, _, y5, y6⟩ => ⟨v, y1, y2, y3, y5, y6⟩) h2
  · rw [if_neg hw] at h2 ⊢
    obtain ⟨v, x1, x2, x3, _, x4, x5⟩ := h2
    have hv' : v = undef := by
      cases hd : o.dst with
      | none => exact x1 hd
      | some d =>
        rw [hd] at x2
        have hlt := (regB_dst hB hi hd).1
        have := congrArg (fun b : Act => b.tmps.getD d undef) x2
        rw [put_getD, put_getD, if_pos ⟨rfl, by omega⟩, if_pos ⟨rfl, by omega⟩] at this
        exact this.symm
    subst hv'
    exact ⟨x3, x4, x5⟩
end Go.Proofs.Ytogobjmmgjfjjaa
