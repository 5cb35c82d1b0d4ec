/- What is proved: a rule for a region whose order is drawn: what each operation leaves is stated once, and holds in whatever order they come up. Conditions: those that the rule states. -/
import Derived.Test.YtogobjmmgjfjjaaRow
import Derived.Orders
namespace Go.Proofs.Ytogobjmmgjfjjaa
open Go.RowKit

/-- Does this operation wait for operation j? -/
def afterB (o : Oper) (j : Nat) : Bool := o.after.toList.any fun e => Region.binds .any e && e.on == j
def afterI (l : List Oper) (i j : Nat) : Bool := match l[i]? with | some o => afterB o j | none => false
/-- Does operation i wait for j, at however many removes? -/
def ancB (l : List Oper) : Nat → Nat → Nat → Bool
  | 0, _, _ => false
  | n + 1, i, j => (List.range l.length).any fun k => afterI l i k && (k == j || ancB l n k j)
def maskV (o : Oper) (vs : Nat → Value) : Nat → Value := fun j => if afterB o j then vs j else undef
def vsOf (l : List Oper) (a : Act) : Nat → Value := fun j => match l[j]? with | some o => (match o.dst with | some d => a.tmps.getD d undef | none => undef) | none => undef
def putAll : List Oper → (Nat → Value) → Nat → Act → Act
  | [], _, _, a => a
  | o :: l, vs, i, a => putAll l vs (i + 1) (a.put o.dst (vs i))
/-- No slot is written twice; each operation waits for earlier ones alone; slots lie in the frame. -/
def regB (l : List Oper) (n : Nat) : Bool :=
  (List.range l.length).all fun i => match l[i]? with
    | none => true
    | some o => (o.after.toList.all fun e => !Region.binds .any e || decide (e.on < i)) && (match o.dst with
      | none => true
      | some d => decide (d < n) && (List.range i).all fun j => match l[j]? with | some o' => o'.dst != some d | none => true)
/-- Nobody who may have come up ahead of operation i writes slot t. -/
def keepB (l : List Oper) (i t : Nat) : Bool :=
  (List.range l.length).all fun j => match l[j]? with | some o => o.dst != some t || j == i || afterB o i | none => true

section
variable {l : List Oper} {n : Nat}
theorem regB_after (h : regB l n = true) {i : Nat} {o : Oper} (hi : l[i]? = some o) {e : Edge} (he : e ∈ o.after) (hb : Region.binds .any e = true) : e.on < i := by
  unfold regB at h
  rw [List.all_eq_true] at h
  have hlt := (List.getElem?_eq_some_iff.1 hi).1
  have h1 := h i (by simpa using hlt)
  simp only [hi, Bool.and_eq_true, List.all_eq_true, decide_eq_true_eq, Bool.or_eq_true, Bool.not_eq_true'] at h1
  exact (h1.1 e (Array.mem_toList_iff.2 he)).resolve_left (by rw [hb]; simp)
theorem regB_dst (h : regB l n = true) {i : Nat} {o : Oper} (hi : l[i]? = some o) {d : Nat} (hd : o.dst = some d) : d < n ∧ ∀ j o', j < i → l[j]? = some o' → o'.dst ≠ some d := by
  unfold regB at h
  rw [List.all_eq_true] at h
  have hlt := (List.getElem?_eq_some_iff.1 hi).1
  have h1 := h i (by simpa using hlt)
  simp only [hi, hd, Bool.and_eq_true, decide_eq_true_eq, List.all_eq_true, List.mem_range] at h1
  refine ⟨h1.2.1, fun j o' hj ho' => ?_⟩
  have := h1.2.2 j hj
  simp only [ho'] at this
  simpa using this
theorem regB_ne (h : regB l n = true) {i j : Nat} {o o' : Oper} (hi : l[i]? = some o) (hj : l[j]? = some o') {d : Nat} (hd : o.dst = some d) (hd' : o'.dst = some d) : i = j := by
  rcases Nat.lt_trichotomy i j with h1 | h1 | h1
  · exact absurd hd ((regB_dst h hj hd').2 i o h1 hi)
  · exact h1
  · exact absurd hd' ((regB_dst h hi hd).2 j o' h1 hj)

theorem afterB_lt (h : regB l n = true) {i j : Nat} {o : Oper} (hi : l[i]? = some o) (ha : afterB o j = true) : j < i := by
  unfold afterB at ha
  rw [List.any_eq_true] at ha
  obtain ⟨e, he, hh⟩ := ha
  simp only [Bool.and_eq_true, beq_iff_eq] at hh
  have := regB_after h hi (Array.mem_toList_iff.1 he) hh.1
  omega

theorem put_getD (a : Act) (d t : Nat) (v : Value) : (a.put (some d) v).tmps.getD t undef = if t = d ∧ d < a.tmps.size then v else a.tmps.getD t undef := by
  simp only [Act.put, Array.getD_eq_getD_getElem?, Array.getElem?_setIfInBounds]
  by_cases h1 : d = t
  · subst h1
    by_cases h2 : d < a.tmps.size
    · simp [h2]
    · simp [h2]
  · simp [h1, Ne.symm h1]
theorem put_size (a : Act) (d : Option Nat) (v : Value) : (a.put d v).tmps.size = a.tmps.size := by cases d <;> simp [Act.put]
theorem put_defers (a : Act) (d : Option Nat) (v : Value) : (a.put d v).defers = a.defers := by cases d <;> rfl

theorem vsOf_put (h : regB l n = true) {a : Act} {i : Nat} {o : Oper} (hi : l[i]? = some o) (v : Value) {k : Nat} (hk : k ≠ i) : vsOf l (a.put o.dst v) k = vsOf l a k := by
  unfold vsOf
  cases hlk : l[k]? with
  | none => rfl
  | some o' =>
    cases hd' : o'.dst with
    | none => simp only [hd']
    | some d' =>
      cases hd : o.dst with
      | none => rfl
      | some d =>
        simp only [hd']
        rw [put_getD, if_neg]
        rintro ⟨rfl, _⟩
        exact hk (regB_ne h hlk hi hd' hd)
theorem vsOf_put_same {a : Act} {i : Nat} {o : Oper} (hi : l[i]? = some o) (v : Value) (hv : o.dst = none → v = undef) (hd : ∀ d, o.dst = some d → d < a.tmps.size) : vsOf l (a.put o.dst v) i = v := by
  unfold vsOf
  simp only [hi]
  cases hd' : o.dst with
  | none => exact (hv hd').symm
  | some d =>
    simp only
    rw [put_getD, if_pos ⟨rfl, hd d hd'⟩]

theorem putAll_size (l : List Oper) : ∀ (vs : Nat → Value) (i : Nat) (a : Act), (putAll l vs i a).tmps.size = a.tmps.size ∧ (putAll l vs i a).defers = a.defers := by
  induction l with
  | nil => intro vs i a; exact ⟨rfl, rfl⟩
  | cons o l ih => intro vs i a; rw [putAll]; obtain ⟨h1, h2⟩ := ih vs (i + 1) (a.put o.dst (vs i)); exact ⟨h1.trans (put_size ..), h2.trans (put_defers ..)⟩
theorem putAll_other (l : List Oper) (t : Nat) : ∀ (vs : Nat → Value) (i : Nat) (a : Act), (∀ (j : Nat) (o : Oper), l[j]? = some o → o.dst ≠ some t) → (putAll l vs i a).tmps.getD t undef = a.tmps.getD t undef := by
  induction l with
  | nil => intro vs i a _; rfl
  | cons o l ih =>
    intro vs i a h
    rw [putAll, ih vs (i + 1) _ (fun j o' hj => h (j + 1) o' (by simpa using hj))]
    cases hd : o.dst with
    | none => rfl
    | some d => rw [put_getD, if_neg]; rintro ⟨rfl, _⟩; exact h 0 o rfl hd
theorem putAll_at (l : List Oper) (t : Nat) : ∀ (vs : Nat → Value) (i : Nat) (a : Act) (j : Nat) (o : Oper), l[j]? = some o → o.dst = some t → t < a.tmps.size → (∀ (j' : Nat) (o' : Oper), j < j' → l[j']? = some o' → o'.dst ≠ some t) →
    (putAll l vs i a).tmps.getD t undef = vs (i + j) := by
  induction l with
  | nil => intro vs i a j o h; simp at h
  | cons x l ih =>
    intro vs i a j o hj hd ht hl
    rw [putAll]
    cases j with
    | zero =>
      simp at hj; subst hj
      rw [putAll_other l t vs (i + 1) _ (fun j' o' hj' => hl (j' + 1) o' (by omega) (by simpa using hj')), hd, put_getD, if_pos ⟨rfl, ht⟩]; rfl
    | succ j =>
      rw [ih vs (i + 1) _ j o (by simpa using hj) hd (by rw [put_size]; exact ht) (fun j' o' h1 h2 => hl (j' + 1) o' (by omega) (by simpa using h2))]
      congr 1; omega

def updB (d : Nat → Bool) (i : Nat) : Nat → Bool := fun k => if k = i then true else d k
def updV (vs : Nat → Value) (i : Nat) (v : Value) : Nat → Value := fun k => if k = i then v else vs k
theorem anc_listed {listed : Nat → Bool} (hcl : ∀ i o, l[i]? = some o → listed i = true → ∀ j, afterB o j = true → listed j = true) :
    ∀ (m i j : Nat), listed i = true → ancB l m i j = true → listed j = true
  | 0, _, _, _, h => by simp [ancB] at h
  | m + 1, i, j, hi, h => by
    unfold ancB at h
    rw [List.any_eq_true] at h
    obtain ⟨k, _, hk⟩ := h
    simp only [Bool.and_eq_true, Bool.or_eq_true, beq_iff_eq] at hk
    obtain ⟨h1, h2⟩ := hk
    have hlk : listed k = true := by
      unfold afterI at h1
      cases hl : l[i]? with
      | none => simp [hl] at h1
      | some o => simp only [hl] at h1; exact hcl i o hl hi k h1
    rcases h2 with rfl | h2
    · exact hlk
    · exact anc_listed hcl m k j hlk h2
end

section
variable {P : Program} {l : List Oper} {Q : Exit → Act → World → Prop} {a0 : Act}

/-- **A REGION WHOSE ORDER IS DRAWN.** R i v d w: what operation i leaves: its value v, by the values d of those that it waits for, in the world w. E j w w': what operation j does to the world. J: what holds of the world throughout, by which operations are done and what they have left. -/
theorem wp_region_extJ {id : Nat} {w0 : World} (hm : P.follows .mixedOrders = true) (hB : regB l a0.tmps.size = true)
    (J : (Nat → Bool) → (Nat → Value) → World → Prop) (E : Nat → World → World → Prop) (R : Nat → Value → (Nat → Value) → World → Prop) (hJ : ∀ vs, J (fun _ => false) vs w0.drew)
    (hR : ∀ i j, i ≠ j → ancB l l.length i j = false → ∀ v d w w', R i v d w → E j w w' → R i v d w')
    (hstep : ∀ i o, l[i]? = some o → ∀ (a : Act) (w : World) (vs : Nat → Value) (dn : Nat → Bool), a.defers = a0.defers → a.tmps.size = a0.tmps.size → (∀ m, dn m = true → i ≠ m ∧ ancB l l.length m i = false) → (∀ j, afterB o j = true → dn j = true) → J dn vs w → (∀ t, keepB l i t = true → a.tmps.getD t undef = a0.tmps.getD t undef) →
      (∀ j oj d, afterB o j = true → l[j]? = some oj → oj.dst = some d → a.tmps.getD d undef = vs j) → (∀ j oj, afterB o j = true → l[j]? = some oj → R j (vs j) (maskV oj vs) w) →
      if Region.wanted o (yielded l.toArray a.tmps) then o.wp P a w (fun a' w' => ∃ v, (o.dst = none → v = undef) ∧ a' = a.put o.dst v ∧ J (updB dn i) (updV vs i v) w' ∧ E i w w' ∧ R i v (maskV o vs) w') Q else J (updB dn i) (updV vs i undef) w ∧ E i w w ∧ R i undef (maskV o vs) w)
    (hend : ∀ (vs : Nat → Value) (dn : Nat → Bool) (w : World), (∀ i, i < l.length → dn i = true) → J dn vs w → (∀ i o, l[i]? = some o → R i (vs i) (maskV o vs) w) → Q .normal (putAll l vs 0 a0) w) :
    (Code.region id l.toArray true).wp P Q a0 w0 := by
  refine wp_region_any hm ?_
  have key : ∀ (fuel : Nat) (listed : Array Bool) (a : Act) (w : World), listed.size = l.length → (listed.toList.filter (!·)).length ≤ fuel → a.defers = a0.defers → a.tmps.size = a0.tmps.size → J (fun k => listed.getD k false) (vsOf l a) w →
      (∀ t, (∀ (i : Nat) (o : Oper), l[i]? = some o → listed.getD i false = true → o.dst ≠ some t) → a.tmps.getD t undef = a0.tmps.getD t undef) →
      (∀ i o, l[i]? = some o → listed.getD i false = true → R i (vsOf l a i) (maskV o (vsOf l a)) w) →
      (∀ i o, l[i]? = some o → listed.getD i false = true → ∀ j, afterB o j = true → listed.getD j false = true) →
      wpAny P .any l.toArray Q fuel listed a w := by
    -- nothing is ready: all have come up
    have fin : ∀ (listed : Array Bool) (a : Act) (w : World), listed.size = l.length → Region.ready .any l.toArray listed = [] → a.defers = a0.defers → a.tmps.size = a0.tmps.size → J (fun k => listed.getD k false) (vsOf l a) w →
        (∀ t, (∀ (i : Nat) (o : Oper), l[i]? = some o → listed.getD i false = true → o.dst ≠ some t) → a.tmps.getD t undef = a0.tmps.getD t undef) →
        (∀ (i : Nat) (o : Oper), l[i]? = some o → listed.getD i false = true → R i (vsOf l a i) (maskV o (vsOf l a)) w) → Q .normal a w := by
      intro listed a w hs hr hd hz hj hk hRR
      have hall : ∀ m i, i < m → i < l.length → listed.getD i false = true := by
        intro m
        induction m with
        | zero => intro i h; omega
        | succ m ih =>
          intro i him hil
          cases hli : listed.getD i false with
          | true => rfl
          | false =>
            exfalso
            have hmem : i ∈ Region.ready .any l.toArray listed := by
              rw [mem_ready]
              refine ⟨?_, l[i], by simp [hil], fun e he hb => ?_⟩
              · have : i < listed.size := by omega
                simp [this] at hli ⊢; exact hli
              · have := regB_after hB (i := i) (o := l[i]) (by simp [hil]) he hb
                exact ih e.on (by omega) (by omega)
            rw [hr] at hmem; cases hmem
      have hall' : ∀ i o, l[i]? = some o → listed.getD i false = true := fun i o hi => hall (i + 1) i (by omega) (List.getElem?_eq_some_iff.1 hi).1
      have ha : a = putAll l (vsOf l a) 0 a0 := by
        obtain ⟨p1, p2⟩ := putAll_size l (vsOf l a) 0 a0
        have ht : a.tmps = (putAll l (vsOf l a) 0 a0).tmps := by
          apply Array.ext (by rw [p1, hz])
          intro t h1 h2
          have e1 : a.tmps[t] = a.tmps.getD t undef := by simp [h1]
          have e2 : (putAll l (vsOf l a) 0 a0).tmps[t] = (putAll l (vsOf l a) 0 a0).tmps.getD t undef := by simp [h2]
          rw [e1, e2]
          by_cases hex : ∃ (i : Nat) (o : Oper), l[i]? = some o ∧ o.dst = some t
          · obtain ⟨i, o, hi, hdt⟩ := hex
            rw [putAll_at l t (vsOf l a) 0 a0 i o hi hdt (by omega) (fun j' o' hlt hj' hdj => by have := regB_ne hB hi hj' hdt hdj; omega), Nat.zero_add]
            simp only [vsOf, hi, hdt]
          · rw [putAll_other l t _ _ _ (fun j o hj hd => hex ⟨j, o, hj, hd⟩)]
            exact hk t (fun i o hi _ hd => hex ⟨i, o, hi, hd⟩)
        cases a with
        | mk tm df =>
          simp only at ht hd
          generalize putAll l (vsOf l ⟨tm, df⟩) 0 a0 = b at ht p2
          cases b
          simp only at ht p2
          subst ht; rw [hd, ← p2]
      rw [ha]
      exact hend _ _ _ (fun i hi => hall (i + 1) i (by omega) hi) hj (fun i o hi => hRR i o hi (hall' i o hi))
    intro fuel
    induction fuel with
    | zero =>
      intro listed a w hs hf hd hz hj hk hRR hcl
      have hr : Region.ready .any l.toArray listed = [] := by
        cases hr : Region.ready .any l.toArray listed with
        | nil => rfl
        | cons i _ =>
          exfalso
          have hi : i ∈ Region.ready .any l.toArray listed := by rw [hr]; exact List.mem_cons_self ..
          obtain ⟨h0, o, ho, _⟩ := mem_ready.1 hi
          have hlt : i < listed.size := by
            rcases Nat.lt_or_ge i listed.size with h | h
            · exact h
            · simp [Array.getElem?_eq_none h] at h0
          have : false ∈ listed.toList := by
            simp [hlt] at h0
            rw [← h0]; simp
          have h1 : false ∈ listed.toList.filter (!·) := by simp [this]
          have := List.length_pos_of_mem h1
          omega
      exact ⟨hr, fin listed a w hs hr hd hz hj hk hRR⟩
    | succ fuel ih =>
      intro listed a w hs hf hd hz hj hk hRR hcl
      refine ⟨fun hr => fin listed a w hs hr hd hz hj hk hRR, fun i hi => ?_⟩
      obtain ⟨h0, o, ho, hpre⟩ := mem_ready.1 hi
      have hlt : i < listed.size := by
        rcases Nat.lt_or_ge i listed.size with h | h
        · exact h
        · simp [Array.getElem?_eq_none h] at h0
      have hio : l[i]? = some o := by simpa using ho
      have hi0 : listed.getD i false = false := by simp [hlt] at h0 ⊢; exact h0
      have hpre' : ∀ j, afterB o j = true → listed.getD j false = true := by
        intro j hja
        unfold afterB at hja
        rw [List.any_eq_true] at hja
        obtain ⟨e, he, hh⟩ := hja
        simp only [Bool.and_eq_true, beq_iff_eq] at hh
        rw [← hh.2]; exact hpre e (Array.mem_toList_iff.1 he) hh.1
      have hnew : ∀ k, (listed.setIfInBounds i true).getD k false = true ↔ (k = i ∨ listed.getD k false = true) := by
        intro k
        by_cases hki : k = i
        · subst hki; simp [hlt]
        · rw [getD_set_ne false (Ne.symm hki)]; simp [hki]
      have hcnt : ((listed.setIfInBounds i true).toList.filter (!·)).length ≤ fuel := by
        have : ∀ (L : List Bool) (i : Nat), L[i]? = some false → (L.filter (!·)).length = ((L.set i true).filter (!·)).length + 1 := by
          intro L
          induction L with
          | nil => intro i h; simp at h
          | cons b L ihL =>
            intro i h
            cases i with
            | zero => simp at h; subst h; simp
            | succ i =>
              simp at h
              have := ihL i h
              cases b <;> simp_all
        have h1 := this listed.toList i (by simp [hlt] at hi0; simp [hlt, hi0])
        rw [Array.toList_setIfInBounds]
        omega
      have cont : ∀ (v : Value) (w' : World), (o.dst = none → v = undef) → J (updB (fun k => listed.getD k false) i) (updV (vsOf l a) i v) w' → E i w w' → R i v (maskV o (vsOf l a)) w' →
          wpAny P .any l.toArray Q fuel (listed.setIfInBounds i true) (a.put o.dst v) w' := by
        intro v w' hv hj' he hr
        have hvk : ∀ k, k ≠ i → vsOf l (a.put o.dst v) k = vsOf l a k := fun k hk => vsOf_put hB hio v hk
        have hvi : vsOf l (a.put o.dst v) i = v := vsOf_put_same hio v hv (fun d hdd => by rw [hz]; exact (regB_dst hB hio hdd).1)
        refine ih _ _ _ (by simpa using hs) hcnt ((put_defers ..).trans hd) ((put_size ..).trans hz) (by
          have e1 : (fun k => (listed.setIfInBounds i true).getD k false) = updB (fun k => listed.getD k false) i := by
            funext k
            unfold updB
            by_cases hki : k = i
            · rw [if_pos hki]; exact (hnew k).2 (.inl hki)
            · rw [if_neg hki, getD_set_ne false (Ne.symm hki)]
          have e2 : vsOf l (a.put o.dst v) = updV (vsOf l a) i v := by
            funext k
            unfold updV
            by_cases hki : k = i
            · rw [if_pos hki, hki]; exact hvi
            · rw [if_neg hki]; exact hvk k hki
          rw [e1, e2]; exact hj') ?_ ?_ ?_
        · intro t ht
          have h1 : o.dst ≠ some t := ht i o hio ((hnew i).2 (.inl rfl))
          rw [← hk t (fun k ok hkk hlk => ht k ok hkk ((hnew k).2 (.inr hlk)))]
          cases hd' : o.dst with
          | none => rfl
          | some d => rw [put_getD, if_neg]; rintro ⟨rfl, _⟩; exact h1 hd'
        · intro k ok hkk hlk
          by_cases hki : k = i
          · subst hki
            rw [hio] at hkk; obtain rfl := Option.some.inj hkk
            have hmask : maskV o (vsOf l (a.put o.dst v)) = maskV o (vsOf l a) := by
              funext j
              unfold maskV
              by_cases hja : afterB o j = true
              · rw [if_pos hja, if_pos hja, hvk j (by have := afterB_lt hB hio hja; omega)]
              · rw [if_neg hja, if_neg hja]
            rw [hvi, hmask]; exact hr
          · have hlk' : listed.getD k false = true := ((hnew k).1 hlk).resolve_left hki
            have hmask : maskV ok (vsOf l (a.put o.dst v)) = maskV ok (vsOf l a) := by
              funext j
              unfold maskV
              by_cases hja : afterB ok j = true
              · have hlj := hcl k ok hkk hlk' j hja
                rw [if_pos hja, if_pos hja, hvk j (by rintro rfl; rw [hi0] at hlj; cases hlj)]
              · rw [if_neg hja, if_neg hja]
            rw [hvk k hki, hmask]
            refine hR k i hki ?_ _ _ w w' (hRR k ok hkk hlk') he
            cases hanc : ancB l l.length k i with
            | false => rfl
            | true =>
              have := anc_listed (listed := fun i => listed.getD i false) hcl l.length k i hlk' hanc
              rw [show listed.getD i false = true from this] at hi0; cases hi0
        · intro k ok hkk hlk j hja
          rw [hnew]
          by_cases hki : k = i
          · subst hki
            rw [hio] at hkk; obtain rfl := Option.some.inj hkk
            exact .inr (hpre' j hja)
          · exact .inr (hcl k ok hkk (((hnew k).1 hlk).resolve_left hki) j hja)
      have hst := hstep i o hio a w (vsOf l a) (fun k => listed.getD k false) hd hz (fun m hm => ⟨(by rintro rfl; rw [hi0] at hm; cases hm), by
          cases hanc : ancB l l.length m i with
          | false => rfl
          | true =>
            have := anc_listed (listed := fun i => listed.getD i false) hcl l.length m i hm hanc
            rw [show listed.getD i false = true from this] at hi0; cases hi0⟩) hpre' hj
        (fun t ht => hk t (fun k ok hkk hlk hdk => by
          unfold keepB at ht
          rw [List.all_eq_true] at ht
          have h1 := ht k (by simpa using (List.getElem?_eq_some_iff.1 hkk).1)
          simp only [hkk, Bool.or_eq_true, bne_iff_ne, ne_eq, beq_iff_eq] at h1
          rcases h1 with (h1 | h1) | h1
          · exact h1 hdk
          · subst h1; rw [hi0] at hlk; cases hlk
          · have := hcl k ok hkk hlk i h1
            rw [hi0] at this; cases this))
        (fun j oj d _ hjl hdj => by simp only [vsOf, hjl, hdj])
        (fun j oj hja hjl => hRR j oj hjl (hpre' j hja))
      unfold wpOp
      simp only [ho]
      by_cases hw : Region.wanted o (yielded l.toArray a.tmps) = true
      · rw [if_pos hw] at hst ⊢
        exact .inl (Oper.wp_mono (fun a' w' ⟨v, h1, h2, h3, h4, h5⟩ => by subst h2; exact cont v w' h1 h3 h4 h5) hst)
      · rw [if_neg hw] at hst ⊢
        exact cont undef w (fun _ => rfl) hst.1 hst.2.1 hst.2.2
  have h00 : ∀ k, (Array.replicate l.toArray.size false).getD k false = false := fun k => by
    by_cases h : k < l.length <;> simp [h]
  refine key l.toArray.size (Array.replicate l.toArray.size false) a0 _ (by simp) ?_ rfl rfl (by rw [show (fun k => (Array.replicate l.toArray.size false).getD k false) = fun _ => false from funext h00]; exact hJ _) (fun _ _ => rfl) ?_ ?_
  · refine Nat.le_trans (List.length_filter_le _ _) ?_
    simp
  · intro i o hi hl
    have h0 : (Array.replicate l.toArray.size false).getD i false = false := by
      by_cases h : i < l.length <;> simp [h]
    rw [h0] at hl; cases hl
  · intro i o hi hl
    have h0 : (Array.replicate l.toArray.size false).getD i false = false := by
      by_cases h : i < l.length <;> simp [h]
    rw [h0] at hl; cases hl

theorem wp_region_extM {id : Nat} {w0 : World} (hm : P.follows .mixedOrders = true) (hB : regB l a0.tmps.size = true)
    (m : Nat) (J : Bool → World → Prop) (E : Nat → World → World → Prop) (R : Nat → Value → (Nat → Value) → World → Prop) (hJ : J false w0.drew)
    (hR : ∀ i j, i ≠ j → ancB l l.length i j = false → ∀ v d w w', R i v d w → E j w w' → R i v d w')
    (hstep : ∀ i o, l[i]? = some o → ∀ (a : Act) (w : World) (vs : Nat → Value) (b : Bool), a.defers = a0.defers → a.tmps.size = a0.tmps.size → (b = true → i ≠ m ∧ ancB l l.length m i = false) → J b w → (∀ t, keepB l i t = true → a.tmps.getD t undef = a0.tmps.getD t undef) →
      (∀ j oj d, afterB o j = true → l[j]? = some oj → oj.dst = some d → a.tmps.getD d undef = vs j) → (∀ j oj, afterB o j = true → l[j]? = some oj → R j (vs j) (maskV oj vs) w) →
      if Region.wanted o (yielded l.toArray a.tmps) then o.wp P a w (fun a' w' => ∃ v, (o.dst = none → v = undef) ∧ a' = a.put o.dst v ∧ J (b || i == m) w' ∧ E i w w' ∧ R i v (maskV o vs) w') Q else J (b || i == m) w ∧ E i w w ∧ R i undef (maskV o vs) w)
    (hend : ∀ (vs : Nat → Value) (w : World), (m < l.length → J true w) → (∀ i o, l[i]? = some o → R i (vs i) (maskV o vs) w) → Q .normal (putAll l vs 0 a0) w) :
    (Code.region id l.toArray true).wp P Q a0 w0 := by
  refine wp_region_extJ hm hB (fun dn _ w => J (dn m) w) E R (fun _ => hJ) hR ?_ (fun vs dn w h1 h2 h3 => hend vs w (fun hl => by have := h1 m hl; simp only [this] at h2; exact h2) h3)
  intro i o hi a w vs dn h1 h2 h3 _ h5 h6 h7 h8
  have e : ∀ i, updB dn i m = (dn m || i == m) := fun i => by
    unfold updB
    by_cases h : m = i
    · subst h; simp
    · rw [if_neg h, show (i == m) = false from by rw [beq_eq_false_iff_ne]; exact Ne.symm h]; simp
  simp only [e]
  exact hstep i o hi a w vs (dn m) h1 h2 (h3 m) h5 h6 h7 h8

theorem wp_region_ext {id : Nat} {w0 : World} (hm : P.follows .mixedOrders = true) (hB : regB l a0.tmps.size = true)
    (J : World → Prop) (E : Nat → World → World → Prop) (R : Nat → Value → (Nat → Value) → World → Prop) (hJ : J w0.drew)
    (hR : ∀ i j, i ≠ j → ancB l l.length i j = false → ∀ v d w w', R i v d w → J w → E j w w' → R i v d w')
    (hstep : ∀ i o, l[i]? = some o → ∀ (a : Act) (w : World) (vs : Nat → Value), a.defers = a0.defers → a.tmps.size = a0.tmps.size → J w → (∀ t, keepB l i t = true → a.tmps.getD t undef = a0.tmps.getD t undef) →
      (∀ j oj d, afterB o j = true → l[j]? = some oj → oj.dst = some d → a.tmps.getD d undef = vs j) → (∀ j oj, afterB o j = true → l[j]? = some oj → R j (vs j) (maskV oj vs) w) →
      if Region.wanted o (yielded l.toArray a.tmps) then o.wp P a w (fun a' w' => ∃ v, (o.dst = none → v = undef) ∧ a' = a.put o.dst v ∧ J w' ∧ E i w w' ∧ R i v (maskV o vs) w') Q else E i w w ∧ R i undef (maskV o vs) w)
    (hend : ∀ (vs : Nat → Value) (w : World), J w → (∀ i o, l[i]? = some o → R i (vs i) (maskV o vs) w) → Q .normal (putAll l vs 0 a0) w) :
    (Code.region id l.toArray true).wp P Q a0 w0 := by
  refine wp_region_extJ hm hB (fun _ _ => J) (fun j w w' => J w ∧ E j w w') R (fun _ => hJ) (fun i j h1 h2 v d w w' h3 h4 => hR i j h1 h2 v d w w' h3 h4.1 h4.2) ?_ (fun vs dn w _ h2 h3 => hend vs w h2 h3)
  intro i o hi a w vs b h1 h2 _ _ h4 h5 h6 h7
  have := hstep i o hi a w vs h1 h2 h4 h5 h6 h7
  split at this
  · rename_i hw; rw [if_pos hw]; exact Oper.wp_mono (fun a' w' ⟨v, x1, x2, x3, x4, x5⟩ => ⟨v, x1, x2, x3, ⟨h4, x4⟩, x5⟩) this
  · rename_i hw; rw [if_neg hw]; exact ⟨h4, ⟨h4, this.1⟩, this.2⟩
end
end Go.Proofs.Ytogobjmmgjfjjaa
