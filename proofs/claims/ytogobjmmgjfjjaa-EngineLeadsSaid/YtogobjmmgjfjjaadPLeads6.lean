/- What is proved: the texts N1 N2 N3, one behind the other; each says at its head what it proves, and under which conditions. -/
import Derived.Test.YtogobjmmgjfjjaadPLeads5
/- What is proved: nothing of Go: the rows of the search are first reached in the shortest way; orders that lead to a goal lead there with ticks behind each too; without a goal, what was seen is closed. Conditions: those that each lemma states. -/
namespace Go.Proofs.Ytogobjmmgjfjjaa
open Go.RowKit

/-- s' comes out of s by an order that is not refused and turns something, or by a tick. -/
def NextS (p : PlantD) (s s' : Spots) : Prop :=
  (∃ v o, v < p.valves.length ∧ safeB p (wantB s v o) = true ∧ (s v).opn ≠ o ∧ s' = wantB s v o) ∨ s' = movedB p s fun _ => false
/-- A row comes out of another one. -/
def FromR (p : PlantD) (r' r : RowC) : Prop :=
  (∃ v o, v < p.valves.length ∧ safeB p (wantB r'.at_ v o) = true ∧ (r'.at_ v).opn ≠ o ∧ r = .step (wantB r'.at_ v o) r' (some ⟨((v : Nat) : Int), o⟩)) ∨ r = .step (movedB p r'.at_ fun _ => false) r' none
theorem FromR.next {p : PlantD} {r' r : RowC} (h : FromR p r' r) : NextS p r'.at_ r.at_ := by
  rcases h with ⟨v, o, h1, h2, h3, rfl⟩ | rfl
  · exact Or.inl ⟨v, o, h1, h2, h3, rfl⟩
  · exact Or.inr rfl
theorem NextS.ok {p : PlantD} {s s' : Spots} (h : NextS p s s') (hs : SpotsOk p s) : SpotsOk p s' := by
  rcases h with ⟨v, o, h1, _, _, rfl⟩ | rfl
  · exact wantB_ok hs h1 o
  · exact movedB_ok hs _
/-- Among the first k rows is one of the state s. -/
def HasR (l : List RowC) (k : Nat) (s : Spots) : Prop := ∃ m y, m < k ∧ l[m]? = some y ∧ y.at_ = s
theorem HasR.more {l l' : List RowC} {k k' : Nat} {s : Spots} (h : HasR l k s) (hl : ∃ t, l' = l ++ t) (hk : k ≤ k') : HasR l' k' s := by
  obtain ⟨m, y, h1, h2, h3⟩ := h
  obtain ⟨t, rfl⟩ := hl
  exact ⟨m, y, by omega, by rw [List.getElem?_append_left (List.getElem?_eq_some_iff.1 h2).1]; exact h2, h3⟩
/-- A row that is put at the place k: it is the root or comes out of an earlier row, whose elders have all that comes out of them among the first k; its state is new. -/
def GoodR (p : PlantD) (l : List RowC) (k : Nat) (r : RowC) : Prop :=
  (r = .root (firstB p) ∨ ∃ j r', j < k ∧ l[j]? = some r' ∧ FromR p r' r ∧ ∀ i x s, i < j → l[i]? = some x → NextS p x.at_ s → HasR l k s) ∧ ¬ HasR l k r.at_
theorem GoodR.more {p : PlantD} {l l' : List RowC} {k : Nat} {r : RowC} (h : GoodR p l k r) (hk : k ≤ l.length) (hl : ∃ t, l' = l ++ t) : GoodR p l' k r := by
  obtain ⟨t, rfl⟩ := hl
  have back : ∀ m, m < k → (l ++ t)[m]? = l[m]? := fun m hm => List.getElem?_append_left (by omega)
  refine ⟨?_, fun ⟨m, y, h1, h2, h3⟩ => h.2 ⟨m, y, h1, by rw [← back m h1]; exact h2, h3⟩⟩
  rcases h.1 with h | ⟨j, r', h1, h2, h3, h4⟩
  · exact Or.inl h
  · exact Or.inr ⟨j, r', h1, by rw [back j h1]; exact h2, h3, fun i x s hi hx hn => (h4 i x s hi (by rw [← back i (by omega)]; exact hx) hn).more ⟨t, rfl⟩ (Nat.le_refl _)⟩
/-- The search goes on; the first i rows have all that comes out of them among the rows. -/
structure LInv (p : PlantD) (g : List LitD) (st : Srch) (i : Nat) : Prop where
  good : ∀ (k : Nat) (r : RowC), st.rows[k]? = some r → GoodR p st.rows k r
  ok : ∀ (k : Nat) (r : RowC), st.rows[k]? = some r → SpotsOk p r.at_
  clos : ∀ j x s, j < i → st.rows[j]? = some x → NextS p x.at_ s → HasR st.rows st.rows.length s
  seen : st.seen = st.rows.map RowC.at_
  nogo : ∀ r : RowC, r ∈ st.rows → reachedB p r.at_ g = false
  found : st.found = none
  full : st.full = false
  le : i ≤ st.rows.length
/-- The search is over, for something was found or all is full. -/
def LFin (p : PlantD) (g : List LitD) (st : Srch) : Prop :=
  (∃ x, st.found = some x ∧ reachedB p x.at_ g = true ∧ SpotsOk p x.at_ ∧ GoodR p st.rows st.rows.length x ∧ (∀ (k : Nat) (r : RowC), st.rows[k]? = some r → GoodR p st.rows k r) ∧ ∀ (k : Nat) (r : RowC), st.rows[k]? = some r → SpotsOk p r.at_) ∨ (st.found = none ∧ st.full = true)
theorem sameSp_eq {p : PlantD} {s t : Spots} (hn : p.valves.length ≤ 12) (hs : SpotsOk p s) (ht : SpotsOk p t) : sameSp s t = true ↔ s = t := by
  rw [sameSp_iff]
  refine ⟨fun h => funext fun i => ?_, fun h i _ => by rw [h]⟩
  by_cases hi : i < 12
  · exact h i hi
  · rw [hs.2 i (by omega), ht.2 i (by omega)]
theorem LInv.has {p : PlantD} {g : List LitD} {st : Srch} {i : Nat} (h : LInv p g st i) (hn : p.valves.length ≤ 12) {s : Spots} (hs : SpotsOk p s) : inSet st.seen s = true ↔ HasR st.rows st.rows.length s := by
  unfold inSet
  rw [h.seen, List.any_map, List.any_eq_true]
  constructor
  · rintro ⟨x, hx, h2⟩
    obtain ⟨m, hm, e⟩ := List.getElem_of_mem hx
    have hm' : st.rows[m]? = some x := by rw [List.getElem?_eq_getElem hm, e]
    exact ⟨m, x, hm, hm', (sameSp_eq hn (h.ok m x hm') hs).1 h2⟩
  · rintro ⟨m, y, h1, h2, h3⟩
    exact ⟨y, List.mem_of_getElem? h2, (sameSp_eq hn (h.ok m y h2) hs).2 h3⟩
/-- What a step of the search leaves. -/
def LStep (p : PlantD) (g : List LitD) (i : Nat) (st : Srch) (r : Bool × Srch) (Q : Srch → Prop) : Prop :=
  (r.1 = true ∧ LInv p g r.2 i ∧ (∃ t, r.2.rows = st.rows ++ t) ∧ r.2.next = st.next ∧ Q r.2) ∨ (r.1 = false ∧ LFin p g r.2)
theorem reachS_lead {p : PlantD} {g : List LitD} {st : Srch} {i : Nat} (h : LInv p g st i) (hn : p.valves.length ≤ 12) (r : RowC) (hok : SpotsOk p r.at_)
    (hr : r = .root (firstB p) ∨ ∃ r', st.rows[i]? = some r' ∧ FromR p r' r) : LStep p g i st (reachS p g st r) fun st' => HasR st'.rows st'.rows.length r.at_ := by
  have hh := h.has hn hok
  unfold reachS
  by_cases h1 : inSet st.seen r.at_ = true
  · rw [if_pos h1]
    exact Or.inl ⟨rfl, h, ⟨[], by simp⟩, rfl, hh.1 h1⟩
  · rw [if_neg h1]
    have hg : GoodR p st.rows st.rows.length r := by
      refine ⟨?_, fun hc => h1 (hh.2 hc)⟩
      rcases hr with hr | ⟨r', h2, h3⟩
      · exact Or.inl hr
      · exact Or.inr ⟨i, r', (List.getElem?_eq_some_iff.1 h2).1, h2, h3, fun j x s hj hx hs => h.clos j x s hj hx hs⟩
    by_cases h2 : st.seen.length = 20000
    · rw [if_pos h2]
      exact Or.inr ⟨rfl, Or.inr ⟨h.found, rfl⟩⟩
    · rw [if_neg h2]
      by_cases h3 : reachedB p r.at_ g = true
      · rw [if_pos h3]
        exact Or.inr ⟨rfl, Or.inl ⟨r, rfl, h3, hok, hg, h.good, h.ok⟩⟩
      · rw [if_neg h3]
        have ha : ∃ t, st.rows ++ [r] = st.rows ++ t := ⟨[r], rfl⟩
        have hlen : (st.rows ++ [r]).length = st.rows.length + 1 := by simp
        have split : ∀ k x, (st.rows ++ [r])[k]? = some x → (st.rows[k]? = some x ∧ k < st.rows.length) ∨ (k = st.rows.length ∧ x = r) := fun k x e => by
          by_cases hk : k < st.rows.length
          · rw [List.getElem?_append_left hk] at e
            exact Or.inl ⟨e, hk⟩
          · have hk2 := (List.getElem?_eq_some_iff.1 e).1
            rw [hlen] at hk2
            have : k = st.rows.length := by omega
            subst this
            rw [List.getElem?_append_right (Nat.le_refl _)] at e
            simp at e
            exact Or.inr ⟨rfl, e.symm⟩
        refine Or.inl ⟨rfl, ⟨fun k x e => ?_, fun k x e => ?_, fun j x s hj e hs => ?_, ?_, fun x hx => ?_, h.found, h.full, by rw [hlen]; have := h.le; omega⟩, ha, rfl, ⟨st.rows.length, r, by simp, by simp, rfl⟩⟩
        · rcases split k x e with ⟨e, hk⟩ | ⟨rfl, rfl⟩
          · exact (h.good k x e).more (Nat.le_of_lt hk) ha
          · exact hg.more (Nat.le_refl _) ha
        · rcases split k x e with ⟨e, _⟩ | ⟨_, rfl⟩
          · exact h.ok k x e
          · exact hok
        · rcases split j x e with ⟨e, _⟩ | ⟨rfl, rfl⟩
          · exact (h.clos j x s hj e hs).more ha (by rw [hlen]; omega)
          · exact absurd h.le (by omega)
        · show st.seen ++ [r.at_] = (st.rows ++ [r]).map RowC.at_
          rw [h.seen]; simp
        · have hx' : x ∈ st.rows ++ [r] := hx
          simp only [List.mem_append, List.mem_cons, List.not_mem_nil, or_false] at hx'
          rcases hx' with hx' | rfl
          · exact h.nogo x hx'
          · simpa using h3
theorem LStep.trans {p : PlantD} {g : List LitD} {i : Nat} {st : Srch} {r r2 : Bool × Srch} {Q Q2 : Srch → Prop} (h : LStep p g i st r Q) (hr : r.1 = true) (k : LStep p g i r.2 r2 Q2) {Q3 : Srch → Prop} (hq : ∀ s s', Q s → Q2 s' → (∃ t, s'.rows = s.rows ++ t) → Q3 s') : LStep p g i st r2 Q3 := by
  rcases h with ⟨_, _, ⟨t, ht⟩, hn, h5⟩ | ⟨h1, _⟩
  · rcases k with ⟨k1, k2, ⟨t', ht'⟩, kn, k5⟩ | k
    · exact Or.inl ⟨k1, k2, ⟨t ++ t', by rw [ht', ht, List.append_assoc]⟩, kn.trans hn, hq _ _ h5 k5 ⟨t', ht'⟩⟩
    · exact Or.inr k
  · rw [h1] at hr; exact absurd hr (by decide)
theorem same_want {p : PlantD} {s : Spots} (hn : p.valves.length ≤ 12) (hs : SpotsOk p s) {v : Nat} (hv : v < p.valves.length) (o : Bool) : sameSp (wantB s v o) s = decide ((s v).opn = o) := by
  rw [Bool.eq_iff_iff, sameSp_eq hn (wantB_ok hs hv o) hs, decide_eq_true_eq]
  constructor
  · intro h
    have := congrFun h v
    unfold wantB at this
    rw [if_pos rfl] at this
    rw [← this]
  · intro h
    funext i
    unfold wantB
    by_cases e : i = v
    · subst e; rw [if_pos rfl, ← h]
    · rw [if_neg e]
/-- Behind the q-th order. -/
def DoneQ (p : PlantD) (s : Spots) (a b : Nat) (st : Srch) : Prop := ∀ q, a ≤ q → q < b → safeB p (wantB s (q / 2) (q % 2 == 1)) = true → (s (q / 2)).opn ≠ (q % 2 == 1) → HasR st.rows st.rows.length (wantB s (q / 2) (q % 2 == 1))
theorem DoneQ.more {p : PlantD} {s : Spots} {a b : Nat} {st st' : Srch} (h : DoneQ p s a b st) (ht : ∃ t, st'.rows = st.rows ++ t) : DoneQ p s a b st' := fun q h1 h2 h3 h4 => (h q h1 h2 h3 h4).more ht (by obtain ⟨t, ht⟩ := ht; rw [ht]; simp)
theorem try1S_lead {p : PlantD} {g : List LitD} {st : Srch} {i : Nat} (h : LInv p g st i) (hn : p.valves.length ≤ 12) {r : RowC} (hr : st.rows[i]? = some r) {q : Nat} (hq : q / 2 < p.valves.length) : LStep p g i st (try1S p g r (q / 2) (q % 2 == 1) st) (DoneQ p r.at_ q (q + 1)) := by
  have hok := h.ok i r hr
  unfold try1S
  rw [same_want hn hok hq]
  by_cases hc : (safeB p (wantB r.at_ (q / 2) (q % 2 == 1)) && !decide ((r.at_ (q / 2)).opn = (q % 2 == 1))) = true
  · rw [if_pos hc]
    rw [Bool.and_eq_true] at hc
    have hd : (r.at_ (q / 2)).opn ≠ (q % 2 == 1) := by simpa using hc.2
    have h1 := reachS_lead h hn (.step (wantB r.at_ (q / 2) (q % 2 == 1)) r (some ⟨((q / 2 : Nat) : Int), q % 2 == 1⟩)) (wantB_ok hok hq _) (Or.inr ⟨r, hr, Or.inl ⟨q / 2, q % 2 == 1, hq, hc.1, hd, rfl⟩⟩)
    rcases h1 with ⟨a, b, c, d, e⟩ | h1
    · refine Or.inl ⟨a, b, c, d, fun q' h2 h3 _ _ => ?_⟩
      obtain rfl : q' = q := by omega
      exact e
    · exact Or.inr h1
  · rw [if_neg hc]
    refine Or.inl ⟨rfl, h, ⟨[], by simp⟩, rfl, fun q' h2 h3 h4 h5 => ?_⟩
    obtain rfl : q' = q := by omega
    exact absurd (by rw [h4, decide_eq_false h5]; rfl) hc
theorem trysS_lead {p : PlantD} {g : List LitD} {i : Nat} (hn : p.valves.length ≤ 12) {r : RowC} : ∀ (n q : Nat) {st : Srch}, LInv p g st i → st.rows[i]? = some r → q + n ≤ 2 * p.valves.length → LStep p g i st (trysS p g r n q st) (DoneQ p r.at_ q (q + n))
  | 0, q, st, h, hr, _ => Or.inl ⟨rfl, h, ⟨[], (List.append_nil st.rows).symm⟩, rfl, fun q' h1 h2 => absurd h2 (by omega)⟩
  | n + 1, q, st, h, hr, hq => by
    have h1 := try1S_lead (r := r) h hn hr (q := q) (by omega)
    unfold trysS
    by_cases hc : (try1S p g r (q / 2) (q % 2 == 1) st).1 = true
    · rw [if_pos hc]
      have h2 := h1
      rcases h2 with ⟨_, h3, ⟨t, ht⟩, _, _⟩ | ⟨h3, _⟩
      · have h4 := trysS_lead hn n (q + 1) h3 (by rw [ht, List.getElem?_append_left (List.getElem?_eq_some_iff.1 hr).1]; exact hr) (by omega)
        refine h1.trans hc h4 fun s s' k1 k2 kt q' e1 e2 e3 e4 => ?_
        by_cases e : q' = q
        · subst e
          exact (k1.more kt) q' (Nat.le_refl _) (by omega) e3 e4
        · exact k2 q' (by omega) (by omega) e3 e4
      · rw [h3] at hc; exact absurd hc (by decide)
    · rw [if_neg hc]
      rcases h1 with ⟨h3, _⟩ | ⟨_, h3⟩
      · exact absurd h3 hc
      · exact Or.inr ⟨rfl, h3⟩
theorem followS_lead {p : PlantD} {g : List LitD} {st : Srch} {i : Nat} (h : LInv p g st i) (hn : p.valves.length ≤ 12) {r : RowC} (hr : st.rows[i]? = some r) :
    ((followS p g r st).1 = true ∧ LInv p g (followS p g r st).2 (i + 1) ∧ (followS p g r st).2.next = st.next ∧ ∃ t, (followS p g r st).2.rows = st.rows ++ t) ∨ ((followS p g r st).1 = false ∧ LFin p g (followS p g r st).2) := by
  have hok := h.ok i r hr
  have h1 := trysS_lead (r := r) hn (2 * p.valves.length) 0 h hr (by omega)
  unfold followS
  by_cases hc : (trysS p g r (2 * p.valves.length) 0 st).1 = true
  · rw [if_pos hc]
    have h2 := h1
    rcases h2 with ⟨_, h3, ⟨t, ht⟩, hx, hd⟩ | ⟨h3, _⟩
    · have hr' : (trysS p g r (2 * p.valves.length) 0 st).2.rows[i]? = some r := by rw [ht, List.getElem?_append_left (List.getElem?_eq_some_iff.1 hr).1]; exact hr
      have h4 := reachS_lead h3 hn (.step (movedB p r.at_ fun _ => false) r none) (movedB_ok hok _) (Or.inr ⟨r, hr', Or.inr rfl⟩)
      rcases h4 with ⟨k1, k2, ⟨t', ht'⟩, kn, k5⟩ | h4
      · refine Or.inl ⟨k1, ⟨k2.good, k2.ok, fun j x s hj hx hs => ?_, k2.seen, k2.nogo, k2.found, k2.full, ?_⟩, kn.trans hx, t ++ t', by rw [ht', ht, List.append_assoc]⟩
        · by_cases hji : j < i
          · exact k2.clos j x s hji hx hs
          · obtain rfl : j = i := by omega
            rw [ht', List.getElem?_append_left (List.getElem?_eq_some_iff.1 hr').1, hr'] at hx
            injection hx with hx
            subst hx
            rcases hs with ⟨v, o, e1, e2, e3, rfl⟩ | rfl
            · have ev : ∀ b : Bool, (2 * v + (if b then 1 else 0)) / 2 = v ∧ ((2 * v + (if b then 1 else 0)) % 2 == 1) = b := fun b => by
                cases b
                · refine ⟨by simp, ?_⟩
                  simp
                · refine ⟨by simp; omega, ?_⟩
                  have : (2 * v + 1) % 2 = 1 := by omega
                  simp [this]
              have h6 := (DoneQ.more hd ⟨t', ht'⟩) (2 * v + (if o then 1 else 0)) (Nat.zero_le _) (by cases o <;> simp <;> omega)
              rw [(ev o).1, (ev o).2] at h6
              exact h6 e2 e3
            · exact k5
        · have hl := (List.getElem?_eq_some_iff.1 hr').1
          rw [ht']; simp only [List.length_append]; omega
      · exact Or.inr h4
    · rw [h3] at hc; exact absurd hc (by decide)
  · rw [if_neg hc]
    rcases h1 with ⟨h3, _⟩ | ⟨_, h3⟩
    · exact absurd h3 hc
    · exact Or.inr ⟨rfl, h3⟩
/-- The search's end: all rows are closed, or it is over. -/
theorem loopS_lead {p : PlantD} {g : List LitD} (hn : p.valves.length ≤ 12) : ∀ (n : Nat) (more : Bool) (st : Srch), SrOk st → (more = true → LInv p g st st.next ∧ HasR st.rows st.rows.length (firstB p) ∧ st.next + n = 20002) → (more = false → LFin p g st) → LFin p g (loopS p g n more st) ∨ (LInv p g (loopS p g n more st) (loopS p g n more st).rows.length ∧ HasR (loopS p g n more st).rows (loopS p g n more st).rows.length (firstB p)) := by
  intro n
  induction n with
  | zero =>
    intro more st hs h1 h2
    cases more with
    | false => exact Or.inl (h2 rfl)
    | true =>
      have h3 := (h1 rfl).2.2
      have h4 := hs.next
      have h5 := hs.few
      omega
  | succ n ih =>
    intro more st hs h1 h2
    cases more with
    | false => rw [loopS_false]; exact Or.inl (h2 rfl)
    | true =>
      obtain ⟨h3, hR, h4⟩ := h1 rfl
      cases hr : st.rows[st.next]? with
      | none =>
        rw [loopS_none hr]
        have h5 : st.next = st.rows.length := by
          have := List.getElem?_eq_none_iff.1 hr
          have := hs.next
          omega
        refine Or.inr ⟨?_, hR⟩
        rw [← h5]
        exact h3
      | some r =>
        rw [loopS_some hr]
        have hlt := (List.getElem?_eq_some_iff.1 hr).1
        have hs2 : SrOk { st with next := st.next + 1 } := ⟨hs.dep, hs.fnd, hs.few, by show st.next + 1 ≤ st.rows.length; omega⟩
        have hl2 : LInv p g { st with next := st.next + 1 } st.next := ⟨h3.good, h3.ok, h3.clos, h3.seen, h3.nogo, h3.found, h3.full, h3.le⟩
        have hd : r.depth + 1 ≤ ({ st with next := st.next + 1 } : Srch).rows.length := by
          have := hs.dep _ _ hr
          show r.depth + 1 ≤ st.rows.length
          omega
        have hk := followS_ok (p := p) (g := g) hs2 hd
        rcases followS_lead hl2 hn (r := r) hr with ⟨k1, k2, k3, kt⟩ | ⟨k1, k2⟩
        · refine ih _ _ hk.1 (fun _ => ⟨?_, hR.more kt (by obtain ⟨t, ht⟩ := kt; rw [ht]; simp), ?_⟩) (fun e => by rw [k1] at e; exact absurd e (by decide))
          · rw [k3]; exact k2
          · rw [k3]; show st.next + 1 + n = 20002; omega
        · exact ih _ _ hk.1 (fun e => by rw [k1] at e; exact absurd e (by decide)) (fun _ => k2)
theorem pathS_lead {p : PlantD} {g : List LitD} (hv : ValvesOk p) : LFin p g (pathS p g) ∨ (LInv p g (pathS p g) (pathS p g).rows.length ∧ HasR (pathS p g).rows (pathS p g).rows.length (firstB p)) := by
  have h0 : LInv p g srch0 0 := ⟨fun k r h => by simp [srch0] at h, fun k r h => by simp [srch0] at h, fun j x s h => absurd h (by omega), rfl, fun r h => by simp [srch0] at h, rfl, rfl, Nat.zero_le _⟩
  have h1 := reachS_lead h0 hv.1 (.root (firstB p)) (firstB_spots hv) (Or.inl rfl)
  have h2 := reachS_ok (p := p) (g := g) (r := .root (firstB p)) srch0_ok (Nat.zero_le _)
  unfold pathS
  refine loopS_lead hv.1 _ _ _ h2.1 (fun e => ?_) (fun e => ?_)
  · rcases h1 with ⟨_, k2, _, k4, k5⟩ | ⟨k1, _⟩
    · have hx : srch0.next = 0 := rfl
      rw [k4, hx]; exact ⟨k2, k5, rfl⟩
    · rw [k1] at e; exact absurd e (by decide)
  · rcases h1 with ⟨k1, _⟩ | ⟨_, k2⟩
    · rw [k1] at e; exact absurd e (by decide)
    · exact k2
/-- Nothing found, and not full: what was seen is closed, and has no goal. -/
theorem pathS_none {p : PlantD} {g : List LitD} (hv : ValvesOk p) (h1 : (pathS p g).found = none) (h2 : (pathS p g).full = false) :
    ∃ C : Spots → Prop, C (firstB p) ∧ (∀ s s', C s → NextS p s s' → C s') ∧ ∀ s, C s → reachedB p s g = false := by
  rcases pathS_lead (g := g) hv with (⟨x, h, _⟩ | ⟨_, h⟩) | ⟨h, hR⟩
  · rw [h1] at h; exact absurd h (by simp)
  · rw [h2] at h; exact absurd h (by decide)
  · refine ⟨HasR (pathS p g).rows (pathS p g).rows.length, hR, fun s s' ⟨m, y, a, b, c⟩ hn => h.clos m y s' a b (by rw [c]; exact hn), fun s ⟨m, y, a, b, c⟩ => by rw [← c]; exact h.nogo y (List.mem_of_getElem? b)⟩

/-! A path that was found. -/
def endV (p : PlantD) (v : Nat) (o : Bool) : Int := if o then (p.valve v).travel else 0
/-- No order of a row's path takes back what has not moved yet. -/
def Lead (p : PlantD) : RowC → Prop
  | .root s => s = firstB p
  | .step s r none => Lead p r ∧ s = movedB p r.at_ fun _ => false
  | .step s r (some o) => Lead p r ∧ ∃ v : Nat, v < p.valves.length ∧ o.valve = v ∧ safeB p (wantB r.at_ v o.opn) = true ∧ (r.at_ v).opn ≠ o.opn ∧ s = wantB r.at_ v o.opn ∧ (r.at_ v).place ≠ endV p v o.opn
theorem safeB_iff {p : PlantD} {s : Spots} : safeB p s = true ↔ ∀ i, i < p.never.length → ∃ k, k < (p.nev i).length ∧ mayB p s ((p.nev i).getD k lit0) = false := by
  unfold safeB
  rw [allN_iff]
  refine forall_congr' fun i => imp_congr_right fun hi => ?_
  rw [Bool.not_eq_true', Bool.eq_false_iff, ne_eq, allN_iff]
  constructor
  · intro h
    apply Classical.byContradiction
    intro hc
    exact h fun k hk => by
      cases e : mayB p s ((p.nev i).getD k lit0) with
      | true => rfl
      | false => exact absurd ⟨k, hk, e⟩ hc
  · rintro ⟨k, hk, e⟩ h
    rw [h k hk] at e; exact absurd e (by decide)
/-- What may hold in one state may hold in another one: then that is safe if this is. -/
theorem safeB_less {p : PlantD} {s t : Spots} (h : safeB p s = true) (hm : ∀ l : LitD, mayB p t l = true → mayB p s l = true) : safeB p t = true := by
  rw [safeB_iff] at h ⊢
  intro i hi
  obtain ⟨k, hk, e⟩ := h i hi
  refine ⟨k, hk, ?_⟩
  cases e2 : mayB p t ((p.nev i).getD k lit0) with
  | false => rfl
  | true => rw [hm _ e2] at e; exact absurd e (by decide)
theorem wantB_self (s : Spots) (v : Nat) (o : Bool) : (wantB s v o) v = ⟨(s v).place, o⟩ := by unfold wantB; rw [if_pos rfl]
theorem wantB_ne (s : Spots) {v i : Nat} (o : Bool) (h : i ≠ v) : (wantB s v o) i = s i := by unfold wantB; rw [if_neg h]
theorem RowC.at_root (s : Spots) : (RowC.root s).at_ = s := rfl
theorem RowC.at_step (s : Spots) (r : RowC) (o : Option LitD) : (RowC.step s r o).at_ = s := rfl
/-- A valve wanted the other way that has not moved yet: the state with the want taken back was reached before. -/
theorem back_first {p : PlantD} {l : List RowC} (hv : ValvesOk p) (hg : ∀ (k : Nat) (r : RowC), l[k]? = some r → GoodR p l k r) (hok : ∀ (k : Nat) (r : RowC), l[k]? = some r → SpotsOk p r.at_) :
    ∀ (n a : Nat), a ≤ n → ∀ (x : RowC), l[a]? = some x → ∀ v o, v < p.valves.length → (x.at_ v).opn ≠ o → (x.at_ v).place = endV p v o → HasR l a (wantB x.at_ v o) := by
  intro n
  induction n with
  | zero =>
    intro a ha x hx v o hvl hne hpl
    rcases (hg a x hx).1 with rfl | ⟨j, r', hj, _⟩
    · exfalso
      have ht := hv.2 v hvl
      simp only [RowC.at_root] at hne hpl
      unfold firstB at hne hpl
      unfold endV at hpl
      cases o <;> split at hpl <;> simp_all [SpotD.zero] <;> omega
    · omega
  | succ n ih =>
    intro a ha x hx v o hvl hne hpl
    have ht := hv.2 v hvl
    rcases (hg a x hx).1 with rfl | ⟨j, y, hj, hy, hf, hel⟩
    · exfalso
      simp only [RowC.at_root] at hne hpl
      unfold firstB at hne hpl
      unfold endV at hpl
      cases o <;> split at hpl <;> simp_all [SpotD.zero] <;> omega
    · have hyok := (hok j y hy).1 v hvl
      rcases hf with ⟨v', o', h1, h2, h3, rfl⟩ | rfl
      · simp only [RowC.at_step] at hne hpl ⊢
        by_cases e : v = v'
        · subst e
          rw [wantB_self] at hne hpl
          simp only at hne hpl
          have ho : (y.at_ v).opn = o := by
            cases hh : (y.at_ v).opn <;> cases o <;> cases o' <;> simp_all
          refine ⟨j, y, hj, hy, ?_⟩
          funext i
          by_cases ei : i = v
          · subst ei
            rw [wantB_self, wantB_self, ← ho]
          · rw [wantB_ne _ _ ei, wantB_ne _ _ ei]
        · rw [wantB_ne _ _ e] at hne hpl
          have hb := ih j (by omega) y hy v o hvl hne hpl
          obtain ⟨m, u, hm, hu, hus⟩ := hb
          refine hel m u _ hm hu ?_
          rw [hus]
          refine Or.inl ⟨v', o', h1, safeB_less h2 fun l hl => ?_, ?_, ?_⟩
          · unfold mayB at hl ⊢
            by_cases el : l.valve.toNat = v
            · have e1 : wantB (wantB y.at_ v o) v' o' l.valve.toNat = ⟨(y.at_ v).place, o⟩ := by rw [el, wantB_ne _ _ e, wantB_self]
              have e2 : wantB y.at_ v' o' l.valve.toNat = y.at_ v := by rw [el, wantB_ne _ _ e]
              unfold holdsB at hl ⊢
              rw [e1, el] at hl
              rw [e2, el]
              unfold endV at hpl
              simp only [hpl] at hl ⊢
              cases o <;> cases hlo : l.opn <;> simp_all <;> omega
            · have e1 : wantB (wantB y.at_ v o) v' o' l.valve.toNat = wantB y.at_ v' o' l.valve.toNat := by
                by_cases ev : l.valve.toNat = v'
                · rw [ev, wantB_self, wantB_self, wantB_ne _ _ (fun h => e h.symm)]
                · rw [wantB_ne _ _ ev, wantB_ne _ _ ev, wantB_ne _ _ el]
              unfold holdsB at hl ⊢
              rw [e1] at hl
              exact hl
          · rw [wantB_ne _ _ (fun h => e h.symm)]; exact h3
          · funext i
            by_cases e1 : i = v
            · subst e1
              rw [wantB_self, wantB_ne _ _ e, wantB_ne _ _ e, wantB_self]
            · rw [wantB_ne _ _ e1]
              by_cases e2 : i = v'
              · subst e2
                rw [wantB_self, wantB_self, wantB_ne _ _ e1]
              · rw [wantB_ne _ _ e2, wantB_ne _ _ e2, wantB_ne _ _ e1]
      · exfalso
        simp only [RowC.at_step] at hne hpl
        unfold movedB movedK at hne hpl
        rw [if_pos hvl] at hne hpl
        unfold move1 endV at *
        cases o <;> cases hh : (y.at_ v).opn <;> simp_all <;> omega
theorem goodR_lead {p : PlantD} {l : List RowC} (hv : ValvesOk p) (hg : ∀ (k : Nat) (r : RowC), l[k]? = some r → GoodR p l k r) (hok : ∀ (k : Nat) (r : RowC), l[k]? = some r → SpotsOk p r.at_) {k : Nat} {r : RowC} (h : GoodR p l k r) (hl : ∀ j r', j < k → l[j]? = some r' → Lead p r') : Lead p r := by
  rcases h.1 with rfl | ⟨j, y, hj, hy, hf, _⟩
  · rfl
  · have h1 := hl j y hj hy
    rcases hf with ⟨v, o, a, b, c, rfl⟩ | rfl
    · refine ⟨h1, v, a, rfl, b, c, rfl, fun hpl => ?_⟩
      obtain ⟨m, u, hm, hu, hus⟩ := back_first hv hg hok j j (Nat.le_refl _) y hy v o a c hpl
      exact h.2 ⟨m, u, by omega, hu, hus⟩
    · exact ⟨h1, rfl⟩
theorem rows_lead {p : PlantD} {l : List RowC} (hv : ValvesOk p) (hg : ∀ (k : Nat) (r : RowC), l[k]? = some r → GoodR p l k r) (hok : ∀ (k : Nat) (r : RowC), l[k]? = some r → SpotsOk p r.at_) : ∀ (n j : Nat) (r : RowC), j ≤ n → l[j]? = some r → Lead p r := by
  intro n
  induction n with
  | zero => intro j r hj hr; exact goodR_lead hv hg hok (hg j r hr) fun i r' hi => absurd hi (by omega)
  | succ n ih => intro j r hj hr; exact goodR_lead hv hg hok (hg j r hr) fun i r' hi hr' => ih i r' (by omega) hr'
theorem pathS_found {p : PlantD} {g : List LitD} (hv : ValvesOk p) {r : RowC} (h : (pathS p g).found = some r) : Lead p r ∧ reachedB p r.at_ g = true ∧ SpotsOk p r.at_ := by
  rcases pathS_lead (g := g) hv with (⟨x, h1, h2, h3, h4, h5, h6⟩ | ⟨h1, _⟩) | ⟨h1, _⟩
  · rw [h] at h1
    injection h1 with h1
    subst h1
    exact ⟨goodR_lead hv h5 h6 h4 fun j r' _ hr => rows_lead hv h5 h6 j j r' (Nat.le_refl _) hr, h2, h3⟩
  · rw [h] at h1; exact absurd h1 (by simp)
  · have := h1.found
    rw [h] at this; exact absurd this (by simp)

/-! With ticks behind each order. -/
/-- Where all valves are as they are wanted. -/
def settleB (p : PlantD) (s : Spots) : Spots := fun i => if i < p.valves.length then ⟨endV p i (s i).opn, (s i).opn⟩ else SpotD.zero
def movedN (p : PlantD) : Nat → Spots → Spots
  | 0, s => s
  | n + 1, s => movedB p (movedN p n s) fun _ => false
theorem movedN_ok {p : PlantD} {s : Spots} (hs : SpotsOk p s) : ∀ n, SpotsOk p (movedN p n s)
  | 0 => hs
  | n + 1 => movedB_ok (movedN_ok hs n) _
theorem movedN_at {p : PlantD} {s : Spots} (hs : SpotsOk p s) {i : Nat} (hi : i < p.valves.length) : ∀ n : Nat, (movedN p n s i).opn = (s i).opn ∧ (movedN p n s i).place = if (s i).opn then min ((s i).place + n) (p.valve i).travel else max ((s i).place - n) 0
  | 0 => by
    have h := hs.1 i hi
    refine ⟨rfl, ?_⟩
    show (s i).place = _
    split <;> simp <;> omega
  | n + 1 => by
    obtain ⟨a, b⟩ := movedN_at hs hi n
    have h := hs.1 i hi
    have e : movedN p (n + 1) s i = move1 (p.valve i).travel false (movedN p n s i) := by
      show movedB p (movedN p n s) (fun _ => false) i = _
      unfold movedB movedK; rw [if_pos hi]
    rw [e]
    unfold move1
    rw [if_neg (by decide), a]
    cases ho : (s i).opn
    · rw [ho] at b
      simp only [Bool.false_eq_true, if_false] at b ⊢
      refine ⟨trivial, ?_⟩
      rw [b]; push_cast; omega
    · rw [ho] at b
      simp only [if_true] at b ⊢
      refine ⟨trivial, ?_⟩
      rw [b]; push_cast; omega
theorem moved8 {p : PlantD} (hv : ValvesOk p) {s : Spots} (hs : SpotsOk p s) : movedN p 8 s = settleB p s := by
  funext i
  by_cases hi : i < p.valves.length
  · obtain ⟨a, b⟩ := movedN_at hs hi 8
    have h := hs.1 i hi
    have ht := hv.2 i hi
    unfold settleB
    rw [if_pos hi]
    cases hx : movedN p 8 s i with
    | mk pl op =>
      rw [hx] at a b
      simp only at a b
      rw [a]
      unfold endV
      congr 1
      rw [b]
      cases (s i).opn <;> simp <;> omega
  · rw [(movedN_ok hs 8).2 i (by omega)]
    unfold settleB; rw [if_neg hi]
theorem settleB_ok {p : PlantD} (hv : ValvesOk p) (s : Spots) : SpotsOk p (settleB p s) := by
  refine ⟨fun i hi => ?_, fun i hi => ?_⟩
  · have ht := hv.2 i hi
    unfold settleB endV; rw [if_pos hi]; simp only; split <;> omega
  · unfold settleB; rw [if_neg (by omega)]
theorem settle_first {p : PlantD} : settleB p (firstB p) = firstB p := by
  funext i
  unfold settleB firstB endV
  by_cases hi : i < p.valves.length
  · cases ho : (p.valve i).opn <;> simp [hi, SpotD.zero]
  · simp [hi]
theorem settle_moved {p : PlantD} {s : Spots} : settleB p (movedB p s fun _ => false) = settleB p s := by
  funext i
  unfold settleB
  by_cases hi : i < p.valves.length
  · have : (movedB p s (fun _ => false) i).opn = (s i).opn := by
      unfold movedB movedK move1; rw [if_pos hi, if_neg Bool.false_ne_true]; split <;> rfl
    rw [this]
  · rw [if_neg hi, if_neg hi]
theorem settle_want {p : PlantD} {s : Spots} {v : Nat} {o : Bool} : settleB p (wantB (settleB p s) v o) = settleB p (wantB s v o) := by
  funext i
  unfold settleB
  by_cases hi : i < p.valves.length
  · have : (wantB (fun i => if i < p.valves.length then (⟨endV p i (s i).opn, (s i).opn⟩ : SpotD) else SpotD.zero) v o i).opn = (wantB s v o i).opn := by
      by_cases e : i = v
      · subst e; rw [wantB_self, wantB_self]
      · rw [wantB_ne _ _ e, wantB_ne _ _ e, if_pos hi]
    rw [if_pos hi, if_pos hi, this]
  · rw [if_neg hi, if_neg hi]
/-- Orders of a path are accepted where all has settled. -/
theorem settle_safe {p : PlantD} (hv : ValvesOk p) (hN : NeverOk p) {s : Spots} (hs : SpotsOk p s) {v : Nat} {o : Bool} (hvl : v < p.valves.length) (h : safeB p (wantB s v o) = true) (hne : (s v).opn ≠ o) (hpl : (s v).place ≠ endV p v o) : safeB p (wantB (settleB p s) v o) = true := by
  rw [safeB_iff] at h ⊢
  intro i hi
  obtain ⟨k, hk, e⟩ := h i hi
  refine ⟨k, hk, ?_⟩
  obtain ⟨d, hd⟩ : ∃ d, (p.nev i).getD k lit0 = d := ⟨_, rfl⟩
  have hr := hN i hi k hk
  rw [hd] at e hr ⊢
  have hl : d.valve.toNat < p.valves.length := by omega
  have ht := hv.2 _ hl
  have hp := hs.1 _ hl
  unfold mayB holdsB at e ⊢
  by_cases el : d.valve.toNat = v
  · rw [el, wantB_self] at e
    rw [el] at ht hp
    rw [el, wantB_self]
    have hst : settleB p s v = ⟨endV p v (s v).opn, (s v).opn⟩ := by unfold settleB; rw [if_pos hvl]
    rw [hst]
    unfold endV at hpl ⊢
    cases o <;> cases ho : (s v).opn <;> cases hdo : d.opn <;> simp_all <;> omega
  · rw [wantB_ne _ _ el] at e ⊢
    have hst : settleB p s d.valve.toNat = ⟨endV p d.valve.toNat (s d.valve.toNat).opn, (s d.valve.toNat).opn⟩ := by unfold settleB; rw [if_pos hl]
    rw [hst]
    unfold endV
    cases ho : (s d.valve.toNat).opn <;> cases hdo : d.opn <;> simp_all <;> omega
theorem settle_holds {p : PlantD} {s : Spots} {g : List LitD} (hG : GoalOk p g) (h : reachedB p s g = true) {k : Nat} (hk : k < g.length) : holdsB p (settleB p s) (g.getD k lit0) = true := by
  unfold reachedB at h
  rw [allN_iff] at h
  have h1 := h k hk
  have hr := hG k hk
  unfold reach1B at h1
  rw [Bool.and_eq_true, decide_eq_true_eq] at h1
  obtain ⟨h2, h3⟩ := h1
  have hl : (g.getD k lit0).valve.toNat < p.valves.length := by omega
  have hst : (settleB p s (g.getD k lit0).valve.toNat).place = (s (g.getD k lit0).valve.toNat).place := by
    rw [h2]; unfold settleB endV endB; rw [if_pos hl]
  unfold holdsB at h3 ⊢
  rw [hst]; exact h3
end Go.Proofs.Ytogobjmmgjfjjaa
/- What is proved: nothing of Go: a system that is led along a path; a system whose valves do not stick stays where the search has been. Conditions: those that each lemma states. -/
namespace Go.Proofs.Ytogobjmmgjfjjaa
open Go.RowKit

def tickN : Nat → Sys → Sys
  | 0, S => S
  | n + 1, S => tickB (tickN n S)
/-- A system of a plant, of which no valve sticks. -/
structure Free (p : PlantD) (S : Sys) : Prop where
  p_ : S.p = p
  stuck : S.stuck = fun _ => false
theorem flowB_spots (S : Sys) (l : LineD) : (flowB S l).at_ = S.at_ ∧ (flowB S l).stuck = S.stuck := by
  unfold flowB
  constructor <;> dsimp only <;> split <;> (try dsimp only) <;> split <;> rfl
theorem linesK_spots (S : Sys) (k : Nat) : (linesK S k).at_ = S.at_ ∧ (linesK S k).stuck = S.stuck := by
  induction k with
  | zero => exact ⟨rfl, rfl⟩
  | succ k ih =>
    unfold linesK
    split
    · have h := flowB_spots (linesK S k) ((linesK S k).p.line k)
      exact ⟨h.1.trans ih.1, h.2.trans ih.2⟩
    · exact ih
theorem tanksK_spots (S : Sys) (k : Nat) : (tanksK S k).at_ = S.at_ ∧ (tanksK S k).stuck = S.stuck := by
  induction k with
  | zero => exact ⟨rfl, rfl⟩
  | succ k ih => exact ih
theorem tickB_spots (S : Sys) : (tickB S).at_ = movedB S.p S.at_ S.stuck ∧ (tickB S).stuck = S.stuck ∧ (tickB S).p = S.p := by
  have h1 := tanksK_spots (linesK S.move S.p.lines.length) S.p.tanks.length
  have h2 := linesK_spots S.move S.p.lines.length
  have h3 := tanksK_p (linesK S.move S.p.lines.length) S.p.tanks.length
  have h4 := linesK_p S.move S.p.lines.length
  exact ⟨h1.1.trans h2.1, h1.2.trans h2.2, h3.trans h4⟩
theorem Free.tick {p : PlantD} {S : Sys} (h : Free p S) : Free p (tickB S) ∧ (tickB S).at_ = movedB p S.at_ fun _ => false := by
  obtain ⟨a, b, c⟩ := tickB_spots S
  exact ⟨⟨c.trans h.p_, b.trans h.stuck⟩, by rw [a, h.p_, h.stuck]⟩
theorem Free.ticks {p : PlantD} {S : Sys} (h : Free p S) : ∀ n, Free p (tickN n S) ∧ (tickN n S).at_ = movedN p n S.at_
  | 0 => ⟨h, rfl⟩
  | n + 1 => by
    obtain ⟨a, b⟩ := Free.ticks h n
    obtain ⟨c, d⟩ := a.tick
    exact ⟨c, by show (tickB (tickN n S)).at_ = _; rw [d, b]; rfl⟩
theorem Free.start (p : PlantD) : Free p (startB p) := ⟨rfl, rfl⟩
theorem inB_valve {p : PlantD} {v : Nat} (h : v < p.valves.length) : inB (v : Int) 0 (p.valves.length - 1) = true := by
  rw [inB_iff]; omega
theorem Free.order {p : PlantD} {S : Sys} (h : Free p S) {v : Nat} {o : Bool} (hv : v < p.valves.length) (hs : safeB p (wantB S.at_ v o) = true) : (orderB S v o).1 = 0 ∧ Free p (orderB S v o).2 ∧ (orderB S v o).2.at_ = wantB S.at_ v o := by
  have e : orderB S v o = (0, { S with at_ := wantB S.at_ v o }) := by
    unfold orderB
    rw [h.p_, if_pos (inB_valve hv), Int.toNat_natCast, if_pos hs]
  rw [e]
  exact ⟨rfl, ⟨h.p_, h.stuck⟩, rfl⟩

/-- Behind k orders of a path, with eight ticks behind each. -/
def leadK (p : PlantD) (L : List LitD) : Nat → Sys
  | 0 => startB p
  | k + 1 => tickN 8 (orderB (leadK p L k) (L.getD k lit0).valve (L.getD k lit0).opn).2
theorem leadK_succ (p : PlantD) (L : List LitD) (k : Nat) : leadK p L (k + 1) = tickN 8 (orderB (leadK p L k) (L.getD k lit0).valve (L.getD k lit0).opn).2 := rfl
theorem leadK_more (p : PlantD) (L M : List LitD) : ∀ k, k ≤ L.length → leadK p (L ++ M) k = leadK p L k
  | 0, _ => rfl
  | k + 1, hk => by
    have e : (L ++ M).getD k lit0 = L.getD k lit0 := by
      simp only [List.getD_eq_getElem?_getD]; rw [List.getElem?_append_left (by omega)]
    rw [leadK_succ, leadK_succ, leadK_more p L M k (by omega), e]
theorem Lead.ok {p : PlantD} (hv : ValvesOk p) : ∀ {r : RowC}, Lead p r → SpotsOk p r.at_
  | .root s, h => by
    have h' : s = firstB p := h
    show SpotsOk p s
    rw [h']; exact firstB_spots hv
  | .step s r none, h => by
    obtain ⟨h1, h2⟩ := h
    show SpotsOk p s
    rw [h2]; exact movedB_ok (Lead.ok hv h1) _
  | .step s r (some o), h => by
    obtain ⟨h1, v, a, _, _, _, h2, _⟩ := h
    show SpotsOk p s
    rw [h2]; exact wantB_ok (Lead.ok hv h1) a _
/-- A path leads, step by step. -/
structure Leads (p : PlantD) (r : RowC) (L : List LitD) : Prop where
  took : ∀ k, k < L.length → (orderB (leadK p L k) (L.getD k lit0).valve (L.getD k lit0).opn).1 = 0
  free : Free p (leadK p L L.length)
  at_ : (leadK p L L.length).at_ = settleB p r.at_
theorem lead_leads {p : PlantD} (hv : ValvesOk p) (hN : NeverOk p) : ∀ {r : RowC}, Lead p r → Leads p r r.back.reverse
  | .root s, h => by
    have h' : s = firstB p := h
    subst h'
    exact ⟨fun k hk => absurd hk (by simp [RowC.back]), Free.start p, settle_first.symm⟩
  | .step s r none, h => by
    obtain ⟨h1, rfl⟩ := h
    have ih := lead_leads hv hN h1
    exact ⟨ih.took, ih.free, ih.at_.trans settle_moved.symm⟩
  | .step s r (some d), h => by
    obtain ⟨h1, v, hvl, hdv, hs, hne, rfl, hpl⟩ := h
    have ih := lead_leads hv hN h1
    have hok := Lead.ok hv h1
    obtain ⟨dv, o⟩ := d
    simp only at hdv hs hne hpl
    subst hdv
    have eL : (RowC.step (wantB r.at_ v o) r (some ⟨(v : Int), o⟩)).back.reverse = r.back.reverse ++ [⟨(v : Int), o⟩] := by
      show (_ :: r.back).reverse = _
      rw [List.reverse_cons]
    rw [eL]
    obtain ⟨L, hL⟩ : ∃ L, r.back.reverse = L := ⟨_, rfl⟩
    rw [hL] at ih ⊢
    have hlast : (L ++ [(⟨(v : Int), o⟩ : LitD)]).getD L.length lit0 = ⟨(v : Int), o⟩ := by simp [List.getD_eq_getElem?_getD]
    have hsafe : safeB p (wantB (leadK p L L.length).at_ v o) = true := by rw [ih.at_]; exact settle_safe hv hN hok hvl hs hne hpl
    obtain ⟨o1, o2, o3⟩ := ih.free.order hvl hsafe
    have ek := leadK_more p L [⟨(v : Int), o⟩] L.length (Nat.le_refl _)
    have elen : (L ++ [(⟨(v : Int), o⟩ : LitD)]).length = L.length + 1 := by simp
    have estep : leadK p (L ++ [⟨(v : Int), o⟩]) (L.length + 1) = tickN 8 (orderB (leadK p L L.length) v o).2 := by
      rw [leadK_succ, hlast, ek]
    obtain ⟨t1, t2⟩ := o2.ticks 8
    refine ⟨fun k hk => ?_, ?_, ?_⟩
    · rw [elen] at hk
      by_cases hkl : k < L.length
      · rw [leadK_more p L _ k (by omega)]
        have e : (L ++ [(⟨(v : Int), o⟩ : LitD)]).getD k lit0 = L.getD k lit0 := by
          simp only [List.getD_eq_getElem?_getD]; rw [List.getElem?_append_left hkl]
        rw [e]; exact ih.took k hkl
      · obtain rfl : k = L.length := by omega
        rw [ek, hlast]; exact o1
    · rw [elen, estep]; exact t1
    · rw [elen, estep, t2, o3, ih.at_, moved8 hv (wantB_ok (settleB_ok hv _) hvl o)]
      exact settle_want
theorem pathB_lead {p : PlantD} {g : List LitD} {L : List LitD} (h : pathB p g = (L, 0)) : plantB p = true ∧ litsOk p.valves.length g 16 = true ∧ (∀ k, k < L.length → (orderB (leadK p L k) (L.getD k lit0).valve (L.getD k lit0).opn).1 = 0) ∧ holdsSetB (leadK p L L.length) g = true := by
  unfold pathB at h
  by_cases hc : (plantB p && litsOk p.valves.length g 16) = true
  · rw [if_pos hc] at h
    rw [Bool.and_eq_true] at hc
    have hv := plantOk_valves hc.1
    have hN := plantOk_never hc.1
    cases hf : (pathS p g).found with
    | none =>
      rw [hf] at h
      simp only at h
      split at h <;> simp at h
    | some r =>
      rw [hf] at h
      simp only [Prod.mk.injEq, and_true] at h
      obtain ⟨k1, k2, _⟩ := pathS_found (g := g) hv hf
      have hl := lead_leads hv hN k1
      rw [h] at hl
      refine ⟨hc.1, hc.2, hl.took, ?_⟩
      have hg := goalOk_of hc.2
      have hlo := hc.2
      unfold holdsSetB
      rw [hl.free.p_, hl.at_, Bool.and_eq_true]
      refine ⟨?_, allN_iff.2 fun k hk => settle_holds hg k2 hk⟩
      unfold litsOk at hlo ⊢
      rw [Bool.and_eq_true] at hlo ⊢
      refine ⟨?_, hlo.2⟩
      have := hlo.1
      rw [inB_iff] at this ⊢
      omega
  · rw [if_neg hc] at h; simp at h
theorem pathB_none {p : PlantD} {g : List LitD} {L : List LitD} (h : pathB p g = (L, 7)) : L = [] ∧ plantB p = true ∧ litsOk p.valves.length g 16 = true ∧ ∃ C : Spots → Prop, C (firstB p) ∧ (∀ s s', C s → NextS p s s' → C s') ∧ ∀ s, C s → reachedB p s g = false := by
  unfold pathB at h
  by_cases hc : (plantB p && litsOk p.valves.length g 16) = true
  · rw [if_pos hc] at h
    rw [Bool.and_eq_true] at hc
    have hv := plantOk_valves hc.1
    cases hf : (pathS p g).found with
    | some r => rw [hf] at h; simp at h
    | none =>
      rw [hf] at h
      simp only at h
      cases hfu : (pathS p g).full with
      | true => rw [hfu] at h; simp at h
      | false =>
        rw [hfu] at h
        simp at h
        exact ⟨h, hc.1, hc.2, pathS_none hv hf hfu⟩
  · rw [if_neg hc] at h; simp at h
/-- No call but one that makes a valve stick leads out of what is closed. -/
theorem does_closed {p : PlantD} {C : Spots → Prop} (hC : ∀ s s', C s → NextS p s s' → C s') {S : Sys} (h : Free p S) (hs : C S.at_) (what a b c : Int) (h3 : ¬ what = 3) : Free p (doesB S what a b c).2 ∧ C (doesB S what a b c).2.at_ := by
  unfold doesB
  by_cases h1 : what = 1
  · rw [if_pos h1]
    unfold putB
    split
    · split
      · exact ⟨⟨h.p_, h.stuck⟩, hs⟩
      · exact ⟨h, hs⟩
    · exact ⟨h, hs⟩
  rw [if_neg h1]
  by_cases h2 : what = 2
  · rw [if_pos h2]
    by_cases hi : inB a 0 (S.p.valves.length - 1) = true
    · rw [h.p_] at hi
      rw [inB_iff] at hi
      obtain ⟨v, rfl⟩ := Int.eq_ofNat_of_zero_le hi.1
      have hvl : v < p.valves.length := by omega
      by_cases hsf : safeB p (wantB S.at_ v (oddB b)) = true
      · obtain ⟨_, o2, o3⟩ := h.order hvl hsf
        refine ⟨o2, ?_⟩
        rw [o3]
        by_cases e : (S.at_ v).opn = oddB b
        · have : wantB S.at_ v (oddB b) = S.at_ := by
            funext i
            by_cases ei : i = v
            · subst ei; rw [wantB_self, ← e]
            · rw [wantB_ne _ _ ei]
          rw [this]; exact hs
        · exact hC _ _ hs (Or.inl ⟨v, oddB b, hvl, hsf, e, rfl⟩)
      · have e : orderB S v (oddB b) = (9, S) := by
          unfold orderB
          rw [h.p_, if_pos (inB_valve hvl), Int.toNat_natCast, if_neg hsf]
        rw [e]; exact ⟨h, hs⟩
    · have e : orderB S a (oddB b) = (7, S) := by
        unfold orderB; rw [if_neg hi]
      rw [e]; exact ⟨h, hs⟩
  rw [if_neg h2, if_neg h3]
  by_cases h4 : what = 4
  · rw [if_pos h4]
    unfold leakB
    split
    · split
      · exact ⟨⟨h.p_, h.stuck⟩, hs⟩
      · exact ⟨h, hs⟩
    · exact ⟨h, hs⟩
  · rw [if_neg h4]
    obtain ⟨t1, t2⟩ := h.tick
    exact ⟨t1, by rw [t2]; exact hC _ _ hs (Or.inr rfl)⟩
/-- A goal that is settled and holds is reached. -/
theorem settled_reached {p : PlantD} {S : Sys} {g : List LitD} (h : Free p S) (h1 : ∀ k, k < g.length → (S.at_ (g.getD k lit0).valve.toNat).place = endB p S.at_ (g.getD k lit0)) (h2 : holdsSetB S g = true) : reachedB p S.at_ g = true := by
  unfold holdsSetB at h2
  rw [Bool.and_eq_true, h.p_] at h2
  unfold reachedB
  rw [allN_iff]
  intro k hk
  unfold reach1B
  rw [Bool.and_eq_true, decide_eq_true_eq]
  exact ⟨h1 k hk, (allN_iff.1 h2.2) k hk⟩
end Go.Proofs.Ytogobjmmgjfjjaa
/- What is proved: the law EngineLeads answers true. Conditions: the plant, the goal and the acts lie in memory. -/
namespace Go.Proofs.Ytogobjmmgjfjjaa
open Go.RowKit

/-- A system and a list of orders, in memory. -/
structure LeadQ (W : World) (X : SX) (A : Option Addr) (L : List LitD) (wr : World) (S : Sys) : Prop where
  sys : SysAt wr X S
  below : Below W.heap.size W wr
  lo : W.heap.size ≤ X.lo
  path : SlD wr (fun b => X.hi ≤ b ∧ b < wr.heap.size) 2 A L.length fun k => litC (L.getD k lit0)
theorem LeadQ.later {W wr w1 : World} {X : SX} {A : Option Addr} {L : List LitD} {S : Sys} (h : LeadQ W X A L wr S) (hb : Below wr.heap.size wr w1) : LeadQ W X A L w1 S :=
  ⟨h.sys.below hb, h.below.trans (hb.mono h.below.size), h.lo, (h.path.keep fun b hb' => hb.block b hb'.2).mono fun _ hb' => ⟨hb'.1, Nat.lt_of_lt_of_le hb'.2 hb.size⟩⟩
theorem LeadQ.does {W wr w1 : World} {X : SX} {A : Option Addr} {L : List LitD} {S S' : Sys} (h : LeadQ W X A L wr S) (hs : SysAt w1 X S') (hc : Chg X wr w1) : LeadQ W X A L w1 S' := by
  have l := h.sys.lo; have u := h.sys.hi; have l2 := h.lo; have hsz := h.below.size; have hcs := hc.size
  exact ⟨hs, h.below.trans (hc.below hsz (by omega) (by omega) (by omega)), h.lo, (h.path.keep fun b hb' => hc.block b hb'.2 (by omega) (by omega) (by omega)).mono fun _ hb' => ⟨hb'.1, by omega⟩⟩
theorem ordSl_slD {w : World} {B : Nat} {v : Value} {l : List LitD} (h : OrdSl w B v l) (hn : l.length ≤ 100000) : ∃ A c, v = .slice A l.length c ∧ SlD w (fun b => B ≤ b ∧ b < w.heap.size) 2 A l.length fun k => litC (l.getD k lit0) := by
  rcases h with ⟨rfl, rfl⟩ | ⟨g, cap, rfl, ⟨cs, hb, hs, hc⟩, hB, hcap⟩
  · exact ⟨none, 0, rfl, by simp, fun h => absurd h (by simp)⟩
  · refine ⟨_, _, rfl, by omega, fun _ => ⟨g, 0, rfl, ⟨hB, hb.lt⟩, fun i hi j hj => ?_⟩⟩
    rw [Nat.zero_add, hb.cell]
    have h1 := hc i hi
    have : j = 0 ∨ j = 1 := by omega
    rcases this with rfl | rfl
    · have h2 := h1.1
      simp only [Nat.add_zero] at h2 ⊢
      exact h2
    · exact h1.2
/-- How far all places are those that are wanted. -/
def setK (S : Sys) (g : List LitD) (m : Nat) : Bool := allN m fun k => decide ((S.at_ (g.getD k lit0).valve.toNat).place = endB S.p S.at_ (g.getD k lit0))
theorem setK_succ (S : Sys) (g : List LitD) (m : Nat) : setK S g (m + 1) = (setK S g m && decide ((S.at_ (g.getD m lit0).valve.toNat).place = endB S.p S.at_ (g.getD m lit0))) := by
  unfold setK allN
  rw [List.range_succ, List.all_append]; simp
theorem setK_no {p : PlantD} {S : Sys} {g : List LitD} (h : Free p S) (hr : reachedB p S.at_ g = false) (h1 : setK S g g.length = true) : holdsSetB S g = false := by
  cases e : holdsSetB S g with
  | false => rfl
  | true =>
    have := settled_reached h (g := g) (fun k hk => by
      unfold setK at h1
      have h2 := (allN_iff.1 h1) k hk
      rw [decide_eq_true_eq, h.p_] at h2
      exact h2) e
    rw [hr] at this; exact absurd this (by decide)
theorem loopS_sr {p : PlantD} {g : List LitD} : ∀ (n : Nat) (more : Bool) (st : Srch), SrOk st → SrOk (loopS p g n more st) := by
  intro n
  induction n with
  | zero => intro more st h; exact h
  | succ n ih =>
    intro more st h
    cases more with
    | false => rw [loopS_false]; exact h
    | true =>
      cases hr : st.rows[st.next]? with
      | none => rw [loopS_none hr]; exact h
      | some r =>
        rw [loopS_some hr]
        have hlt := (List.getElem?_eq_some_iff.1 hr).1
        have hd := h.dep _ _ hr
        exact ih _ _ (followS_ok (p := p) (g := g) (r := r) (st := { st with next := st.next + 1 }) ⟨h.dep, h.fnd, h.few, by show st.next + 1 ≤ st.rows.length; omega⟩ (by show r.depth + 1 ≤ st.rows.length; omega)).1
theorem pathB_len {p : PlantD} {g : List LitD} : (pathB p g).1.length ≤ 100000 := by
  unfold pathB
  split
  · cases hf : (pathS p g).found with
    | none => simp only; split <;> simp
    | some r =>
      simp only [List.length_reverse]
      have h1 := r.back_le
      have h2 := reachS_ok (p := p) (g := g) (r := .root (firstB p)) srch0_ok (Nat.zero_le _)
      have h3 : SrOk (pathS p g) := by
        unfold pathS
        exact loopS_sr _ _ _ h2.1
      have h4 := h3.fnd r hf
      omega
  · simp

set_option maxRecDepth 100000 in
set_option maxHeartbeats 16000000 in
theorem leads_any (w : World) (x : PV) (p : PlantD) (hp : PlantAt w w.heap.size x p) (A1 : Option Addr) (c1 : Nat) (g : List LitD) (hg : LitsAt w w.heap.size A1 g) (A2 : Option Addr) (c2 : Nat) (l : List ActD) (hl : ActsAt w w.heap.size A2 l) :
    Calls Try.prog 4 #[.agg (plantA x p), .slice A1 g.length c1, .slice A2 l.length c2] w fun e w' => e = .returned (.bool true) ∧ Below w.heap.size w w' := by
  obtain ⟨W, hW⟩ : ∃ W, W = w.alloc (.cells (plantA x p) 33) := ⟨_, rfl⟩
  have hbW : Below w.heap.size w W := by rw [hW]; exact (Below.refl _ _).alloc (Nat.le_refl _) _
  have hb0 : Bk W w.heap.size 33 (plantA x p) := by rw [hW]; exact Bk.new _ _ _
  have HC : Hid (∀ wx, Below W.heap.size W wx → Bk wx w.heap.size 33 (plantA x p)) := Lib.hid fun wx hx => hb0.below hx hb0.lt
  have HC4 : Hid (∀ wx, Below W.heap.size W wx → wx.cell? ⟨w.heap.size, 0, none⟩ = some (.slice x.tA p.tanks.length x.tc) ∧ wx.cell? ⟨w.heap.size, 1, none⟩ = some (.slice x.vA p.valves.length x.vc) ∧
      wx.cell? ⟨w.heap.size, 2, none⟩ = some (.slice x.lA p.lines.length x.lc) ∧ wx.cell? ⟨w.heap.size, 3, none⟩ = some (.slice x.nA p.never.length x.nc)) := Lib.hid fun wx hx =>
    have h0 := HC.out wx hx
    ⟨h0.cell 0, h0.cell 1, h0.cell 2, h0.cell 3⟩
  have HP : Hid (∀ wx, Below W.heap.size W wx → PlantAt wx wx.heap.size x p) := Lib.hid fun wx hx => ((hp.below hbW).below (hx.mono hbW.size)).mono (Nat.le_trans hbW.size hx.size)
  have HLG : Hid (∀ wx, Below W.heap.size W wx → LitsAt wx wx.heap.size A1 g) := Lib.hid fun wx hx => Sl.mono (Sl.below (Sl.below hg hbW) (hx.mono hbW.size)) (Nat.le_trans hbW.size hx.size)
  have HL : Hid (∀ wx, Below W.heap.size W wx → ActsAt wx wx.heap.size A2 l) := Lib.hid fun wx hx => Sl.mono (Sl.below (Sl.below hl hbW) (hx.mono hbW.size)) (Nat.le_trans hbW.size hx.size)
  have HB := Lib.hid hbW
  have HW := Lib.hid hW
  have HA := Lib.hid awake_any
  simp only [plantA] at HW
  clear hp hl hg hbW hb0 hW
  have HG := Lib.hid fun wx hx => great_any wx x p (HP.out wx hx)
  have HN := Lib.hid fun wx hx => new_any wx x p (HP.out wx hx)
  have HPA := Lib.hid fun wx hx => path_any wx x p (HP.out wx hx) A1 c1 g (HLG.out wx hx)
  simp only [plantA] at HG HN HPA
  have END : Hid (∀ wx, Below W.heap.size W wx → Calls Try.prog 7 #[] wx fun e w' => e = .returned (.bool true) ∧ Below W.heap.size W w') := Lib.hid fun wx hx =>
    (HA.out wx).mono fun e w' ⟨he, hb⟩ => ⟨he, hx.trans (hb.mono hx.size)⟩
  have FIN : Hid (∀ wx, Below W.heap.size W wx → Below w.heap.size w wx) := Lib.hid fun wx hx => HB.out.trans (hx.mono HB.out.size)
  dsimp only [plantA]
  obtain ⟨n, hn⟩ : ∃ n, l.length = n := ⟨_, rfl⟩
  rw [hn]
  have HNL := Lib.hid hn
  clear hn
  obtain ⟨gl, hgl⟩ : ∃ n, g.length = n := ⟨_, rfl⟩
  rw [hgl] at HPA ⊢
  have HNG := Lib.hid hgl
  clear hgl
  obtain ⟨c0, c1', c2', c3⟩ := HC4.out W (Below.refl _ _)
  go_enter Try.func4, Try.ntmps4
  go_wp2_with fail
  rw [← HW.out]
  refine (HG.out W (Below.refl _ _)).mono ?_
  rintro e w1 ⟨b1, rfl, _, hb1⟩
  have HB1 : Hid (Below W.heap.size W w1) := Lib.hid hb1
  clear hb1 c0 c1' c2' c3
  obtain ⟨c0, c1', c2', c3⟩ := HC4.out w1 HB1.out
  cases b1 with
  | true =>
    go_wp2_with fail
    refine (END.out w1 HB1.out).mono ?_
    rintro e w3 ⟨rfl, hb3⟩
    go_wp2_with fail
    go_ret
    exact ⟨rfl, FIN.out _ hb3⟩
  | false =>
    by_cases h40 : (40 : Int) < (gl : Int)
    · go_wp2_with fail
      refine (END.out w1 HB1.out).mono ?_
      rintro e w3 ⟨rfl, hb3⟩
      go_wp2_with fail
      go_ret
      exact ⟨rfl, FIN.out _ hb3⟩
    by_cases h150 : (150 : Int) < (n : Int)
    · go_wp2_with fail
      refine (END.out w1 HB1.out).mono ?_
      rintro e w3 ⟨rfl, hb3⟩
      go_wp2_with fail
      go_ret
      exact ⟨rfl, FIN.out _ hb3⟩
    by_cases h4 : (4 : Int) < (p.valves.length : Int)
    · go_wp2_with fail
      refine (END.out w1 HB1.out).mono ?_
      rintro e w3 ⟨rfl, hb3⟩
      go_wp2_with fail
      go_ret
      exact ⟨rfl, FIN.out _ hb3⟩
    go_wp2_with fail
    refine (HN.out w1 HB1.out).mono ?_
    rintro e w2 ⟨hb2, hnew⟩
    have HB2 : Hid (Below W.heap.size W w2) := Lib.hid (HB1.out.trans (hb2.mono HB1.out.size))
    have HB12 := Lib.hid HB1.out.size
    clear hb2 c0 c1' c2' c3
    obtain ⟨c0, c1', c2', c3⟩ := HC4.out w2 HB2.out
    obtain ⟨L, hL⟩ : ∃ L, (pathB p g).1 = L := ⟨_, rfl⟩
    obtain ⟨E, hE⟩ : ∃ E, (pathB p g).2 = E := ⟨_, rfl⟩
    have HPE : Hid (pathB p g = (L, E)) := Lib.hid (by rw [← hL, ← hE])
    have HLE : Hid (L.length ≤ 100000) := Lib.hid (by rw [← hL]; exact pathB_len)
    rw [hL, hE] at HPA
    clear hL hE
    by_cases hpb : plantB p = true
    case neg =>
      rw [if_neg hpb] at hnew
      subst hnew
      have hE2 : E = 2 := by
        have h := HPE.out
        unfold pathB at h
        rw [if_neg (by rw [Bool.and_eq_true]; exact fun hh => hpb hh.1)] at h
        simp only [Prod.mk.injEq] at h
        exact h.2.symm
      subst hE2
      clear hpb
      go_wp2_with fail
      refine (HPA.out w2 HB2.out).mono ?_
      rintro e w3 ⟨v, rfl, _, hb3⟩
      have HB3 : Hid (Below W.heap.size W w3) := Lib.hid (HB2.out.trans (hb3.mono HB2.out.size))
      clear hb3
      go_wp2_with fail
      refine (END.out w3 HB3.out).mono ?_
      rintro e w4 ⟨rfl, hb4⟩
      go_wp2_with fail
      go_ret
      exact ⟨rfl, FIN.out _ hb4⟩
    case pos =>
      rw [if_pos hpb] at hnew
      obtain ⟨X, rfl, hsys, hlo⟩ := hnew
      have HSY := Lib.hid hsys
      have HLO := Lib.hid (show W.heap.size ≤ X.lo from Nat.le_trans HB12.out hlo)
      have HPB := Lib.hid hpb
      clear hpb hsys hlo
      go_wp2_with fail
      refine (HPA.out w2 HB2.out).mono ?_
      rintro e w3 ⟨v, rfl, hv, hb3⟩
      obtain ⟨A, cA, rfl, hsl⟩ := ordSl_slD hv HLE.out
      have HQ3 : Hid (LeadQ W X A L w3 (startB p)) := Lib.hid ⟨HSY.out.below hb3, HB2.out.trans (hb3.mono HB2.out.size), HLO.out, hsl.mono fun b hb' => ⟨Nat.le_trans HSY.out.hi.2.2.2.2 hb'.1, hb'.2⟩⟩
      clear hb3 hv hsl c0 c1' c2' c3
      by_cases hE0 : E = 0
      · subst hE0
        obtain ⟨_, _, htook, hhold⟩ := pathB_lead HPE.out
        have HTOOK := Lib.hid htook
        have HHOLD := Lib.hid hhold
        clear htook hhold
        obtain ⟨m, hm⟩ : ∃ m, L.length = m := ⟨_, rfl⟩
        have HM := Lib.hid hm
        have hm9 : m ≤ 100000 := by rw [← hm]; exact HLE.out
        rw [hm] at HHOLD ⊢
        clear hm
        go_wp2_with fail
        go_loopw [11] (fun i wr => ∃ k : Nat, k ≤ m ∧ i = .int .i64 k ∧ Hid (LeadQ W X A L wr (leadK p L k))) (fun i _ => m - (intOf i).toNat)
        case atStart => exact ⟨0, Nat.zero_le _, rfl, Lib.hid HQ3.out⟩
        case round =>
          obtain ⟨k, hk, rfl, hq⟩ := hrel
          by_cases hlt : k < m
          · have hki : (k : Int) < (m : Int) := by omega
            have h0k : (0 : Int) ≤ (k : Int) := by omega
            have hlt' : k < L.length := by rw [HM.out]; exact hlt
            obtain ⟨b, off, hA, d0, d1⟩ : ∃ b off, A = some ⟨b, off, none⟩ ∧ wr.cell? ⟨b, off + k * 2, none⟩ = some (.int .i64 (L.getD k lit0).valve) ∧ wr.cell? ⟨b, off + k * 2 + 1, none⟩ = some (.bool (L.getD k lit0).opn) := by
              obtain ⟨b, off, e, _, hc⟩ := hq.out.path.2 (by omega)
              exact ⟨b, off, e, hc k hlt' 0 (by omega), hc k hlt' 1 (by omega)⟩
            subst hA
            have hto := HTOOK.out k hlt'
            obtain ⟨d, hd⟩ : ∃ d, L.getD k lit0 = d := ⟨_, rfl⟩
            obtain ⟨T, hT⟩ : ∃ T, (orderB (leadK p L k) d.valve d.opn).2 = T := ⟨_, rfl⟩
            have HST : Hid (leadK p L (k + 1) = tickN 8 T) := Lib.hid (by rw [leadK_succ, hd, hT])
            have HOR := Lib.hid (sysOrder_any wr X (leadK p L k) hq.out.sys d.valve d.opn)
            rw [hd] at d0 d1 hto
            rw [hto, hT] at HOR
            obtain ⟨dv, dop⟩ := d
            simp only at d0 d1 HOR
            clear hto hd hT
            go_wp2_with fail
            refine HOR.out.mono ?_
            rintro e w4 ⟨rfl, hs4, hc4⟩
            have HQ4 : Hid (LeadQ W X (some ⟨b, off, none⟩) L w4 T) := Lib.hid (hq.out.does hs4 hc4)
            clear hs4 hc4 d0 d1 HOR
            go_wp2_with fail
            go_loopw [12] (fun i wr => ∃ j : Nat, j ≤ 8 ∧ i = .int .i64 j ∧ Hid (LeadQ W X (some ⟨b, off, none⟩) L wr (tickN j T))) (fun i _ => 8 - (intOf i).toNat)
            case atStart => exact ⟨0, Nat.zero_le _, rfl, Lib.hid HQ4.out⟩
            case round =>
              obtain ⟨j, hj, rfl, hqj⟩ := hrel
              by_cases hj8 : j < 8
              · have hji : (j : Int) < (8 : Int) := by omega
                have HTK := Lib.hid (tick_any _ X (tickN j T) hqj.out.sys)
                go_wp2_with fail
                refine HTK.out.mono ?_
                rintro e w5 ⟨rfl, hs5, hc5⟩
                have HQ5 : Hid (LeadQ W X (some ⟨b, off, none⟩) L w5 (tickN (j + 1) T)) := Lib.hid (hqj.out.does hs5 hc5)
                clear hs5 hc5 HTK
                go_wp2_with fail
                go_roundw
                case rel => first | exact ⟨j + 1, by omega, by go_num, HQ5⟩ | ((repeat apply Exists.intro); exact ⟨⟨j + 1, by omega, by go_num, HQ5⟩, rfl⟩)
                case measure => simp [intOf]; omega
              · have hj9 : j = 8 := by omega
                have HQ6 : Hid (LeadQ W X (some ⟨b, off, none⟩) L wr (leadK p L (k + 1))) := Lib.hid (by rw [HST.out, ← hj9]; exact hqj.out)
                have hji : ¬ ((j : Int) < (8 : Int)) := by omega
                clear hj9
                go_wp2_with fail
                go_roundw
                case rel => exact ⟨k + 1, by omega, by go_num, HQ6⟩
                case measure => simp [intOf]; omega
          · obtain rfl : k = m := by omega
            have cH := sysHolds_any wr X (leadK p L k) hq.out.sys A1 c1 g (HLG.out wr hq.out.below)
            rw [HHOLD.out, HNG.out] at cH
            have HCH := Lib.hid cH
            clear cH
            go_wp2_with fail
            refine HCH.out.mono ?_
            rintro e w4 ⟨rfl, hb4⟩
            have HQ4 := Lib.hid (hq.out.later hb4)
            clear hb4
            go_wp2_with fail
            refine (END.out w4 HQ4.out.below).mono ?_
            rintro e w5 ⟨rfl, hb5⟩
            go_wp2_with fail
            go_ret
            exact ⟨rfl, FIN.out _ hb5⟩
      by_cases hE7 : E = 7
      · subst hE7
        obtain ⟨hLn, _, hlo, C, hC1, hC2, hC3⟩ := pathB_none HPE.out
        have HC1 := Lib.hid hC1
        have HC2 := Lib.hid hC2
        have HC3 := Lib.hid hC3
        have HGO := Lib.hid (goalOk_of hlo)
        clear hLn hlo hC1 hC2 hC3 hE0
        go_wp2_with fail
        go_loopw [13] (fun i wr => ∃ (k : Nat) (St : Sys), k ≤ n ∧ i = .int .i64 k ∧ Hid (LeadQ W X A L wr St ∧ Free p St ∧ C St.at_)) (fun i _ => n - (intOf i).toNat)
        case atStart => exact ⟨0, startB p, Nat.zero_le _, rfl, Lib.hid ⟨HQ3.out, Free.start p, HC1.out⟩⟩
        case round =>
          obtain ⟨k, St, hk, rfl, hs⟩ := hrel
          by_cases hlt : k < n
          · have hki : (k : Int) < (n : Int) := by omega
            have h0k : (0 : Int) ≤ (k : Int) := by omega
            have hlt' : k < l.length := by rw [HNL.out]; exact hlt
            obtain ⟨b, off, rfl, hB, d0, d1, d2, d3⟩ := (HL.out wr hs.out.1.below).at4 hlt'
            obtain ⟨⟨what, a1, a2, a3⟩, hact⟩ : ∃ act, l.getD k act0 = act := ⟨_, rfl⟩
            rw [hact] at d0 d1 d2 d3
            simp only [actC] at d0 d1 d2 d3
            clear hact
            by_cases h3 : what = 3
            · subst h3
              go_wp2_with fail
              go_roundw
              case rel => exact ⟨k + 1, St, by omega, by go_num, hs⟩
              case measure => simp [intOf]; omega
            · obtain ⟨T, hT⟩ : ∃ T, (doesB St what a1 a2 a3).2 = T := ⟨_, rfl⟩
              have hcl := does_closed HC2.out hs.out.2.1 hs.out.2.2 what a1 a2 a3 h3
              rw [hT] at hcl
              have HCL := Lib.hid hcl
              have HD := Lib.hid (does_any wr X St hs.out.1.sys what a1 a2 a3)
              rw [hT] at HD
              clear hT hcl
              go_wp2_with fail
              refine HD.out.mono ?_
              rintro e w4 ⟨rfl, hs4, hc4⟩
              have HQ4 : Hid (LeadQ W X A L w4 T) := Lib.hid (hs.out.1.does hs4 hc4)
              clear hs4 hc4 d0 d1 d2 d3 HD hB
              have HC1 := Lib.hid HCL.out.2
              have HTP := HCL.out.1.p_
              have hn9 : n ≤ 150 := by omega
              have hg9 : gl ≤ 40 := by omega
              go_wp2_with fail
              go_loopw [14, 15] (fun st i wr => ∃ j : Nat, j ≤ gl ∧ st = .bool (setK T g j) ∧ i = .int .i64 j ∧ Hid (LeadQ W X A L wr T)) (fun _ i _ => gl - (intOf i).toNat)
              case atStart => exact ⟨0, Nat.zero_le _, rfl, rfl, Lib.hid HQ4.out⟩
              case round =>
                obtain ⟨j, hj, rfl, rfl, hq⟩ := hrel
                obtain ⟨sb, hsb⟩ : ∃ sb, setK T g j = sb := ⟨_, rfl⟩
                have HSB := Lib.hid hsb
                rw [hsb]
                clear hsb
                by_cases hjl : j < gl
                · have hji : (j : Int) < (gl : Int) := by omega
                  have h0j : (0 : Int) ≤ (j : Int) := by omega
                  have hjl' : j < g.length := by rw [HNG.out]; exact hjl
                  obtain ⟨bg, og, hA1, _, e0, e1⟩ := Sl.at2 (HLG.out wr hq.out.below) hjl'
                  subst hA1
                  have hgo := HGO.out j hjl'
                  have HSU := Lib.hid (setK_succ T g j)
                  obtain ⟨⟨gv, gop⟩, hd⟩ : ∃ d, g.getD j lit0 = d := ⟨_, rfl⟩
                  rw [hd] at e0 e1 hgo HSU
                  simp only [litC] at e0 e1 hgo HSU
                  clear hd
                  obtain ⟨vv, rfl⟩ := Int.eq_ofNat_of_zero_le hgo.1
                  have hvl : vv < p.valves.length := by omega
                  have HW1 := Lib.hid fun (wx : World) (hx : Below wr.heap.size wr wx) => wanted_any wx X T (hq.out.later hx).sys (vv : Int)
                  have HN1 := Lib.hid fun (wx : World) (hx : Below wr.heap.size wr wx) => number_any wx X T (hq.out.later hx).sys 3 (vv : Int) 0 0
                  have hin : inB (vv : Int) 0 (T.p.valves.length - 1) = true := by rw [HTP]; exact inB_valve hvl
                  have hw : wantedB T (vv : Int) = ((T.at_ vv).opn, 0) := by unfold wantedB; rw [if_pos hin, Int.toNat_natCast]
                  have hnb : numberB T 3 (vv : Int) = ((T.at_ vv).place, 0) := by
                    have hnd : needB T.p 3 (vv : Int) = true := by
                      unfold needB
                      rw [HTP, if_neg (by decide), if_neg (by decide), if_neg (by decide), if_pos rfl]
                      exact inB_valve hvl
                    unfold numberB numOf; rw [if_pos hnd]; simp
                  simp only [hw] at HW1
                  simp only [hnb] at HN1
                  obtain ⟨op, hop⟩ : ∃ op, (T.at_ vv).opn = op := ⟨_, rfl⟩
                  obtain ⟨pl, hpl⟩ : ∃ pl, (T.at_ vv).place = pl := ⟨_, rfl⟩
                  rw [hop] at HW1
                  rw [hpl] at HN1
                  have hend : endB T.p T.at_ ⟨(vv : Int), gop⟩ = if op then (p.valve vv).travel else 0 := by unfold endB; rw [HTP]; simp [hop]
                  have HSU2 : Hid (setK T g (j + 1) = (sb && decide (pl = if op then (p.valve vv).travel else 0))) := Lib.hid (by
                    have h := HSU.out
                    rw [HSB.out, hend, Int.toNat_natCast, hpl] at h
                    exact h)
                  clear hw hnb hin hgo hop hpl hend HSU
                  go_wp2_with fail
                  refine (HW1.out wr (Below.refl _ _)).mono ?_
                  rintro e w6 ⟨rfl, hb6⟩
                  have HB6 := Lib.hid hb6
                  clear hb6
                  go_wp2_with fail
                  refine (HN1.out w6 HB6.out).mono ?_
                  rintro e w7 ⟨rfl, hb7⟩
                  have HB7 : Hid (Below wr.heap.size wr w7) := Lib.hid (HB6.out.trans (hb7.mono HB6.out.size))
                  clear hb7
                  obtain ⟨k0, k1, k2, k3⟩ := HC4.out w7 (hq.out.below.trans (HB7.out.mono hq.out.below.size))
                  obtain ⟨bv, ov, hAv, _, _, dtr, _⟩ := (HP.out w7 (hq.out.below.trans (HB7.out.mono hq.out.below.size))).valves.at3 hvl
                  simp only [valveC] at dtr
                  rw [hAv] at k1
                  have HQ7 : Hid (LeadQ W X A L w7 T) := Lib.hid (hq.out.later HB7.out)
                  have hvi : (vv : Int) < (p.valves.length : Int) := by omega
                  have h0v : (0 : Int) ≤ (vv : Int) := by omega
                  obtain ⟨tr, htr⟩ : ∃ tr, (p.valve vv).travel = tr := ⟨_, rfl⟩
                  rw [htr] at dtr HSU2
                  clear htr hAv k0 k2 k3
                  cases sb with
                  | false =>
                    go_wp2_with fail
                    go_roundw
                    case rel =>
                      have hx : Hid (setK T g (j + 1) = false) := Lib.hid (by rw [HSU2.out]; rfl)
                      first | exact ⟨j + 1, by omega, by rw [hx.out], by go_num, HQ7⟩ | ((repeat apply Exists.intro); exact ⟨⟨j + 1, by omega, by rw [hx.out], by go_num, HQ7⟩, rfl⟩)
                    case measure => simp [intOf]; omega
                  | true =>
                    cases op with
                    | true =>
                      by_cases he : pl = tr
                      · subst he
                        go_wp2_with fail
                        go_roundw
                        case rel =>
                          have hx : Hid (setK T g (j + 1) = true) := Lib.hid (by rw [HSU2.out]; simp)
                          first | exact ⟨j + 1, by omega, by rw [hx.out], by go_num, HQ7⟩ | ((repeat apply Exists.intro); exact ⟨⟨j + 1, by omega, by rw [hx.out], by go_num, HQ7⟩, rfl⟩)
                        case measure => simp [intOf]; omega
                      · go_wp2_with fail
                        go_roundw
                        case rel =>
                          have hx : Hid (setK T g (j + 1) = false) := Lib.hid (by rw [HSU2.out]; simp [he])
                          first | exact ⟨j + 1, by omega, by rw [hx.out]; simp [he], by go_num, HQ7⟩ | ((repeat apply Exists.intro); exact ⟨⟨j + 1, by omega, by rw [hx.out]; simp [he], by go_num, HQ7⟩, rfl⟩)
                        case measure => simp [intOf]; omega
                    | false =>
                      by_cases he : pl = 0
                      · subst he
                        go_wp2_with fail
                        go_roundw
                        case rel =>
                          have hx : Hid (setK T g (j + 1) = true) := Lib.hid (by rw [HSU2.out]; simp)
                          first | exact ⟨j + 1, by omega, by rw [hx.out], by go_num, HQ7⟩ | ((repeat apply Exists.intro); exact ⟨⟨j + 1, by omega, by rw [hx.out], by go_num, HQ7⟩, rfl⟩)
                        case measure => simp [intOf]; omega
                      · go_wp2_with fail
                        go_roundw
                        case rel =>
                          have hx : Hid (setK T g (j + 1) = false) := Lib.hid (by rw [HSU2.out]; simp [he])
                          first | exact ⟨j + 1, by omega, by rw [hx.out]; simp [he], by go_num, HQ7⟩ | ((repeat apply Exists.intro); exact ⟨⟨j + 1, by omega, by rw [hx.out]; simp [he], by go_num, HQ7⟩, rfl⟩)
                        case measure => simp [intOf]; omega
                · obtain rfl : j = gl := by omega
                  have HNR : Hid (sb = true → holdsSetB T g = false) := Lib.hid fun e => setK_no HCL.out.1 (HC3.out _ HC1.out) (by rw [HNG.out, HSB.out]; exact e)
                  have cH := sysHolds_any wr X T hq.out.sys A1 c1 g (HLG.out wr hq.out.below)
                  rw [HNG.out] at cH
                  have HCH := Lib.hid cH
                  clear cH
                  cases sb with
                  | false =>
                    go_wp2_with fail
                    go_roundw
                    case rel => first | exact ⟨k + 1, T, by omega, by go_num, Lib.hid ⟨hq.out, HCL.out.1, HC1.out⟩⟩ | ((repeat apply Exists.intro); exact ⟨⟨k + 1, T, by omega, by go_num, Lib.hid ⟨hq.out, HCL.out.1, HC1.out⟩⟩, rfl⟩)
                    case measure => simp [intOf]; omega
                  | true =>
                    go_wp2_with fail
                    refine HCH.out.mono ?_
                    rintro e w6 ⟨rfl, hb6⟩
                    have HQ6 := Lib.hid (hq.out.later hb6)
                    have hn := HNR.out (by first | rfl | trivial)
                    rw [hn]
                    clear hb6 hn
                    go_wp2_with fail
                    go_roundw
                    case rel => first | exact ⟨k + 1, T, by omega, by go_num, Lib.hid ⟨HQ6.out, HCL.out.1, HC1.out⟩⟩ | ((repeat apply Exists.intro); exact ⟨⟨k + 1, T, by omega, by go_num, Lib.hid ⟨HQ6.out, HCL.out.1, HC1.out⟩⟩, rfl⟩)
                    case measure => simp [intOf]; omega
          · obtain rfl : k = n := by omega
            go_wp2_with fail
            refine (END.out wr hs.out.1.below).mono ?_
            rintro e w5 ⟨rfl, hb5⟩
            go_wp2_with fail
            go_ret
            exact ⟨rfl, FIN.out _ hb5⟩
      · have e0 : (E != 0) = true := by simpa using hE0
        have e7 : (E != 7) = true := by simpa using hE7
        go_wp2_with fail
        refine (END.out w3 HQ3.out.below).mono ?_
        rintro e w4 ⟨rfl, hb4⟩
        go_wp2_with fail
        go_ret
        exact ⟨rfl, FIN.out _ hb4⟩
end Go.Proofs.Ytogobjmmgjfjjaa
