/- What is proved: the texts Pl, one behind the other; each says at its head what it proves, and under which conditions. -/
import Derived.Test.YtcnjenlojnognaaGreatg10
/- What is proved: the plain law of CampaignSlips: a plan stands a delay just as far as its slack; less delay puts no launch later. Conditions: those that each lemma states. -/
namespace Go.Proofs.YtcnjenlojnognaaGreat
open Go.RowKit

theorem pushF_le (c : CampD) (m : Int) : ∀ (l : List LaunchD) (x : LaunchD), (l.foldl (pushS c) x).day ≤ m ↔ x.day ≤ m ∧ ∀ y ∈ l, (y.craft = x.craft → y.day + (c.craft x.craft).again ≤ m) ∧ (y.pad = x.pad → y.day + (c.pad x.pad).clean ≤ m)
  | [], x => by simp
  | y :: l, x => by
    rw [List.foldl_cons, pushF_le c m l (pushS c x y)]
    have hc : (pushS c x y).craft = x.craft := rfl
    have hp : (pushS c x y).pad = x.pad := rfl
    have hd : (pushS c x y).day ≤ m ↔ x.day ≤ m ∧ (y.craft = x.craft → y.day + (c.craft x.craft).again ≤ m) ∧ (y.pad = x.pad → y.day + (c.pad x.pad).clean ≤ m) := by
      unfold pushS
      dsimp only
      by_cases h1 : y.craft = x.craft
      · by_cases h2 : y.pad = x.pad
        · rw [if_pos h1, if_pos h2]; exact ⟨fun h => ⟨by omega, fun _ => by omega, fun _ => by omega⟩, fun ⟨a, b, d⟩ => by have := b h1; have := d h2; omega⟩
        · rw [if_pos h1, if_neg h2]; exact ⟨fun h => ⟨by omega, fun _ => by omega, fun e => absurd e h2⟩, fun ⟨a, b, _⟩ => by have := b h1; omega⟩
      · by_cases h2 : y.pad = x.pad
        · rw [if_neg h1, if_pos h2]; exact ⟨fun h => ⟨by omega, fun e => absurd e h1, fun _ => by omega⟩, fun ⟨a, _, d⟩ => by have := d h2; omega⟩
        · rw [if_neg h1, if_neg h2]; exact ⟨fun h => ⟨h, fun e => absurd e h1, fun e => absurd e h2⟩, fun h => h.1⟩
    rw [hd, hc, hp]
    simp only [List.mem_cons, forall_eq_or_imp]
    constructor
    · rintro ⟨⟨a, b, d⟩, e⟩; exact ⟨a, ⟨b, d⟩, e⟩
    · rintro ⟨a, ⟨b, d⟩, e⟩; exact ⟨⟨a, b, d⟩, e⟩
/-- The launch with number k of a plan that is delayed. -/
def atD (c : CampD) (l : List LaunchD) (i d : Int) (k : Nat) : LaunchD := if i < (k : Int) then (delayK c l i d k).foldl (pushS c) (stepX l i d k) else stepX l i d k
theorem delayK_mem (c : CampD) (l : List LaunchD) (i d : Int) (y : LaunchD) : ∀ n, y ∈ delayK c l i d n ↔ ∃ k, k < n ∧ y = atD c l i d k
  | 0 => by simp [delayK]
  | n + 1 => by
    rw [delayK_succ, List.mem_append, delayK_mem c l i d y n, List.mem_singleton]
    constructor
    · rintro (⟨k, hk, e⟩ | e)
      · exact ⟨k, by omega, e⟩
      · exact ⟨n, by omega, e⟩
    · rintro ⟨k, hk, e⟩
      by_cases h : k = n
      · subst h; exact Or.inr e
      · exact Or.inl ⟨k, by omega, e⟩
theorem atD_rest (c : CampD) (l : List LaunchD) (i d : Int) (k : Nat) : (atD c l i d k).craft = (l.getD k launch0).craft ∧ (atD c l i d k).pad = (l.getD k launch0).pad ∧ (atD c l i d k).cargos = (l.getD k launch0).cargos := by
  have h : (stepX l i d k).craft = (l.getD k launch0).craft ∧ (stepX l i d k).pad = (l.getD k launch0).pad ∧ (stepX l i d k).cargos = (l.getD k launch0).cargos := by
    unfold stepX; split <;> exact ⟨rfl, rfl, rfl⟩
  unfold atD
  split
  · have := pushF_rest c (delayK c l i d k) (stepX l i d k)
    rw [this.1, this.2.1, this.2.2]; exact h
  · exact h
theorem stepX_day (l : List LaunchD) (i d : Int) (k : Nat) : (stepX l i d k).day = (l.getD k launch0).day + if (k : Int) = i then d else 0 := by
  unfold stepX; split <;> simp
/-- What bounds the day of a launch that is delayed. -/
theorem atD_le (c : CampD) (l : List LaunchD) (i d : Int) (k : Nat) (m : Int) : (atD c l i d k).day ≤ m ↔ (stepX l i d k).day ≤ m ∧ (i < (k : Int) → ∀ j, j < k →
    ((l.getD j launch0).craft = (l.getD k launch0).craft → (atD c l i d j).day + (c.craft (l.getD k launch0).craft).again ≤ m) ∧ ((l.getD j launch0).pad = (l.getD k launch0).pad → (atD c l i d j).day + (c.pad (l.getD k launch0).pad).clean ≤ m)) := by
  have hs : (stepX l i d k).craft = (l.getD k launch0).craft ∧ (stepX l i d k).pad = (l.getD k launch0).pad := by
    unfold stepX; split <;> exact ⟨rfl, rfl⟩
  by_cases h : i < (k : Int)
  · have e : atD c l i d k = (delayK c l i d k).foldl (pushS c) (stepX l i d k) := by unfold atD; rw [if_pos h]
    rw [e, pushF_le, hs.1, hs.2]
    constructor
    · rintro ⟨a, b⟩
      refine ⟨a, fun _ j hj => ?_⟩
      have := b (atD c l i d j) ((delayK_mem c l i d _ k).2 ⟨j, hj, rfl⟩)
      rw [(atD_rest c l i d j).1, (atD_rest c l i d j).2.1] at this
      exact this
    · rintro ⟨a, b⟩
      refine ⟨a, fun y hy => ?_⟩
      obtain ⟨j, hj, rfl⟩ := (delayK_mem c l i d y k).1 hy
      rw [(atD_rest c l i d j).1, (atD_rest c l i d j).2.1]
      exact b h j hj
  · have e : atD c l i d k = stepX l i d k := by unfold atD; rw [if_neg h]
    rw [e]
    exact ⟨fun a => ⟨a, fun hh => absurd hh h⟩, fun a => a.1⟩
theorem atD_mono (c : CampD) (l : List LaunchD) (i : Int) {d e : Int} (h : d ≤ e) : ∀ (n k : Nat), k < n → (atD c l i d k).day ≤ (atD c l i e k).day
  | 0, k, hk => absurd hk (Nat.not_lt_zero k)
  | n + 1, k, hk => by
    have ih := atD_mono c l i h n
    have h1 := (atD_le c l i e k _).1 (Int.le_refl _)
    refine (atD_le c l i d k _).2 ⟨?_, fun hi j hj => ⟨fun hc => ?_, fun hp => ?_⟩⟩
    · refine Int.le_trans ?_ h1.1
      rw [stepX_day, stepX_day]
      split <;> omega
    · have := (h1.2 hi j hj).1 hc
      have := ih j (by omega)
      omega
    · have := (h1.2 hi j hj).2 hp
      have := ih j (by omega)
      omega
theorem atD_ge (c : CampD) (l : List LaunchD) (i : Int) {d : Int} (h : 0 ≤ d) (k : Nat) : (l.getD k launch0).day ≤ (atD c l i d k).day := by
  refine Int.le_trans ?_ ((atD_le c l i d k _).1 (Int.le_refl _)).1
  rw [stepX_day]
  split <;> omega
/-- Two launches of a valid plan, in its order. -/
theorem plan_pair {c : CampD} (hc : campB c = true) {l : List LaunchD} (h : PlanOk c l) {j k : Nat} (hj : j < k) (hk : k < l.length) :
    apartL (l.getD j launch0) (l.getD k launch0) ∧ ((l.getD j launch0).craft = (l.getD k launch0).craft → (c.craft (l.getD k launch0).craft).again ≠ 0 ∧ (l.getD j launch0).day + (c.craft (l.getD k launch0).craft).again ≤ (l.getD k launch0).day) ∧
      ((l.getD j launch0).pad = (l.getD k launch0).pad → (l.getD j launch0).day + (c.pad (l.getD k launch0).pad).clean ≤ (l.getD k launch0).day) := by
  have hl : PlanOk c (l.take k ++ [l.getD k launch0]) := by
    rw [← take_snocL l k hk]
    have e : l = l.take (k + 1) ++ l.drop (k + 1) := (List.take_append_drop _ _).symm
    rw [e] at h
    exact h.left
  obtain ⟨_, _, h3, h4, h5⟩ := faultB_zero.1 ((PlanOk.snoc hc hl.left).2 hl)
  have hm : l.getD j launch0 ∈ l.take k := by
    rw [List.getD_eq_getElem?_getD, List.getElem?_eq_getElem (by omega), Option.getD_some]
    exact List.mem_take_iff_getElem.2 ⟨j, by omega, rfl⟩
  exact ⟨h3 _ hm, h4 _ hm, h5 _ hm⟩
theorem getD_memL {l : List LaunchD} {k : Nat} (hk : k < l.length) : l.getD k launch0 ∈ l := by
  rw [List.getD_eq_getElem?_getD, List.getElem?_eq_getElem hk, Option.getD_some]; exact List.getElem_mem hk
theorem launch_eq {x y : LaunchD} (h1 : x.day = y.day) (h2 : x.craft = y.craft) (h3 : x.pad = y.pad) (h4 : x.cargos = y.cargos) : x = y := by
  cases x; cases y; simp only at h1 h2 h3 h4; subst h1 h2 h3 h4; rfl
theorem atD_zero {c : CampD} (hc : campB c = true) {l : List LaunchD} (h : PlanOk c l) (i : Int) : ∀ (n k : Nat), k < n → k < l.length → atD c l i 0 k = l.getD k launch0
  | 0, k, hk, _ => absurd hk (Nat.not_lt_zero k)
  | n + 1, k, hk, hl => by
    have ih := atD_zero hc h i n
    have hr := atD_rest c l i 0 k
    refine launch_eq (Int.le_antisymm ?_ (atD_ge c l i (Int.le_refl 0) k)) hr.1 hr.2.1 hr.2.2
    refine (atD_le c l i 0 k _).2 ⟨?_, fun _ j hj => ?_⟩
    · rw [stepX_day]; split <;> omega
    · rw [ih j (by omega) (by omega)]
      have := plan_pair hc h hj hl
      exact ⟨fun e => (this.2.1 e).2, this.2.2⟩
theorem delayK_ext (c : CampD) (l : List LaunchD) (i d : Int) : ∀ n, delayK c l i d n = (List.range n).map (atD c l i d)
  | 0 => rfl
  | n + 1 => by rw [delayK_succ, List.range_succ, List.map_append, ← delayK_ext c l i d n]; rfl
theorem range_getD (l : List LaunchD) : (List.range l.length).map (fun k => l.getD k launch0) = l := by
  refine List.ext_getElem (by simp) fun k h1 h2 => ?_
  rw [List.getElem_map, List.getElem_range, List.getD_eq_getElem?_getD, List.getElem?_eq_getElem h2, Option.getD_some]
theorem sorted_sort {l : List LaunchD} (h : SortedL l) : sortL l = l := (sortL_eq (List.Perm.refl l) h).symm
theorem delayed_zero {c : CampD} (hc : campB c = true) {l : List LaunchD} (h : PlanOk c l) (i : Int) : delayedB c l i 0 = l := by
  have e : delayK c l i 0 l.length = l := by
    rw [delayK_ext]
    refine Eq.trans ?_ (range_getD l)
    refine List.map_congr_left fun k hk => ?_
    exact atD_zero hc h i (k + 1) k (by omega) (List.mem_range.1 hk)
  unfold delayedB
  rw [e]
  exact sorted_sort (h.sorted.imp fun h => by omega)
theorem delayed_mem (c : CampD) (l : List LaunchD) (i d : Int) (y : LaunchD) : y ∈ delayedB c l i d ↔ ∃ k, k < l.length ∧ y = atD c l i d k := by
  unfold delayedB
  rw [(sortL_perm _).mem_iff]
  exact delayK_mem c l i d y _
theorem delayed_mono {c : CampD} (hc : campB c = true) {l : List LaunchD} (h : PlanOk c l) (i : Int) {d e : Int} (h0 : 0 ≤ d) (h1 : d ≤ e) (hv : PlanOk c (delayedB c l i e)) : PlanOk c (delayedB c l i d) := by
  refine planOk_sort (fun y hy => ?_) ?_
  · obtain ⟨k, hk, rfl⟩ := (delayK_mem c l i d y _).1 hy
    have hp := possB_parts (h.poss _ (getD_memL hk))
    have hq := possB_parts (hv.poss (atD c l i e k) ((delayed_mem c l i e _).2 ⟨k, hk, rfl⟩))
    have hr := atD_rest c l i d k
    have hr' := atD_rest c l i e k
    rw [hr'.1, hr'.2.1, hr'.2.2] at hq
    have hm := atD_mono c l i h1 (k + 1) k (by omega)
    have hg := atD_ge c l i h0 k
    obtain ⟨p1, p2, p3, p4, p5, p6, p7, p8, p9, p10, p11⟩ := hp
    obtain ⟨_, _, _, _, _, q6, q7, _, _, q10, _⟩ := hq
    refine possB_of (by rw [hr.1]; exact p1) (by rw [hr.1]; exact p2) (by rw [hr.2.1]; exact p3) (by rw [hr.2.1]; exact p4) (by rw [hr.1, hr.2.1]; exact p5) (by rw [hr.1]; omega) (by omega) (by rw [hr.2.2]; exact p8) (by rw [hr.2.2]; exact p9) (by
      rw [hr.2.2]
      intro n hn
      have := p10 n hn
      have := q10 n hn
      omega) (by rw [hr.1, hr.2.2]; exact p11)
  · rw [delayK_ext, List.pairwise_map]
    refine List.Pairwise.imp_of_mem (R := fun a b => a < b) (fun {j k} hj hk hjk => ?_) List.pairwise_lt_range
    have hk' := List.mem_range.1 hk
    obtain ⟨a1, a2, a3⟩ := plan_pair hc h hjk hk'
    have rj := atD_rest c l i d j
    have rk := atD_rest c l i d k
    have hgk := atD_ge c l i h0 k
    have hle := (atD_le c l i d k _).1 (Int.le_refl _)
    have hj0 : ¬ i < (k : Int) → (atD c l i d j).day = (l.getD j launch0).day := fun hi => by
      have : atD c l i d j = stepX l i d j := by unfold atD; rw [if_neg (by omega)]
      rw [this, stepX_day, if_neg (by omega)]; omega
    refine ⟨?_, ?_, ?_⟩
    · unfold apartL; rw [rj.2.2, rk.2.2]; exact a1
    · rw [rj.1, rk.1]
      intro hcr
      refine ⟨(a2 hcr).1, Or.inl ?_⟩
      by_cases hi : i < (k : Int)
      · exact (hle.2 hi j hjk).1 hcr
      · have := hj0 hi; have := (a2 hcr).2; omega
    · rw [rj.2.1, rk.2.1]
      intro hpd
      refine Or.inl ?_
      by_cases hi : i < (k : Int)
      · exact (hle.2 hi j hjk).2 hpd
      · have := hj0 hi; have := a3 hpd; omega
theorem delayed_len (c : CampD) (l : List LaunchD) (i d : Int) : (delayedB c l i d).length = l.length := by
  unfold delayedB; rw [(sortL_perm _).length_eq, delayK_len]
theorem num0_mem {l : List Int} (h : 0 < l.length) : numI l 0 ∈ l := by
  unfold numI; rw [List.getD_eq_getElem?_getD, List.getElem?_eq_getElem h]; exact List.getElem_mem h
/-- How far a plan can slip. -/
theorem slips_law {c : CampD} {l : List LaunchD} {i : Int} (h : (slackB c l i).2 = 0) : delayB c l i 0 = (l, 0) ∧
    (∀ d, 0 ≤ d → d ≤ 10000 → ((delayB c l i d).2 = 0 ↔ d ≤ (slackB c l i).1)) ∧
    ∀ d e, 0 ≤ d → d ≤ e → e ≤ 10000 → (delayB c l i e).2 = 0 → (delayB c l i d).1.length = l.length ∧ (delayB c l i e).1.length = l.length ∧
      ∀ x ∈ (delayB c l i d).1, ∀ y ∈ (delayB c l i e).1, 0 < x.cargos.length ∧ 0 < y.cargos.length ∧ (numI x.cargos 0 = numI y.cargos 0 → x.day ≤ y.day) := by
  have hm : meantB c l i = 0 := by
    unfold slackB at h
    by_cases e : meantB c l i = 0
    · exact e
    · rw [if_pos e] at h; exact h
  obtain ⟨hv, _, _⟩ := meant_zero hm
  obtain ⟨hc, hp⟩ := valid_iff.1 hv
  have hsl : slackB c l i = (halvesB (fun d => validB c (delayedB c l i d)) 10001 0 10001, 0) := by unfold slackB; rw [if_neg (by rw [hm]; decide)]
  have hval : ∀ d, validB c (delayedB c l i d) = true ↔ PlanOk c (delayedB c l i d) := fun d => valid_iff.trans ⟨fun a => a.2, fun a => ⟨hc, a⟩⟩
  have hdl : ∀ d, 0 ≤ d → d ≤ 10000 → delayB c l i d = if validB c (delayedB c l i d) = false then ([], 7) else (delayedB c l i d, 0) := fun d h0 h1 => by
    unfold delayB
    rw [if_neg (by rw [hm]; decide), if_neg (by rw [inB_iff.2 ⟨h0, h1⟩]; decide)]
  have hdz : ∀ d, 0 ≤ d → d ≤ 10000 → ((delayB c l i d).2 = 0 ↔ PlanOk c (delayedB c l i d)) := fun d h0 h1 => by
    rw [hdl d h0 h1, ← hval d]
    cases e : validB c (delayedB c l i d) with
    | true => simp
    | false => simp
  have hde : ∀ d, 0 ≤ d → d ≤ 10000 → PlanOk c (delayedB c l i d) → delayB c l i d = (delayedB c l i d, 0) := fun d h0 h1 h2 => by
    rw [hdl d h0 h1, if_neg (by rw [(hval d).2 h2]; decide)]
  have hz0 : PlanOk c (delayedB c l i 0) := by rw [delayed_zero hc hp]; exact hp
  obtain ⟨s0, s1, s2, s3⟩ := halves_spec (fun d => validB c (delayedB c l i d)) 10001 0 10001 (by omega) (by omega)
  refine ⟨?_, fun d h0 h1 => ?_, fun d e h0 h1 h2 h3 => ?_⟩
  · rw [hde 0 (by omega) (by omega) hz0, delayed_zero hc hp]
  · rw [hdz d h0 h1, hsl]
    dsimp only
    constructor
    · intro hd
      refine Int.not_lt.1 fun hlt => ?_
      rcases s3 with s3 | s3
      · omega
      · rw [(hval _).2 (delayed_mono hc hp i (by omega) (by omega : _ ≤ d) hd)] at s3; cases s3
    · intro hd
      rcases s2 with s2 | s2
      · obtain rfl : d = 0 := by omega
        exact hz0
      · exact delayed_mono hc hp i h0 hd ((hval _).1 s2)
  · have he := (hdz e (by omega) h2).1 h3
    have hd := delayed_mono hc hp i h0 h1 he
    rw [hde d h0 (by omega) hd, hde e (by omega) h2 he]
    dsimp only
    refine ⟨delayed_len c l i d, delayed_len c l i e, fun x hx y hy => ?_⟩
    have hx0 := List.length_pos_iff.2 (possB_parts (hd.poss x hx)).2.2.2.2.2.2.2.1
    have hy0 := List.length_pos_iff.2 (possB_parts (he.poss y hy)).2.2.2.2.2.2.2.1
    refine ⟨hx0, hy0, fun hn => ?_⟩
    obtain ⟨j, hj, rfl⟩ := (delayed_mem c l i d x).1 hx
    obtain ⟨k, hk, rfl⟩ := (delayed_mem c l i e y).1 hy
    rw [(atD_rest c l i d j).2.2] at hx0 hn
    rw [(atD_rest c l i e k).2.2] at hy0 hn
    have hxm := num0_mem hx0
    have hym := num0_mem hy0
    have hjk : j = k := by
      rcases Nat.lt_trichotomy j k with h | h | h
      · exact absurd (hn ▸ hxm) ((plan_pair hc hp h hk).1 _ hym)
      · exact h
      · exact absurd (hn ▸ hym) ((plan_pair hc hp h hj).1 _ hxm)
    subst hjk
    exact atD_mono c l i h1 (j + 1) j (by omega)
end Go.Proofs.YtcnjenlojnognaaGreat
