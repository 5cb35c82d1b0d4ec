/- What is proved: the texts Pm, one behind the other; each says at its head what it proves, and under which conditions. -/
import Derived.Test.YtcnjenlojnognaaGreatg7
/- What is proved: the plain law of CampaignGrows: crafts that lift more, without a margin, earn no less. Conditions: those that each lemma states. -/
namespace Go.Proofs.YtcnjenlojnognaaGreat
open Go.RowKit

/-- The campaign without margin, its crafts stronger. -/
def grownC (m : Nat → Int) (x : CraftD) (i : Nat) : CraftD := { x with lift := min (x.lift + m i) 1073741824 }
def grownB (c : CampD) (m : Nat → Int) : CampD := { c with margin := 0, crafts := (List.range c.crafts.length).map fun i => grownC m (c.craftN i) i }
theorem grown_len (c : CampD) (m : Nat → Int) : (grownB c m).crafts.length = c.crafts.length := by unfold grownB; simp
theorem grown_craftN (c : CampD) (m : Nat → Int) {i : Nat} (hi : i < c.crafts.length) : (grownB c m).craftN i = grownC m (c.craftN i) i := by
  unfold grownB CampD.craftN
  dsimp only
  rw [List.getD_eq_getElem?_getD, List.getElem?_map, List.getElem?_range hi]
  rfl
theorem grown_craft (c : CampD) (m : Nat → Int) (i : Int) : ((grownB c m).craft i).ready = (c.craft i).ready ∧ ((grownB c m).craft i).again = (c.craft i).again := by
  by_cases hi : i.toNat < c.crafts.length
  · have h : (grownB c m).craft i = grownC m (c.craft i) i.toNat := grown_craftN c m hi
    rw [h]; exact ⟨rfl, rfl⟩
  · have h1 : (grownB c m).craft i = craft0 := by
      unfold CampD.craft
      rw [List.getD_eq_getElem?_getD, List.getElem?_eq_none (by rw [grown_len]; omega)]; rfl
    have h2 : c.craft i = craft0 := by
      unfold CampD.craft
      rw [List.getD_eq_getElem?_getD, List.getElem?_eq_none (by omega)]; rfl
    rw [h1, h2]; exact ⟨rfl, rfl⟩
theorem grown_camp {c : CampD} (hc : campB c = true) {m : Nat → Int} (hm : ∀ i, 0 ≤ m i) : campB (grownB c m) = true := by
  have hl := camp_len hc
  have hcr := fun i => camp_craft hc i
  unfold campB at hc ⊢
  rw [grown_len]
  have hn : (grownB c m).crafts.map (·.name) = c.crafts.map (·.name) := by
    refine List.ext_getElem (by simp [grown_len]) fun k h1 h2 => ?_
    have hk : k < c.crafts.length := by simpa using h2
    simp only [grownB, grownC, List.getElem_map, List.getElem_range, CampD.craftN]
    rw [List.getD_eq_getElem?_getD, List.getElem?_eq_getElem hk]; rfl
  have ha : (grownB c m).crafts.all craftB = true := by
    rw [List.all_eq_true]
    intro x hx
    obtain ⟨i, hi, rfl⟩ := List.mem_map.1 (show x ∈ (List.range c.crafts.length).map (fun i => grownC m (c.craftN i) i) from hx)
    have h1 := hcr (i : Int)
    rw [craft_nat] at h1
    have h2 := hm i
    unfold craftB grownC
    simp only [Bool.and_eq_true, inB_iff]
    omega
  simp only [Bool.and_eq_true] at hc ⊢
  obtain ⟨⟨⟨⟨⟨⟨⟨⟨⟨a1, a2⟩, a3⟩, _⟩, _⟩, a6⟩, a7⟩, a8⟩, a9⟩, a10⟩ := hc
  exact ⟨⟨⟨⟨⟨⟨⟨⟨⟨a1, a2⟩, a3⟩, rfl⟩, ha⟩, a6⟩, a7⟩, by rw [hn]; exact a8⟩, a9⟩, a10⟩
theorem grown_most {c : CampD} (hc : campB c = true) {m : Nat → Int} (hm : ∀ i, 0 ≤ m i) {i : Int} (_h0 : 0 ≤ i) (hi : i < c.crafts.length) : mostB c i ≤ mostB (grownB c m) i := by
  have h1 := camp_craft hc i
  have hl := camp_len hc
  have hi' : i.toNat < c.crafts.length := by omega
  have h : (grownB c m).craft i = grownC m (c.craft i) i.toNat := grown_craftN c m hi'
  have h2 := hm i.toNat
  unfold mostB
  rw [h]
  show (c.craft i).lift * 1000 / (1000 + c.margin) ≤ min ((c.craft i).lift + m i.toNat) 1073741824 * 1000 / (1000 + 0)
  rw [show (1000 : Int) + 0 = 1000 from rfl, Int.mul_ediv_cancel _ (by omega)]
  have h3 : (c.craft i).lift * 1000 / (1000 + c.margin) ≤ (c.craft i).lift := Int.ediv_le_of_le_mul (by omega) (by
    have h4 : 0 ≤ (c.craft i).lift * c.margin := Int.mul_nonneg (by omega) (by omega)
    rw [Int.mul_add]; omega)
  omega
theorem grown_plan {c : CampD} (hc : campB c = true) {m : Nat → Int} (hm : ∀ i, 0 ≤ m i) {l : List LaunchD} (h : PlanOk c l) : PlanOk (grownB c m) l := by
  refine ⟨fun x hx => ?_, h.fit.imp fun {y x} f => ⟨f.apart, fun e => ?_, f.pad⟩, h.sorted⟩
  · obtain ⟨p1, p2, p3, p4, p5, p6, p7, p8, p9, p10, p11⟩ := possB_parts (h.poss x hx)
    have hg := grown_craft c m x.craft
    refine possB_of p1 (by rw [grown_len]; exact p2) p3 p4 p5 (by rw [hg.1]; exact p6) p7 p8 p9 p10 ?_
    exact Int.le_trans p11 (grown_most hc hm p1 p2)
  · have := f.craft e
    rw [(grown_craft c m x.craft).2]; exact this
theorem bst_zero {c : CampD} (h : (bstB c).2 = 0) : ∃ B, campB c = true ∧ bestB c = some B ∧ bstB c = (B, 0) := by
  unfold bstB at h ⊢
  cases hc : campB c with
  | false => rw [hc] at h; have h2 : (2 : Int) = 0 := h; exact absurd h2 (by decide)
  | true =>
    rw [hc] at h
    rw [if_neg (by decide)] at h ⊢
    cases hb : bestB c with
    | none => rw [hb] at h; have h2 : (7 : Int) = 0 := h; exact absurd h2 (by decide)
    | some B => exact ⟨B, rfl, rfl, rfl⟩
theorem bst_some {c : CampD} {B : List LaunchD} (hc : campB c = true) (hb : bestB c = some B) : bstB c = (B, 0) := by
  unfold bstB; rw [hc, hb]; rfl
theorem grown_worth {c : CampD} (hc : campB c = true) {m : Nat → Int} (hm : ∀ i, 0 ≤ m i) {l : List LaunchD} (h : PlanOk c l) : worthB (grownB c m) l = worthB c l := by
  rw [worthB_set (grown_camp hc hm) (grown_plan hc hm h), worthB_set hc h]; rfl
theorem key_worth {c : CampD} {a b : List LaunchD} (h : keyP c a b ≤ 0) : (worthB c b).1 ≤ (worthB c a).1 := by
  refine Int.not_lt.1 fun hh => ?_
  unfold keyP cmpI orI at h
  rw [if_neg (show ¬ (worthB c b).1 < (worthB c a).1 by omega), if_pos hh, if_neg (by decide)] at h
  exact absurd h (by decide)
theorem grows_law {c : CampD} {m : Nat → Int} (hm : ∀ i, 0 ≤ m i) (h : (bstB c).2 = 0) : (bstB (grownB c m)).2 = 0 ∧ (worthB c (bstB c).1).2.2 = 0 ∧ (worthB (grownB c m) (bstB (grownB c m)).1).2.2 = 0 ∧
    (worthB c (bstB c).1).1 ≤ (worthB (grownB c m) (bstB (grownB c m)).1).1 := by
  obtain ⟨B, hc, hb, he⟩ := bst_zero h
  obtain ⟨o1, o2, o3⟩ := best_ok hc hb
  have hc' := grown_camp hc hm
  have hp' := grown_plan hc hm o1
  have hw := grown_worth hc hm o1
  obtain ⟨B', hb', hk⟩ := best_beats hc' hp' (by unfold compB at o2 ⊢; rw [hw]; exact o2)
  obtain ⟨_, _, q3⟩ := best_ok hc' hb'
  rw [bst_some hc' hb', he]
  dsimp only
  refine ⟨rfl, by rw [o3], by rw [q3], ?_⟩
  have := key_worth hk
  rw [hw] at this
  exact this
end Go.Proofs.YtcnjenlojnognaaGreat
