/- What is proved: the texts V1 V2 V3, one behind the other; each says at its head what it proves, and under which conditions. -/
import Derived.BigRegion
import Derived.StillTailTactics
import Derived.Outline
import Derived.Test.YtogobjmmgjfjjaaGreatdPKeeps9
/- What is proved: plain laws of EngineKeeps: what is in a tank is what was put, and what lines, leaks and vents added, reckoned as Go reckons; behind a tick no pressure is above its limit. Conditions: the system's numbers are as they always are. -/
namespace Go.Proofs.YtogobjmmgjfjjaaGreat
open Go.RowKit

/-- Two numbers that differ by a multiple of 2^64. -/
def Mod (a b : Int) : Prop := ∃ q : Int, a = b + q * 18446744073709551616
theorem Mod.refl (a : Int) : Mod a a := ⟨0, by omega⟩
theorem Mod.of_eq {a b : Int} (h : a = b) : Mod a b := ⟨0, by omega⟩
theorem Mod.symm {a b : Int} (h : Mod a b) : Mod b a := by obtain ⟨q, hq⟩ := h; exact ⟨-q, by omega⟩
theorem Mod.trans {a b c : Int} (h : Mod a b) (k : Mod b c) : Mod a c := by obtain ⟨q, hq⟩ := h; obtain ⟨r, hr⟩ := k; exact ⟨q + r, by omega⟩
theorem Mod.add {a b c d : Int} (h : Mod a b) (k : Mod c d) : Mod (a + c) (b + d) := by obtain ⟨q, hq⟩ := h; obtain ⟨r, hr⟩ := k; exact ⟨q + r, by omega⟩
theorem Mod.sub {a b c d : Int} (h : Mod a b) (k : Mod c d) : Mod (a - c) (b - d) := by obtain ⟨q, hq⟩ := h; obtain ⟨r, hr⟩ := k; exact ⟨q - r, by omega⟩
theorem mod_wrap (a : Int) : Mod (wrap64 a) a := ⟨-((a + 9223372036854775808) / 18446744073709551616), by unfold wrap64; omega⟩
theorem wrap64_range (a : Int) : -9223372036854775808 ≤ wrap64 a ∧ wrap64 a ≤ 9223372036854775807 := by unfold wrap64; omega
theorem Mod.eq {a b : Int} (h : Mod a b) (ha : -9223372036854775808 ≤ a ∧ a ≤ 9223372036854775807) (hb : -9223372036854775808 ≤ b ∧ b ≤ 9223372036854775807) : a = b := by
  obtain ⟨q, hq⟩ := h; omega
theorem wrap_of_mod {a b : Int} (h : Mod a b) (hb : -9223372036854775808 ≤ b ∧ b ≤ 9223372036854775807) : wrap64 a = b := ((mod_wrap a).trans h).eq (wrap64_range a) hb

def goneB (S : Sys) (t : Nat) (gas : Bool) : Int := if gas then (S.tank t).vented else (S.tank t).lost
/-- What a line's count adds to a tank. -/
def flowT (l : LineD) (gas : Bool) (t : Nat) (c : Int) : Int := if l.gas = gas then (if l.dst = t then c else 0) - (if l.src = t then c else 0) else 0
def sumU (S : Sys) (t : Nat) (gas : Bool) : Nat → Int
  | 0 => -(goneB S t gas)
  | k + 1 => sumU S t gas k + flowT (S.p.line k) gas t (S.carried k)
/-- The same, as Go reckons. -/
def stepK (l : LineD) (t : Nat) (c v : Int) : Int :=
  let v1 := if l.dst = t then wrap64 (v + c) else v
  if l.src = t then wrap64 (v1 - c) else v1
def sumK (S : Sys) (t : Nat) (gas : Bool) : Nat → Int
  | 0 => wrap64 (-(goneB S t gas))
  | k + 1 => if (S.p.line k).gas = gas then stepK (S.p.line k) t (S.carried k) (sumK S t gas k) else sumK S t gas k
theorem stepK_mod (l : LineD) (t : Nat) (c v : Int) : Mod (stepK l t c v) (v + flowT l l.gas t c) := by
  unfold stepK flowT
  rw [if_pos rfl]
  simp only
  split <;> split
  · exact (mod_wrap _).trans (((mod_wrap _).sub (Mod.refl c)).trans (Mod.of_eq (by omega)))
  · exact (mod_wrap _).trans (Mod.of_eq (by omega))
  · exact (mod_wrap _).trans (Mod.of_eq (by omega))
  · exact Mod.of_eq (by omega)
theorem sumK_mod (S : Sys) (t : Nat) (gas : Bool) (k : Nat) : Mod (sumK S t gas k) (sumU S t gas k) := by
  induction k with
  | zero => exact mod_wrap _
  | succ k ih =>
    unfold sumK sumU
    split
    · next h =>
      subst h
      exact (stepK_mod _ _ _ _).trans (ih.add (Mod.refl _))
    · next h => unfold flowT; rw [if_neg h]; exact ih.trans (Mod.of_eq (by omega))
theorem flowT_mod (l : LineD) (gas : Bool) (t : Nat) {c d : Int} (h : Mod c d) : Mod (flowT l gas t c) (flowT l gas t d) := by
  unfold flowT
  split
  · refine Mod.sub ?_ ?_
    · split
      · exact h
      · exact Mod.refl _
    · split
      · exact h
      · exact Mod.refl _
  · exact Mod.refl _
theorem flowT_add (l : LineD) (gas : Bool) (t : Nat) (c d : Int) : flowT l gas t (c + d) = flowT l gas t c + flowT l gas t d := by
  unfold flowT
  split
  · split <;> split <;> omega
  · omega
theorem sumU_upd {S S' : Sys} {t : Nat} {gas : Bool} (hp : S'.p = S.p) (hl : goneB S' t gas = goneB S t gas) (i : Nat) (m : Int) (hc : Mod (S'.carried i) (S.carried i + m)) (ho : ∀ k, k ≠ i → S'.carried k = S.carried k) (n : Nat) :
    Mod (sumU S' t gas n) (sumU S t gas n + if i < n then flowT (S.p.line i) gas t m else 0) := by
  induction n with
  | zero => unfold sumU; rw [hl]; exact Mod.of_eq (by simp)
  | succ n ih =>
    unfold sumU
    rw [hp]
    by_cases e : n = i
    · subst e
      rw [if_neg (by omega)] at ih
      rw [if_pos (by omega)]
      have h2 := flowT_mod (S.p.line n) gas t hc
      rw [flowT_add] at h2
      exact (ih.add h2).trans (Mod.of_eq (by omega))
    · rw [ho n e]
      refine (ih.add (Mod.refl _)).trans (Mod.of_eq ?_)
      by_cases hlt : i < n
      · rw [if_pos hlt, if_pos (by omega)]; omega
      · rw [if_neg hlt, if_neg (by omega)]; omega
theorem sumU_same {S S' : Sys} {t : Nat} {gas : Bool} (hp : S'.p = S.p) (hc : S'.carried = S.carried) (n : Nat) : sumU S' t gas n = sumU S t gas n + goneB S t gas - goneB S' t gas := by
  induction n with
  | zero => unfold sumU; omega
  | succ n ih => unfold sumU; rw [hp, hc, ih]; omega

/-- What is in a tank is B and what was added. -/
def Bal (S : Sys) (B : Int) (t : Nat) (gas : Bool) : Prop := Mod (B + sumU S t gas S.p.lines.length) (numB S gas t)
theorem addN_numB (S : Sys) (g : Bool) (t : Nat) (d : Int) (g' : Bool) (k : Nat) : numB (addN S g t d) g' k = numB S g' k + if g = g' ∧ k = t then d else 0 := by
  unfold addN Sys.setT numB numJ setTank
  by_cases hk : k = t <;> cases g <;> cases g' <;> simp [hk]
theorem addN_gone (S : Sys) (g : Bool) (t : Nat) (d : Int) (k : Nat) (g' : Bool) : goneB (addN S g t d) k g' = goneB S k g' := by
  unfold addN Sys.setT goneB numJ setTank
  by_cases hk : k = t <;> cases g <;> cases g' <;> simp [hk]
theorem carryB_gone (S : Sys) (i k : Nat) (g : Bool) : goneB (carryB S i) k g = goneB S k g := by
  show goneB (flowB S (S.p.line i)) k g = _
  unfold flowB
  simp only
  split <;> split <;> simp only [addN_gone]
theorem carryB_numB {S : Sys} (ok : SysOk S) (i : Nat) (hi : i < S.p.lines.length) (t : Nat) (g : Bool) : numB (carryB S i) g t = numB S g t + flowT (S.p.line i) g t (much2 S (S.p.line i)) := by
  obtain ⟨_, _, _, _, _, _, _, _, h1, h2, h3, _, _⟩ := much_ok ok i hi
  show numB (flowB S (S.p.line i)) g t = _
  generalize S.p.line i = l at h1 h2 h3 ⊢
  unfold flowB flowT
  simp only
  generalize much2 S l = m
  have e1 : ∀ a : Int, -1 ≤ a → ((0 ≤ a ∧ t = a.toNat) ↔ a = t) := fun a ha => by omega
  by_cases hg : l.gas = g
  · by_cases hd : 0 ≤ l.dst <;> by_cases hs : 0 ≤ l.src <;> simp only [hd, hs, if_true, if_false, addN_numB, hg, true_and]
    · have a1 : (t = l.src.toNat) ↔ (l.src = t) := by omega
      have a2 : (t = l.dst.toNat) ↔ (l.dst = t) := by omega
      simp only [a1, a2]; split <;> split <;> omega
    · have a1 : ¬ (l.src = t) := by omega
      have a2 : (t = l.dst.toNat) ↔ (l.dst = t) := by omega
      simp only [a1, a2, if_false]; split <;> omega
    · have a2 : ¬ (l.dst = t) := by omega
      have a1 : (t = l.src.toNat) ↔ (l.src = t) := by omega
      simp only [a1, a2, if_false]; split <;> omega
    · have a1 : ¬ (l.src = t) := by omega
      have a2 : ¬ (l.dst = t) := by omega
      simp only [a1, a2, if_false]; omega
  · by_cases hd : 0 ≤ l.dst <;> by_cases hs : 0 ≤ l.src <;> simp only [hd, hs, if_true, if_false, addN_numB, hg, false_and] <;> omega
theorem Bal.carry {S : Sys} {B : Int} {t : Nat} {g : Bool} (h : Bal S B t g) (ok : SysOk S) (i : Nat) (hi : i < S.p.lines.length) : Bal (carryB S i) B t g := by
  unfold Bal at h ⊢
  rw [carryB_p, carryB_numB ok i hi]
  have h2 := sumU_upd (S := S) (S' := carryB S i) (t := t) (gas := g) (carryB_p S i) (carryB_gone S i t g) i (much2 S (S.p.line i)) (by
    show Mod (if i = i then wrap64 (S.carried i + much2 S (S.p.line i)) else S.carried i) _
    rw [if_pos rfl]; exact mod_wrap _) (fun k hk => by show (if k = i then _ else S.carried k) = _; rw [if_neg hk]) S.p.lines.length
  rw [if_pos hi] at h2
  exact ((Mod.refl B).add h2).trans ((Mod.of_eq (by omega)).trans (h.add (Mod.refl (flowT (S.p.line i) g t (much2 S (S.p.line i))))))
/-- Other numbers of tanks, the same counts of lines. -/
theorem Bal.turn {S S' : Sys} {B : Int} {t : Nat} {g : Bool} (h : Bal S B t g) (hp : S'.p = S.p) (hc : S'.carried = S.carried) (hn : Mod (numB S' g t + goneB S' t g) (numB S g t + goneB S t g)) : Bal S' B t g := by
  unfold Bal at h ⊢
  rw [hp, sumU_same hp hc]
  obtain ⟨q, hq⟩ := h; obtain ⟨r, hr⟩ := hn
  exact ⟨q - r, by omega⟩
theorem Bal.lines {S : Sys} {B : Int} {t : Nat} {g : Bool} (h : Bal S B t g) (ok : SysOk S) (k : Nat) (hk : k ≤ S.p.lines.length) : Bal (linesK S k) B t g ∧ SysOk (linesK S k) := by
  induction k with
  | zero => exact ⟨h, ok⟩
  | succ k ih =>
    obtain ⟨h1, h2⟩ := ih (by omega)
    unfold linesK
    split
    · have hk2 : k < (linesK S k).p.lines.length := by rw [linesK_p]; omega
      exact ⟨h1.carry h2 k hk2, SysOk.carry h2 k hk2⟩
    · exact ⟨h1, h2⟩
theorem leakS_bal (S : Sys) (k t : Nat) (g : Bool) : Mod (numB (leakS S k) g t + goneB (leakS S k) t g) (numB S g t + goneB S t g) := by
  unfold leakS Sys.setT numB goneB
  by_cases hk : t = k
  · subst hk
    cases g
    · simp only [if_true, if_false, Bool.false_eq_true]
      exact ((Mod.refl _).add (mod_wrap _)).trans (Mod.of_eq (by omega))
    · simp only [if_true]; exact Mod.refl _
  · simp only [hk, if_false]; exact Mod.refl _
theorem ventS_bal (S : Sys) (k t : Nat) (g : Bool) : Mod (numB (ventS S k) g t + goneB (ventS S k) t g) (numB S g t + goneB S t g) := by
  unfold ventS Sys.setT numB goneB
  by_cases hk : t = k
  · subst hk
    cases g
    · simp only [if_true, if_false, Bool.false_eq_true]; exact Mod.refl _
    · simp only [if_true]
      exact ((Mod.refl _).add (mod_wrap _)).trans (Mod.of_eq (by omega))
  · simp only [hk, if_false]; exact Mod.refl _
theorem tanksK_carried (S : Sys) (k : Nat) : (tanksK S k).carried = S.carried := by
  induction k with
  | zero => rfl
  | succ k ih => exact ih
theorem tanksK_bal (S : Sys) (k t : Nat) (g : Bool) : Mod (numB (tanksK S k) g t + goneB (tanksK S k) t g) (numB S g t + goneB S t g) := by
  induction k with
  | zero => exact Mod.refl _
  | succ k ih => exact (ventS_bal _ _ _ _).trans ((leakS_bal _ _ _ _).trans ih)
theorem Bal.tick {S : Sys} {B : Int} {t : Nat} {g : Bool} (h : Bal S B t g) (ok : SysOk S) : Bal (tickB S) B t g := by
  have h1 : Bal S.move B t g := h.turn rfl rfl (Mod.refl _)
  obtain ⟨h2, _⟩ := h1.lines (SysOk.move ok) S.p.lines.length (Nat.le_refl _)
  exact h2.turn (tanksK_p _ _) (tanksK_carried _ _) (tanksK_bal _ _ _ _)
/-- The bases behind a call. -/
def baseB (S : Sys) (what a b c : Int) (B : Nat → Bool → Int) : Nat → Bool → Int :=
  if what = 1 ∧ (doesB S what a b c).1 = 0 then fun t g => if t = a.toNat then wrap64 ((if g then c else b) - sumK (doesB S what a b c).2 a.toNat g S.p.lines.length) else B t g else B
theorem putB_ok {S : Sys} {a b c : Int} (h : (putB S a b c).1 = 0) : 0 ≤ a ∧ a < S.p.tanks.length ∧ (putB S a b c).2 = S.setT a.toNat { S.tank a.toNat with content := b, gas := c } := by
  unfold putB at h ⊢
  by_cases h1 : inB a 0 (S.p.tanks.length - 1) = true
  · rw [if_pos h1] at h ⊢
    by_cases h2 : (inB b 0 (S.p.tank a.toNat).room && inB c 0 1073741824) = true
    · rw [if_pos h2]; have := inB_iff.1 h1; exact ⟨by omega, by omega, rfl⟩
    · rw [if_neg h2] at h; simp at h
  · rw [if_neg h1] at h; simp at h
theorem putB_no {S : Sys} {a b c : Int} (h : ¬ (putB S a b c).1 = 0) : (putB S a b c).2 = S := by
  unfold putB at h ⊢
  split
  · split
    · next h1 h2 => rw [if_pos h1, if_pos h2] at h; exact absurd rfl h
    · rfl
  · rfl
theorem Bal.does {S : Sys} {B : Nat → Bool → Int} {t : Nat} {g : Bool} (h : Bal S (B t g) t g) (ok : SysOk S) (what a b c : Int) : Bal (doesB S what a b c).2 (baseB S what a b c B t g) t g := by
  by_cases h1 : what = 1
  · subst h1
    have e : doesB S 1 a b c = putB S a b c := by unfold doesB; rw [if_pos rfl]
    unfold baseB
    rw [e]
    by_cases h0 : (putB S a b c).1 = 0
    · obtain ⟨g1, g2, g3⟩ := putB_ok h0
      rw [if_pos ⟨rfl, h0⟩, g3]
      by_cases ht : t = a.toNat
      · subst ht
        simp only [if_true]
        have hn : numB (S.setT a.toNat { S.tank a.toNat with content := b, gas := c }) g a.toNat = if g then c else b := by unfold numB Sys.setT; cases g <;> simp
        unfold Bal
        rw [hn]
        exact ((mod_wrap _).add (sumK_mod _ _ _ _).symm).trans (Mod.of_eq (by show _ - sumK _ _ _ S.p.lines.length + sumK _ _ _ S.p.lines.length = _; omega))
      · simp only [ht, if_false]
        refine h.turn rfl rfl (Mod.of_eq ?_)
        unfold numB goneB Sys.setT
        simp only [ht, if_false]
    · rw [if_neg (by rintro ⟨_, h⟩; exact h0 h), putB_no h0]; exact h
  · have hb : baseB S what a b c B = B := by unfold baseB; rw [if_neg (by rintro ⟨h, _⟩; exact h1 h)]
    rw [hb]
    by_cases h2 : what = 2
    · subst h2
      have e : doesB S 2 a b c = orderB S a (oddB b) := by unfold doesB; rw [if_neg (by decide), if_pos rfl]
      rw [e]; unfold orderB
      split
      · split
        · exact h.turn rfl rfl (Mod.refl _)
        · exact h
      · exact h
    · by_cases h3 : what = 3
      · subst h3
        have e : doesB S 3 a b c = stickB S a (oddB b) := by unfold doesB; rw [if_neg (by decide), if_neg (by decide), if_pos rfl]
        rw [e]; unfold stickB
        split
        · exact h.turn rfl rfl (Mod.refl _)
        · exact h
      · by_cases h4 : what = 4
        · subst h4
          have e : doesB S 4 a b c = leakB S a b := by unfold doesB; rw [if_neg (by decide), if_neg (by decide), if_neg (by decide), if_pos rfl]
          rw [e]; unfold leakB
          split
          · split
            · refine h.turn rfl rfl (Mod.of_eq ?_)
              unfold numB goneB Sys.setT
              by_cases ht : t = a.toNat
              · subst ht; cases g <;> simp
              · simp [ht]
            · exact h
          · exact h
        · rw [doesB_other h1 h2 h3 h4]; exact h.tick ok
theorem Bal.start (p : PlantD) (t : Nat) (g : Bool) : Bal (startB p) 0 t g := by
  have h : ∀ n, sumU (startB p) t g n = 0 := by
    intro n
    induction n with
    | zero => unfold sumU goneB startB; cases g <;> rfl
    | succ n ih =>
      unfold sumU
      rw [ih]
      unfold flowT
      show 0 + (if _ then (if _ then (0 : Int) else 0) - (if _ then (0 : Int) else 0) else 0) = 0
      simp
  unfold Bal
  rw [h]
  exact Mod.of_eq (by unfold numB startB; cases g <;> rfl)

/-! Behind a tick no pressure is above its limit. -/
theorem vent_press {S : Sys} (ok : SysOk S) (i : Nat) (hi : i < S.p.tanks.length) : pressB (ventS S i) i ≤ (S.p.tank i).limit := by
  have h1 := ok.room i hi; have h2 := ok.limit i hi; have h3 := tankOk_of ok.valid i hi; have h4 := ok.tanks i hi
  have hr : roomB (ventS S i) i = roomB S i := by unfold roomB ventS Sys.setT; simp
  have hg : ((ventS S i).tank i).gas = (S.tank i).gas - ventB S i := by unfold ventS Sys.setT; simp
  unfold pressB
  rw [hr, hg]
  have h5 : ((S.tank i).gas - ventB S i) * 100 < ((S.p.tank i).limit + 1) * roomB S i := by unfold ventB; omega
  have h6 := Int.ediv_lt_of_lt_mul (a := ((S.tank i).gas - ventB S i) * 100) (b := (S.p.tank i).limit + 1) (c := roomB S i) (by omega) h5
  omega
theorem tanksK_ok {S : Sys} (ok : SysOk S) (k : Nat) (hk : k ≤ S.p.tanks.length) : SysOk (tanksK S k) := by
  induction k with
  | zero => exact ok
  | succ k ih =>
    have h1 := ih (by omega)
    have hk1 : k < (tanksK S k).p.tanks.length := by rw [tanksK_p]; omega
    exact (h1.leakS k hk1).ventS k hk1
theorem tanksK_press {S : Sys} (ok : SysOk S) (k : Nat) (hk : k ≤ S.p.tanks.length) (t : Nat) (ht : t < k) : pressB (tanksK S k) t ≤ (S.p.tank t).limit := by
  induction k with
  | zero => omega
  | succ k ih =>
    have hk1 : k < (tanksK S k).p.tanks.length := by rw [tanksK_p]; omega
    have ok1 := (tanksK_ok ok k (by omega)).leakS k hk1
    show pressB (ventS (leakS (tanksK S k) k) k) t ≤ _
    by_cases e : t = k
    · subst e
      have h := vent_press ok1 t hk1
      have hp : (leakS (tanksK S t) t).p = S.p := tanksK_p S t
      rw [hp] at h; exact h
    · have h := ih (by omega) (by omega)
      have e2 : pressB (ventS (leakS (tanksK S k) k) k) t = pressB (tanksK S k) t := by
        unfold pressB roomB ventS leakS Sys.setT; simp [e]
      rw [e2]; exact h
theorem tick_press {S : Sys} (ok : SysOk S) (t : Nat) (ht : t < S.p.tanks.length) : pressB (tickB S) t ≤ (S.p.tank t).limit := by
  have h0 : Bal S.move (numB S.move false t - sumU S.move t false S.move.p.lines.length) t false := by unfold Bal; exact Mod.of_eq (by omega)
  obtain ⟨_, ok2⟩ := h0.lines (SysOk.move ok) S.p.lines.length (Nat.le_refl _)
  have hp : (linesK S.move S.p.lines.length).p = S.p := linesK_p _ _
  have h := tanksK_press ok2 S.p.tanks.length (by rw [hp]; exact Nat.le_refl _) t ht
  rw [hp] at h; exact h
/-- What the law asks of a tank. -/
theorem Bal.num {S : Sys} {B : Int} {t : Nat} {g : Bool} (h : Bal S B t g) (ok : SysOk S) (ht : t < S.p.tanks.length) : wrap64 (B + sumK S t g S.p.lines.length) = numB S g t := by
  refine wrap_of_mod (((Mod.refl B).add (sumK_mod _ _ _ _)).trans h) ?_
  have h1 := numB_ok ok g t ht
  omega
end Go.Proofs.YtogobjmmgjfjjaaGreat
/- What is proved: a contract of sums: what lines, leaks and vents have added to a tank. Conditions: the system and the plant lie in memory. -/
namespace Go.Proofs.YtogobjmmgjfjjaaGreat
open Go.RowKit

theorem Cl.at1 {w : World} {B n i : Nat} {T : TypeId} {A : Option Addr} {F : Nat → Int} (h : Cl w B T 1 A n fun i _ => .int .i64 (F i)) (hi : i < n) : ∃ g, A = some ⟨g, 0, none⟩ ∧ B ≤ g ∧ g < w.heap.size ∧ w.cell? ⟨g, i, none⟩ = some (.int .i64 (F i)) := by
  obtain ⟨g, cur, e, h1, hb, hc⟩ := h.2 (by omega)
  refine ⟨g, e, h1, hb.lt, ?_⟩
  rw [hb.cell]
  have := hc i hi 0 (by omega)
  rw [show i * 1 + 0 = i from by omega] at this
  exact this
set_option maxRecDepth 100000 in
set_option maxHeartbeats 4000000 in
theorem sums_any (w : World) (X : SX) (S : Sys) (h : SysAt w X S) (x : PV) (p : PlantD) (hp : PlantAt w w.heap.size x p) (hSp : S.p = p) (t : Nat) (ht : t < p.tanks.length) :
    Calls Tryz.prog 29 #[.pointer (some ⟨X.sb, 0, none⟩), .agg (plantA x p), .int .i64 t] w
      fun e w' => e = .returned (.agg #[.int .i64 (sumK S t false p.lines.length), .int .i64 (sumK S t true p.lines.length)]) ∧ Below w.heap.size w w' := by
  subst hSp
  have hlens := h.lens
  have HOK := Lib.hid h.ok
  obtain ⟨W, hW⟩ : ∃ W, W = (w.alloc (.cells (plantA x S.p) 27)).alloc (.cells #[.int .i64 0, .int .i64 0] 65) := ⟨_, rfl⟩
  have hbW : Below w.heap.size w W := by rw [hW]; exact ((Below.refl _ _).alloc (Nat.le_refl _) _).alloc (by simp) _
  have hb0 : Bk W w.heap.size 27 (plantA x S.p) := by rw [hW]; exact (Bk.new _ _ _).alloc _
  have hb1 : Bk W (w.heap.size + 1) 65 #[.int .i64 0, .int .i64 0] := by rw [hW]; exact Bk.newAt _ _ _ _ (by simp)
  have hSW := Lib.hid (h.below hbW)
  have hpW : PlantAt W W.heap.size x S.p := (hp.below hbW).mono hbW.size
  have HC : Hid (∀ z, Below W.heap.size W z → z.cell? ⟨w.heap.size, 0, none⟩ = some (.slice x.tA S.p.tanks.length x.tc) ∧ z.cell? ⟨w.heap.size, 2, none⟩ = some (.slice x.lA S.p.lines.length x.lc)) := Lib.hid fun z hz =>
    have h0 := hb0.below hz hb0.lt
    ⟨h0.cell 0, h0.cell 2⟩
  have HL : Hid (∀ z, Below W.heap.size W z → Sl z W.heap.size 5 x.lA S.p.lines.length fun i => lineC (x.iA i) (x.ic i) (S.p.line i)) := Lib.hid fun z hz => (hpW.lines).below hz
  have HB := Lib.hid hbW
  have HW := Lib.hid hW
  have HB1 := Lib.hid hb1
  have HLT := Lib.hid hb1.lt
  obtain ⟨nl, hnl⟩ : ∃ n, S.p.lines.length = n := ⟨_, rfl⟩
  obtain ⟨nt, hnt⟩ : ∃ n, S.p.tanks.length = n := ⟨_, rfl⟩
  simp only [plantA] at HW
  simp only [plantA]
  have hti : (t : Int) < (nt : Int) := by omega
  have h0t : (0 : Int) ≤ (t : Int) := by omega
  rw [hnl] at HC HL HW ⊢
  rw [hnt] at HC HW
  have hl32 : nl ≤ 32 := by omega
  have hn16 : nt ≤ 16 := by omega
  have ht' : t < nt := by omega
  have HNL := Lib.hid hnl
  have HNT := Lib.hid hnt
  clear h hp hbW hb0 hb1 hpW hW hlens ht hnl
  rw [hnt]
  clear hnt
  go_enter Tryz.func29, Tryz.ntmps29
  go_wp2_with fail
  rw [← HW.out]
  refine (carried_any W X S hSW.out).mono ?_
  rintro e w1 ⟨A1, c1, rfl, hc1, hb1⟩
  rw [HNL.out]
  have HC1 := Lib.hid hc1
  have HB1' : Hid (Below W.heap.size W w1) := Lib.hid hb1
  clear hc1 hb1
  go_wp2_with fail
  refine (lost_any w1 X S (hSW.out.below HB1'.out)).mono ?_
  rintro e w2 ⟨A2, c2, rfl, hc2, hb2⟩
  rw [HNT.out]
  have HC2 := Lib.hid hc2
  have HC12 := Lib.hid (HC1.out.below hb2)
  have HB2' : Hid (Below W.heap.size W w2) := Lib.hid (HB1'.out.trans (hb2.mono HB1'.out.size))
  clear hc2 hb2
  go_wp2_with fail
  refine (vented_any w2 X S (hSW.out.below HB2'.out)).mono ?_
  rintro e w3 ⟨A3, c3, rfl, hc3, hb3⟩
  rw [HNT.out]
  have HC3 := Lib.hid hc3
  have HC13 := Lib.hid (HC12.out.below hb3)
  have HC23 := Lib.hid (HC2.out.below hb3)
  have HB3' : Hid (Below W.heap.size W w3) := Lib.hid (HB2'.out.trans (hb3.mono HB2'.out.size))
  clear hc3 hb3
  obtain ⟨d0, d2⟩ := HC.out w3 HB3'.out
  go_wp2_with fail
  obtain ⟨g2, rfl, hg2, hgl2, k2⟩ := HC23.out.at1 (i := t) (by rw [HNT.out]; exact ht')
  obtain ⟨g3, rfl, hg3, hgl3, k3⟩ := HC3.out.at1 (i := t) (by rw [HNT.out]; exact ht')
  obtain ⟨lo, hlo⟩ : ∃ v, (S.tank t).lost = v := ⟨_, rfl⟩
  obtain ⟨ve, hve⟩ : ∃ v, (S.tank t).vented = v := ⟨_, rfl⟩
  rw [hlo] at k2
  rw [hve] at k3
  have HLO := Lib.hid hlo
  have HVE := Lib.hid hve
  clear hlo hve d0 d2
  go_region
  have hnb0 : Bk (w3.alloc (.cells #[.int .i64 (wrap64 (-lo)), .int .i64 (wrap64 (-ve))] 65)) w3.heap.size 65 #[.int .i64 (wrap64 (-lo)), .int .i64 (wrap64 (-ve))] := Bk.new _ _ _
  have HW4 : Hid (∀ wq, wq = (w3.alloc (.cells #[.int .i64 (wrap64 (-lo)), .int .i64 (wrap64 (-ve))] 65)).drew → Below w3.heap.size w3 wq ∧ Bk wq w3.heap.size 65 #[.int .i64 (sumK S t false 0), .int .i64 (sumK S t true 0)]) := Lib.hid fun wq e => by
    subst e
    refine ⟨((Below.refl _ _).alloc (Nat.le_refl _) _).drew, ?_⟩
    have e0 : sumK S t false 0 = wrap64 (-lo) := by rw [← HLO.out]; rfl
    have e1 : sumK S t true 0 = wrap64 (-ve) := by rw [← HVE.out]; rfl
    rw [e0, e1]; exact hnb0
  obtain ⟨W4, hW4⟩ : ∃ W4, W4 = (w3.alloc (.cells #[.int .i64 (wrap64 (-lo)), .int .i64 (wrap64 (-ve))] 65)).drew := ⟨_, rfl⟩
  rw [← hW4]
  obtain ⟨nb, hnb⟩ : ∃ nb, w3.heap.size = nb := ⟨_, rfl⟩
  have HR4 := Lib.hid (HW4.out _ hW4)
  rw [hnb] at HR4 ⊢
  have HNB := Lib.hid hnb
  clear hW4 hnb hnb0 HW4 k2 k3
  go_wp2_with fail
  go_loopw [11] (fun i wr => ∃ k : Nat, k ≤ nl ∧ i = .int .i64 k ∧ Hid (Below nb w3 wr ∧ Bk wr nb 65 #[.int .i64 (sumK S t false k), .int .i64 (sumK S t true k)])) (fun i _ => nl - (intOf i).toNat)
  case atStart => exact ⟨0, Nat.zero_le _, rfl, HR4⟩
  case round =>
    obtain ⟨k, hk, rfl, hs⟩ := hrel
    have HZ : Hid (Below W.heap.size W wr) := Lib.hid (HB3'.out.trans (hs.out.1.mono (by rw [← HNB.out]; exact HB3'.out.size)))
    obtain ⟨d0, d2⟩ := HC.out wr HZ.out
    by_cases hlt : k < nl
    · have hki : (k : Int) < (nl : Int) := by omega
      have h0i : (0 : Int) ≤ (k : Int) := by omega
      have hlt' : k < S.p.lines.length := by rw [HNL.out]; exact hlt
      obtain ⟨b, off, hA, hBb, l0, l1, l2, l3, l4⟩ := (HL.out wr HZ.out).at5 hlt
      obtain ⟨g1, hA1, hg1, hgl1, k1'⟩ := HC13.out.at1 (i := k) hlt'
      rw [HNB.out] at hgl1
      have k1 : wr.cell? ⟨g1, k, none⟩ = some (.int .i64 (S.carried k)) := (hs.out.1.cell (p := ⟨g1, k, none⟩) hgl1).trans k1'
      have hWn : W.heap.size ≤ nb := by rw [← HNB.out]; exact HB3'.out.size
      have hbn : b < nb := Nat.lt_of_lt_of_le hBb hWn
      have hwn : w.heap.size < nb := by have := HLT.out; omega
      have hnbw : nb < wr.heap.size := hs.out.2.lt
      clear k1'
      rw [hA] at d2
      obtain ⟨_, _, _, _, _, _, _, _, _, _, hsd, _, _⟩ := much_ok HOK.out k hlt'
      obtain ⟨L, hL⟩ : ∃ L, S.p.line k = L := ⟨_, rfl⟩
      have hs0 : ∀ g, sumK S t g (k + 1) = if L.gas = g then stepK L t (S.carried k) (sumK S t g k) else sumK S t g k := fun g => by rw [← hL]; rfl
      rw [hL] at l0 l1 l2 l3 l4 hsd
      obtain ⟨cv, hcv⟩ : ∃ v, S.carried k = v := ⟨_, rfl⟩
      rw [hcv] at k1 hs0
      have HS0 := Lib.hid hs0
      obtain ⟨va, hva⟩ : ∃ v, sumK S t false k = v := ⟨_, rfl⟩
      obtain ⟨vb, hvb⟩ : ∃ v, sumK S t true k = v := ⟨_, rfl⟩
      have hbk := hs.out.2
      rw [hva, hvb] at hbk
      have HVA := Lib.hid hva
      have HVB := Lib.hid hvb
      have n0 : wr.cell? ⟨nb, 0, none⟩ = some (.int .i64 va) := hbk.cell 0
      have n1 : wr.cell? ⟨nb, 1, none⟩ = some (.int .i64 vb) := hbk.cell 1
      have nf0 : wr.frozen? ⟨nb, 0, none⟩ = false := hbk.free 0
      have nf1 : wr.frozen? ⟨nb, 1, none⟩ = false := hbk.free 1
      have HBK := Lib.hid hbk
      have HSB : Hid (∀ j u, Below nb wr (wr.setCell ⟨nb, j, none⟩ u).drew) := Lib.hid fun j u => ((Below.refl nb wr).setCell (p := ⟨nb, j, none⟩) (Nat.le_refl _) u).drew
      have HNX : Hid (∀ wq a' b', Below nb wr wq → Bk wq nb 65 #[.int .i64 a', .int .i64 b'] → sumK S t false (k + 1) = a' → sumK S t true (k + 1) = b' →
          Below nb w3 wq ∧ Bk wq nb 65 #[.int .i64 (sumK S t false (k + 1)), .int .i64 (sumK S t true (k + 1))]) := Lib.hid fun wq a' b' h1 h2 h3 h4 => by
        rw [h3, h4]; exact ⟨hs.out.1.trans h1, h2⟩
      obtain ⟨src, dst, flow, gas, valves⟩ := L
      simp only [lineC] at l0 l1 l2 l3 l4 hsd
      subst hA1
      clear hL hs0 hcv hva hvb hbk hA
      cases gas with
      | false =>
        by_cases e1 : dst = (t : Int)
        · subst e1
          by_cases e2 : src = (t : Int)
          · exact absurd e2 hsd
          · go_wp2_with fail
            go_still_tail 10, (by kernel_rfl)
            go_wp2_with fail
            go_roundw
            case rel => exact ⟨k + 1, by omega, by go_num, Lib.hid (HNX.out _ (wrap64 (va + cv)) vb (HSB.out _ _) ((HBK.out.set 0 _)) (by rw [HS0.out, HVA.out]; simp [stepK, e2]) (by rw [HS0.out, HVB.out]; simp))⟩
            case measure => simp [intOf]; omega
        · by_cases e2 : src = (t : Int)
          · subst e2
            go_wp2_with fail
            go_still_tail 10, (by kernel_rfl)
            go_wp2_with fail
            go_roundw
            case rel => exact ⟨k + 1, by omega, by go_num, Lib.hid (HNX.out _ (wrap64 (va - cv)) vb (HSB.out _ _) ((HBK.out.set 0 _)) (by rw [HS0.out, HVA.out]; simp [stepK, e1]) (by rw [HS0.out, HVB.out]; simp))⟩
            case measure => simp [intOf]; omega
          · go_wp2_with fail
            go_roundw
            case rel => exact ⟨k + 1, by omega, by go_num, Lib.hid (HNX.out _ va vb ((Below.refl _ _)) (HBK.out) (by rw [HS0.out, HVA.out]; simp [stepK, e1, e2]) (by rw [HS0.out, HVB.out]; simp))⟩
            case measure => simp [intOf]; omega
      | true =>
        by_cases e1 : dst = (t : Int)
        · subst e1
          by_cases e2 : src = (t : Int)
          · exact absurd e2 hsd
          · go_wp2_with fail
            go_still_tail 10, (by kernel_rfl)
            go_wp2_with fail
            go_roundw
            case rel => exact ⟨k + 1, by omega, by go_num, Lib.hid (HNX.out _ va (wrap64 (vb + cv)) (HSB.out _ _) ((HBK.out.set 1 _)) (by rw [HS0.out, HVA.out]; simp) (by rw [HS0.out, HVB.out]; simp [stepK, e2]))⟩
            case measure => simp [intOf]; omega
        · by_cases e2 : src = (t : Int)
          · subst e2
            go_wp2_with fail
            go_still_tail 10, (by kernel_rfl)
            go_wp2_with fail
            go_roundw
            case rel => exact ⟨k + 1, by omega, by go_num, Lib.hid (HNX.out _ va (wrap64 (vb - cv)) (HSB.out _ _) ((HBK.out.set 1 _)) (by rw [HS0.out, HVA.out]; simp) (by rw [HS0.out, HVB.out]; simp [stepK, e1]))⟩
            case measure => simp [intOf]; omega
          · go_wp2_with fail
            go_roundw
            case rel => exact ⟨k + 1, by omega, by go_num, Lib.hid (HNX.out _ va vb ((Below.refl _ _)) (HBK.out) (by rw [HS0.out, HVA.out]; simp) (by rw [HS0.out, HVB.out]; simp [stepK, e1, e2]))⟩
            case measure => simp [intOf]; omega
    · obtain rfl : k = nl := by omega
      have n0 : wr.cell? ⟨nb, 0, none⟩ = some (.int .i64 (sumK S t false k)) := hs.out.2.cell 0
      have n1 : wr.cell? ⟨nb, 1, none⟩ = some (.int .i64 (sumK S t true k)) := hs.out.2.cell 1
      have hr := HB1.out.below HZ.out HB1.out.lt
      have r0 : wr.cell? ⟨w.heap.size + 1, 0, none⟩ = some (.int .i64 0) := hr.cell 0
      have r1 : wr.cell? ⟨w.heap.size + 1, 1, none⟩ = some (.int .i64 0) := hr.cell 1
      have rf0 : wr.frozen? ⟨w.heap.size + 1, 0, none⟩ = false := hr.free 0
      have rf1 : wr.frozen? ⟨w.heap.size + 1, 1, none⟩ = false := hr.free 1
      have hlr := hr.lt
      clear hr
      have HBE : Hid (∀ u v, Below w.heap.size w ((wr.setCell ⟨w.heap.size + 1, 0, none⟩ u).setCell ⟨w.heap.size + 1, 1, none⟩ v)) := Lib.hid fun u v => (((HB.out.trans (HZ.out.mono HB.out.size)).setCell (p := ⟨w.heap.size + 1, 0, none⟩) (by simp) u).setCell (p := ⟨w.heap.size + 1, 1, none⟩) (by simp) v)
      go_wp2_with fail
      exact bodyPost_ret (v := .agg #[.int .i64 (sumK S t false k), .int .i64 (sumK S t true k)]) (by simp [results, Tryz.results29, go_sem, r0, r1]) rfl ⟨rfl, HBE.out _ _⟩
end Go.Proofs.YtogobjmmgjfjjaaGreat
/- What is proved: what holds in EngineKeeps from call to call, and how it is kept; what the law asks of a tank. Conditions: those that each lemma states. -/
namespace Go.Proofs.YtogobjmmgjfjjaaGreat
open Go.RowKit

def baseA (n : Nat) (B : Nat → Bool → Int) : Array Value := ((List.range n).flatMap fun i => [Value.int .i64 (B i false), .int .i64 (B i true)]).toArray
theorem baseA_size (n : Nat) (B : Nat → Bool → Int) : (baseA n B).size = n * 2 := by
  unfold baseA
  simp only [List.size_toArray]
  induction n with
  | zero => rfl
  | succ n ih => rw [List.range_succ, List.flatMap_append, List.length_append, ih]; simp; omega
theorem baseA_get (n : Nat) (B : Nat → Bool → Int) (i : Nat) (g : Bool) (hi : i < n) : (baseA n B)[i * 2 + (if g then 1 else 0)]? = some (.int .i64 (B i g)) := by
  unfold baseA
  rw [List.getElem?_toArray]
  induction n with
  | zero => omega
  | succ n ih =>
    have hl : ((List.range n).flatMap fun i => [Value.int .i64 (B i false), .int .i64 (B i true)]).length = n * 2 := by have := baseA_size n B; unfold baseA at this; simpa using this
    rw [List.range_succ, List.flatMap_append]
    by_cases h : i < n
    · rw [List.getElem?_append_left (by rw [hl]; cases g <;> simp <;> omega)]; exact ih h
    · obtain rfl : i = n := by omega
      rw [List.getElem?_append_right (by rw [hl]; omega), hl]
      cases g <;> simp
def setBs (B : Nat → Bool → Int) (i : Nat) (g : Bool) (v : Int) : Nat → Bool → Int := fun k h => if k = i ∧ h = g then v else B k h
theorem baseA_set (n : Nat) (B : Nat → Bool → Int) (i : Nat) (g : Bool) (hi : i < n) (v : Int) : (baseA n B).setIfInBounds (i * 2 + (if g then 1 else 0)) (.int .i64 v) = baseA n (setBs B i g v) := by
  apply Array.ext_getElem?
  intro m
  by_cases hm : m < n * 2
  · obtain ⟨q, r, hr⟩ : ∃ q, ∃ r : Bool, m = q * 2 + (if r then 1 else 0) := ⟨m / 2, decide (m % 2 = 1), by by_cases h : m % 2 = 1 <;> simp [h] <;> omega⟩
    have hq : q < n := by cases r <;> simp at hr <;> omega
    subst hr
    rw [Array.getElem?_setIfInBounds, baseA_get _ _ _ _ hq, baseA_get _ _ _ _ hq, baseA_size]
    unfold setBs
    by_cases e : q = i
    · subst e
      cases r <;> cases g <;> simp <;> omega
    · have hne : ¬ (i * 2 + (if g then 1 else 0) = q * 2 + (if r then 1 else 0)) := by cases r <;> cases g <;> simp <;> omega
      rw [if_neg hne, if_neg (by rintro ⟨h, _⟩; exact e h)]
  · rw [Array.getElem?_eq_none (by simp [baseA_size]; omega), Array.getElem?_eq_none (by rw [baseA_size]; omega)]

/-- What holds from call to call. -/
structure KeepI (W : World) (X : SX) (bb : Nat) (p : PlantD) (wr : World) (S : Sys) (B : Nat → Bool → Int) : Prop where
  sys : SysAt wr X S
  below : Below W.heap.size W wr
  hp : S.p = p
  lo : W.heap.size ≤ X.lo
  hi : X.hi ≤ bb
  base : Bk wr bb 65 (baseA p.tanks.length B)
  bal : ∀ t g, Bal S (B t g) t g
section
variable {W wr w1 : World} {X : SX} {bb : Nat} {p : PlantD} {S : Sys} {B : Nat → Bool → Int}
theorem KeepI.later (h : KeepI W X bb p wr S B) (hb : Below wr.heap.size wr w1) : KeepI W X bb p w1 S B :=
  ⟨h.sys.below hb, h.below.trans (hb.mono h.below.size), h.hp, h.lo, h.hi, h.base.below hb h.base.lt, h.bal⟩
theorem KeepI.bblt (h : KeepI W X bb p wr S B) : W.heap.size ≤ bb := by
  have := h.sys.lo; have := h.sys.hi; have := h.lo; have := h.hi; omega
/-- A call: the system turns, the bases in memory do not yet. -/
theorem KeepI.call (h : KeepI W X bb p wr S B) (hc : Chg X wr w1) : Below W.heap.size W w1 ∧ Bk w1 bb 65 (baseA p.tanks.length B) := by
  have l := h.sys.lo; have u := h.sys.hi; have l2 := h.lo; have u2 := h.hi; have hsz := h.below.size
  exact ⟨h.below.trans (hc.below hsz (by omega) (by omega) (by omega)), (hc.block bb h.base.lt (by omega) (by omega) (by omega)).trans h.base⟩
end
theorem baseB_upd (S : Sys) (a b c : Int) (B : Nat → Bool → Int) (n : Nat) (hp : S.p.lines.length = n) (h0 : (doesB S 1 a b c).1 = 0) :
    baseB S 1 a b c B = setBs (setBs B a.toNat false (wrap64 (b - sumK (doesB S 1 a b c).2 a.toNat false n))) a.toNat true (wrap64 (c - sumK (doesB S 1 a b c).2 a.toNat true n)) := by
  subst hp
  unfold baseB setBs
  rw [if_pos ⟨rfl, h0⟩]
  funext t g
  by_cases ht : t = a.toNat
  · subst ht
    cases g <;> simp
  · simp [ht]
theorem baseB_no (S : Sys) (what a b c : Int) (B : Nat → Bool → Int) (h : ¬ (what = 1 ∧ (doesB S what a b c).1 = 0)) : baseB S what a b c B = B := by unfold baseB; rw [if_neg h]

/-! What is left by the operations of 'now := sums(s, p, l[i].A)'. -/
def KE (j : Nat) (w1 w2 : World) : Prop := (j ≠ 9 → Below w1.heap.size w1 w2) ∧ (j = 9 → ∀ nb c0 c1, Bk w1 nb 65 #[c0, c1] → ∃ c0' c1', Bk w2 nb 65 #[c0', c1'])
def KR (wr : World) (s0 s1 : Int) (ix : Nat) (u : Value) (d : Nat → Value) (w1 : World) : Prop :=
  (ix = 8 → ∃ nb, u = .pointer (some ⟨nb, 0, none⟩) ∧ wr.heap.size ≤ nb ∧ ∃ c0 c1, Bk w1 nb 65 #[c0, c1]) ∧
  (ix = 9 → ∃ nb, d 8 = .pointer (some ⟨nb, 0, none⟩) ∧ wr.heap.size ≤ nb ∧ Bk w1 nb 65 #[.int .i64 s0, .int .i64 s1])
theorem KR.keep {wr w1 w2 : World} {s0 s1 : Int} {i j : Nat} {u : Value} {d : Nat → Value} (hij : i ≠ j) (h : KR wr s0 s1 i u d w1) (he : KE j w1 w2) : KR wr s0 s1 i u d w2 := by
  obtain ⟨h1, h2⟩ := h
  by_cases hj : j = 9
  · refine ⟨fun e => ?_, fun e => absurd (e.trans hj.symm) hij⟩
    obtain ⟨nb, a, b, c0, c1, c⟩ := h1 e
    exact ⟨nb, a, b, he.2 hj nb c0 c1 c⟩
  · have hb := he.1 hj
    refine ⟨fun e => ?_, fun e => ?_⟩
    · obtain ⟨nb, a, b, c0, c1, c⟩ := h1 e; exact ⟨nb, a, b, c0, c1, c.below hb c.lt⟩
    · obtain ⟨nb, a, b, c⟩ := h2 e; exact ⟨nb, a, b, c.below hb c.lt⟩
theorem KE.same (w : World) {j : Nat} (hj : j ≠ 9) : KE j w w := ⟨fun _ => Below.refl _ _, fun h => absurd h hj⟩
theorem KE.below {w w' : World} {j : Nat} (hj : j ≠ 9) (hb : Below w.heap.size w w') : KE j w w' := ⟨fun _ => hb, fun h => absurd h hj⟩
theorem KE.store {w w' : World} {nb : Nat} {s0 s1 : Value} (ho : Only nb w w') (h' : Bk w' nb 65 #[s0, s1]) : KE 9 w w' :=
  ⟨fun e => absurd rfl e, fun _ n c0 c1 hn => by
    by_cases e : n = nb
    · subst e; exact ⟨_, _, h'⟩
    · exact ⟨c0, c1, hn.only ho e⟩⟩
theorem info_int2s : (Tryz.prog.info? 65).map (·.size) = some 2 := by kernel_rfl
end Go.Proofs.YtogobjmmgjfjjaaGreat
