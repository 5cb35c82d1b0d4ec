/- What is proved: the texts Dk, one behind the other; each says at its head what it proves, and under which conditions. -/
import Derived.Test.YtcnjenlojnognaaGreatg18
/- What is proved: the contract of the document's delayed. Conditions: the campaign and the plan lie in memory. -/
namespace Go.Proofs.YtcnjenlojnognaaGreat
open Go.RowKit

/-- The rows of a copied plan: D tells the launches, P and Q where their cargos lie. -/
def DlR (wo : World) (g n : Nat) (P : Nat → Option Addr) (Q : Nat → Nat) (D : Nat → LaunchD) (w' : World) : Prop :=
 Below wo.heap.size wo w' ∧ ∃ cur, Bk w' g 52 cur ∧ ∀ i, i < n → ∀ j, j < 4 → cur[i * 4 + j]? = some (launchR (D i) (P i) (Q i) j)
theorem DlR.cell {wo w' : World} {g n : Nat} {P : Nat → Option Addr} {Q : Nat → Nat} {D : Nat → LaunchD} (h : DlR wo g n P Q D w') {i j : Nat} (hi : i < n) (hj : j < 4) : w'.cell? ⟨g, i * 4 + j, none⟩ = some (launchR (D i) (P i) (Q i) j) := by
 obtain ⟨_, cur, hb, hc⟩ := h
 rw [hb.cell]; exact hc i hi j hj
theorem DlR.free {wo w' : World} {g n : Nat} {P : Nat → Option Addr} {Q : Nat → Nat} {D : Nat → LaunchD} (h : DlR wo g n P Q D w') (j : Nat) : w'.frozen? ⟨g, j, none⟩ = false := by
 obtain ⟨_, cur, hb, _⟩ := h
 exact hb.free j
theorem DlR.drew {wo w' : World} {g n : Nat} {P : Nat → Option Addr} {Q : Nat → Nat} {D : Nat → LaunchD} (h : DlR wo g n P Q D w') : DlR wo g n P Q D w'.drew := by
 obtain ⟨h1, cur, hb, hc⟩ := h
 exact ⟨h1.drew, cur, hb, hc⟩
theorem DlR.congr {wo w' : World} {g n : Nat} {P : Nat → Option Addr} {Q : Nat → Nat} {D D' : Nat → LaunchD} (h : DlR wo g n P Q D w') (e : ∀ i, i < n → D' i = D i) : DlR wo g n P Q D' w' := by
 obtain ⟨h1, cur, hb, hc⟩ := h
 exact ⟨h1, cur, hb, fun i hi j hj => by rw [e i hi]; exact hc i hi j hj⟩
theorem DlR.day {wo w' : World} {g n : Nat} {P : Nat → Option Addr} {Q : Nat → Nat} {D : Nat → LaunchD} (h : DlR wo g n P Q D w') (hg : wo.heap.size ≤ g) {k : Nat} (hk : k < n) (d : Int) :
  DlR wo g n P Q (fun i => if i = k then ⟨d, (D k).craft, (D k).pad, (D k).cargos⟩ else D i) (w'.setCell ⟨g, k * 4, none⟩ (.int .i64 d)) := by
 obtain ⟨h1, cur, hb, hc⟩ := h
 refine ⟨h1.setCell (p := ⟨g, k * 4, none⟩) hg _, _, hb.set _ _, fun i hi j hj => ?_⟩
 have h0 := hc i hi j hj
 have hsz : k * 4 < cur.size := (Array.getElem?_eq_some_iff.1 (hc k hk 0 (by omega))).1
 rw [Array.getElem?_setIfInBounds]
 dsimp only
 by_cases e : k * 4 = i * 4 + j
 ·have e1 : i = k := by omega
  have e2 : j = 0 := by omega
  subst e1 e2
  rw [if_pos e, if_pos hsz, if_pos rfl]; rfl
 ·rw [if_neg e, h0]
  by_cases e1 : i = k
  ·subst e1
   rw [if_pos rfl]
   match j, hj with
   | 0, _ => exact absurd rfl e
   | 1, _ => rfl
   | 2, _ => rfl
   | 3, _ => rfl
  ·rw [if_neg e1]
theorem DlR.plan {wo w' : World} {g : Nat} {P : Nat → Option Addr} {Q : Nat → Nat} {D : Nat → LaunchD} {l L : List LaunchD} (h : DlR wo g l.length P Q D w') (hl : l.length ≤ 4096) (hL : L.length = l.length) (hD : ∀ i, i < l.length → L.getD i launch0 = D i) (hc : ∀ i, i < l.length → (D i).cargos = (l.getD i launch0).cargos)
  (hp : ∀ i, i < l.length → IntsAt wo wo.heap.size (P i) (l.getD i launch0).cargos) : PlanAt w' w'.heap.size (some ⟨g, 0, none⟩) L := by
 obtain ⟨h1, cur, hb, hr⟩ := h
 refine ⟨P, Q, ⟨by omega, fun _ => ⟨g, 0, rfl, hb.lt, fun i hi j hj => ?_⟩⟩, fun i hi => ?_⟩
 ·rw [hL] at hi
  rw [Nat.zero_add, hb.cell]
  show _ = some (launchR (L.getD i launch0) (P i) (Q i) j)
  rw [hD i hi]; exact hr i hi j hj
 ·rw [hL] at hi
  rw [hD i hi, hc i hi]; exact (hp i hi).later h1
/-- The launches while the one with number k is moved behind the first q. -/
def rowD (c : CampD) (l : List LaunchD) (i d : Int) (k q : Nat) (a : Nat) : LaunchD := if a < k then atD c l i d a else if a = k then midX c l i d k q else stepX l i d a
theorem rowD_start (c : CampD) (l : List LaunchD) (m : Nat) (d : Int) (a : Nat) : rowD c l m d (m + 1) 0 a = stepX l m d a := by
 unfold rowD
 split
 ·unfold atD; rw [if_neg (by omega)]
 ·split
  ·rename_i h; subst h; exact midX_zero _ _ _ _ _
  ·rfl
theorem atD_mid (c : CampD) (l : List LaunchD) (i d : Int) (k : Nat) : midX c l i d k k = atD c l i d k := by
 unfold midX atD
 rw [List.take_of_length_le (by rw [delayK_len]; exact Nat.le_refl k)]
theorem rowD_next (c : CampD) (l : List LaunchD) (i d : Int) (k : Nat) (hk : i < (k : Int)) (a : Nat) : rowD c l i d (k + 1) 0 a = rowD c l i d k k a := by
 unfold rowD
 by_cases h1 : a < k
 ·rw [if_pos h1, if_pos (by omega)]
 ·rw [if_neg h1]
  by_cases h2 : a = k
  ·subst h2
   rw [if_pos (by omega), if_pos rfl, atD_mid]
  ·rw [if_neg h2, if_neg (by omega)]
   split
   ·rename_i h; subst h; exact midX_zero _ _ _ _ _
   ·rfl
theorem delayK_at (c : CampD) (l : List LaunchD) (i d : Int) {k q : Nat} (hq : q < k) : (delayK c l i d k).getD q launch0 = atD c l i d q := by
 rw [delayK_ext, List.getD_eq_getElem?_getD, List.getElem?_map, List.getElem?_range hq]; rfl
theorem rowD_step (c : CampD) (l : List LaunchD) (i d : Int) (k q : Nat) (hk : i < (k : Int)) (hq : q < k) (a : Nat) : rowD c l i d k (q + 1) a = if a = k then pushS c (midX c l i d k q) (atD c l i d q) else rowD c l i d k q a := by
 unfold rowD
 by_cases h1 : a < k
 ·rw [if_pos h1, if_neg (by omega), if_pos h1]
 ·rw [if_neg h1]
  by_cases h2 : a = k
  ·rw [if_pos h2, if_pos h2, midX_succ _ _ _ _ _ _ hq, if_pos hk, delayK_at _ _ _ _ hq]
  ·rw [if_neg h2, if_neg h2, if_neg h1, if_neg h2]
theorem rowD_rest (c : CampD) (l : List LaunchD) (i d : Int) (k q a : Nat) : (rowD c l i d k q a).craft = (l.getD a launch0).craft ∧ (rowD c l i d k q a).pad = (l.getD a launch0).pad ∧ (rowD c l i d k q a).cargos = (l.getD a launch0).cargos := by
 unfold rowD
 split
 ·exact atD_rest c l i d a
 ·split
  ·rename_i h; subst h; exact midX_rest c l i d a q
  ·unfold stepX; split <;> exact ⟨rfl, rfl, rfl⟩
end Go.Proofs.YtcnjenlojnognaaGreat
