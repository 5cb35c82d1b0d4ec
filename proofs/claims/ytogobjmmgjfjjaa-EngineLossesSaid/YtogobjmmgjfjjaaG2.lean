/- What is proved: a map from spots to bools that a call makes, as a list of its keys: looking up, storing a new key, its length. Conditions: the map's block holds just these keys, each with true. -/
import Derived.Test.YtogobjmmgjfjjaaG1
import Derived.Test.YtogobjmmgjfjjaaSet
namespace Go.Proofs.Ytogobjmmgjfjjaa
open Go.RowKit Go.Maps Go.WideMaps

def sameSp (x s : Spots) : Bool := allN 12 fun i => decide ((x i).place = (s i).place) && decide ((x i).opn = (s i).opn)
theorem sameSp_iff {x s : Spots} : sameSp x s = true ↔ ∀ i, i < 12 → x i = s i := by
  unfold sameSp
  rw [allN_iff]
  constructor
  · intro h i hi
    have := h i hi
    simp only [Bool.and_eq_true, decide_eq_true_eq] at this
    generalize x i = a at *
    generalize s i = b at *
    cases a; cases b; simp only at this; simp [this]
  · intro h i hi
    rw [h i hi]; simp
theorem spotsA_inj {x s : Spots} : spotsA x = spotsA s ↔ ∀ i, i < 12 → x i = s i := by
  constructor
  · intro h i hi
    have h1 := spots_get x i hi
    have h2 := spots_get s i hi
    rw [h] at h1
    have e1 := h1.1.symm.trans h2.1
    have e2 := h1.2.symm.trans h2.2
    simp only [Option.some.injEq, Value.int.injEq, Value.bool.injEq, true_and] at e1 e2
    generalize x i = a at *
    generalize s i = b at *
    cases a; cases b; simp only at e1 e2; simp [e1, e2]
  · exact fun h => spotsA_congr h
/-- Is s among l? -/
def inSet (l : List Spots) (s : Spots) : Bool := l.any fun x => sameSp x s
/-- Block b is a map whose keys are l, each with true. -/
def SetP (w : World) (b : Nat) (l : List Spots) : Prop :=
  (∀ x ∈ l, PlacesOk x) ∧ ∃ arr clock, w.heap[b]? = some (.map arr clock) ∧ arr.toList.map (fun e => (e.key, e.val)) = l.map fun s => (Value.agg (spotsA s), Value.bool true)
theorem SetP.made (w : World) : SetP (w.alloc (.map #[] 0)) w.heap.size [] := ⟨(fun x h => absurd h (by simp)), #[], 0, by rw [heap_alloc_new], rfl⟩
theorem SetP.keep {w w' : World} {b : Nat} {l : List Spots} (h : SetP w b l) (hk : w'.heap[b]? = w.heap[b]?) : SetP w' b l := by
  obtain ⟨h0, arr, clock, h1, h2⟩ := h
  exact ⟨h0, arr, clock, hk.trans h1, h2⟩
theorem SetP.lt {w : World} {b : Nat} {l : List Spots} (h : SetP w b l) : b < w.heap.size := by
  obtain ⟨_, arr, clock, h1, h2⟩ := h
  rcases Nat.lt_or_ge b w.heap.size with h | h
  · exact h
  · simp [Array.getElem?_eq_none h] at h1

section
variable {w : World} {b : Nat} {l : List Spots}
theorem SetP.find (h : SetP w b l) (s : Spots) (hs : PlacesOk s) : ∃ arr clock, w.heap[b]? = some (.map arr clock) ∧ arr.toList.map (fun e => (e.key, e.val)) = (l.map fun s => (Value.agg (spotsA s), Value.bool true)) ∧
    if inSet l s = true then ∃ j, (Instr.findKey 74 (.agg (spotsA s)) arr.toList).run Try.prog w = .ok (some (j, .bool true)) w else (Instr.findKey 74 (.agg (spotsA s)) arr.toList).run Try.prog w = .ok none w := by
  obtain ⟨h0, arr, clock, h1, h2⟩ := h
  refine ⟨arr, clock, h1, h2, ?_⟩
  obtain ⟨lx, hx⟩ := keySpots s hs
  have hkeys : ∀ e ∈ arr.toList, ∃ x ∈ l, e.key = .agg (spotsA x) ∧ e.val = .bool true := fun e he => by
    have : (e.key, e.val) ∈ arr.toList.map (fun e => (e.key, e.val)) := List.mem_map.2 ⟨e, he, rfl⟩
    rw [h2] at this
    obtain ⟨x, hx, e2⟩ := List.mem_map.1 this
    simp only [Prod.mk.injEq] at e2
    exact ⟨x, hx, e2.1.symm, e2.2.symm⟩
  have hin : inSet l s = true ↔ ∃ x ∈ l, spotsA x = spotsA s := by
    unfold inSet
    rw [List.any_eq_true]
    simp only [sameSp_iff, spotsA_inj]
  rcases spotsKeyed.find w hx arr.toList (fun e he => by obtain ⟨x, hx, e1, _⟩ := hkeys e he; rw [e1]; exact keySpots x (h0 x hx)) with ⟨r1, r2⟩ | ⟨j, e, r1, r2, r3⟩
  · rw [if_neg]
    · exact r1
    · rw [hin]
      rintro ⟨x, hxl, hxe⟩
      have : (Value.agg (spotsA x), Value.bool true) ∈ arr.toList.map (fun e => (e.key, e.val)) := by rw [h2]; exact List.mem_map.2 ⟨x, hxl, rfl⟩
      obtain ⟨e, he, e2⟩ := List.mem_map.1 this
      simp only [Prod.mk.injEq] at e2
      exact r2 e he (by rw [e2.1, hxe])
  · obtain ⟨x, hxl, e1, e2⟩ := hkeys e (List.mem_of_getElem? r2)
    rw [if_pos]
    · exact ⟨j, by rw [← e2]; exact r1⟩
    · rw [hin]
      rw [r3] at e1
      injection e1 with e1
      exact ⟨x, hxl, e1.symm⟩
theorem SetP.lookup (h : SetP w b l) (s : Spots) (hs : PlacesOk s) : (Instr.lookup 86 (.map (some b)) (.agg (spotsA s)) false).run Try.prog w = .ok (.bool (inSet l s)) w := by
  obtain ⟨arr, clock, h1, h2, h3⟩ := h.find s hs
  obtain ⟨lx, hx⟩ := keySpots s hs
  have g := run_getObj_map1 (P := Try.prog) h1
  have hc := fun em => spotsKeyed.check w em hx
  have ht : Try.prog.underlying 86 = some (.map 74 4) := by kernel_rfl
  have hz : (zeroValue 4).run Try.prog w = .ok (.bool false) w := by kernel_rfl
  cases hi : inSet l s with
  | true =>
    rw [hi, if_pos rfl] at h3
    obtain ⟨j, h3⟩ := h3
    simp [Instr.lookup, run_underlying ht, g, hc, h3]
  | false =>
    rw [hi, if_neg (by decide)] at h3
    simp [Instr.lookup, run_underlying ht, g, hc, h3, hz]
theorem SetP.update (h : SetP w b l) (s : Spots) (hs : PlacesOk s) (hn : inSet l s = false) :
    ∃ w', (Instr.mapUpdate 86 (.map (some b)) (.agg (spotsA s)) (.bool true)).run Try.prog w = .ok () w' ∧ SetP w' b (l ++ [s]) ∧ Only b w w' := by
  have hlt := h.lt
  have h0 := h.1
  obtain ⟨arr, clock, h1, h2, h3⟩ := h.find s hs
  obtain ⟨lx, hx⟩ := keySpots s hs
  rw [hn, if_neg (by decide)] at h3
  have hc := fun em => spotsKeyed.check w em hx
  have hst := spotsKeyed.stays w hx
  have ht : Try.prog.underlying 86 = some (.map 74 4) := by kernel_rfl
  refine ⟨{ w with heap := w.heap.setIfInBounds b (.map (arr.push { key := .agg (spotsA s), val := .bool true, born := clock }) (clock + 1)) }, ?_, ?_, ?_⟩
  · simp [Instr.mapUpdate, run_underlying ht, hc, h3, run_getObj_map1 h1, run_setObj_map1 h1]
  · refine ⟨fun x hx => ?_, arr.push { key := .agg (spotsA s), val := .bool true, born := clock }, clock + 1, by simp [hlt], by simp [h2]⟩
    rcases List.mem_append.1 hx with hx | hx
    · exact h0 x hx
    · simp only [List.mem_singleton] at hx; subst hx; exact hs
  · refine ⟨rfl, rfl, rfl, by simp, fun k hk => ?_⟩
    simp only [Array.getElem?_setIfInBounds]
    rw [if_neg (Ne.symm hk)]
end
end Go.Proofs.Ytogobjmmgjfjjaa
