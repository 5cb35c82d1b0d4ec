/- What is proved: a map from strings to bools that a call makes, as a list of its keys: looking up, storing a new key. Conditions: the map's block holds just these keys, each with true. -/
import Derived.Test.YtogobjmmgjfjjaaLib
namespace Go.Proofs.Ytogobjmmgjfjjaa
open Go.RowKit

theorem beq_bytes (s x : ByteArray) : (s == x) = decide (s = x) := by
  show ByteArray.beq s x = _
  unfold ByteArray.beq
  by_cases h : s = x
  · subst h; simp
  · have : s.data ≠ x.data := fun e => h (ByteArray.ext e)
    simp [h, this]
theorem run_getObj_map1 {P : Program} {w : World} {r : Nat} {es : Array MapEntry} {clock : Nat} (hb : w.heap[r]? = some (.map es clock)) : (getObj r).run P w = .ok (.map es clock) w := by
  simp [getObj, Sem.run, hb]
theorem run_setObj_map1 {P : Program} {w : World} {r : Nat} {es es' : Array MapEntry} {clock clock' : Nat} (hb : w.heap[r]? = some (.map es clock)) : (setObj r (.map es' clock')).run P w = .ok () { w with heap := w.heap.setIfInBounds r (.map es' clock') } := by
  simp [setObj, Sem.run, hb]

/-- Block b is a map whose keys are l, each with true. -/
def SetS (w : World) (b : Nat) (l : List ByteArray) : Prop :=
  ∃ arr clock, w.heap[b]? = some (.map arr clock) ∧ arr.toList.map (fun e => (e.key, e.val)) = l.map fun s => (Value.string s, Value.bool true)

theorem SetS.made (w : World) : SetS (w.alloc (.map #[] 0)) w.heap.size [] := ⟨#[], 0, by rw [heap_alloc_new], rfl⟩
theorem SetS.keep {w w' : World} {b : Nat} {l : List ByteArray} (h : SetS w b l) (hk : w'.heap[b]? = w.heap[b]?) : SetS w' b l := by
  obtain ⟨arr, clock, h1, h2⟩ := h
  exact ⟨arr, clock, hk.trans h1, h2⟩
theorem SetS.lt {w : World} {b : Nat} {l : List ByteArray} (h : SetS w b l) : b < w.heap.size := by
  obtain ⟨arr, clock, h1, h2⟩ := h
  rcases Nat.lt_or_ge b w.heap.size with h | h
  · exact h
  · simp [Array.getElem?_eq_none h] at h1
theorem SetS.alloc {w : World} {b : Nat} {l : List ByteArray} (h : SetS w b l) (o : Obj) : SetS (w.alloc o) b l := h.keep (Below.heap_alloc w o b h.lt)

theorem findNow_keys (s : ByteArray) : ∀ (es : List MapEntry) (l : List ByteArray) (i : Nat), es.map (fun e => (e.key, e.val)) = l.map (fun s => (Value.string s, Value.bool true)) →
    (s ∉ l → Instr.findNow .string (.string s) es i = some none) ∧ (s ∈ l → ∃ j, Instr.findNow .string (.string s) es i = some (some (j, .bool true)))
  | [], [], i, _ => ⟨fun _ => rfl, fun h => by cases h⟩
  | [], _ :: _, _, h => by simp at h
  | _ :: _, [], _, h => by simp at h
  | e :: es, x :: l, i, h => by
    simp only [List.map_cons, List.cons.injEq, Prod.mk.injEq] at h
    obtain ⟨⟨hk, hv⟩, ht⟩ := h
    obtain ⟨h1, h2⟩ := findNow_keys s es l (i + 1) ht
    unfold Instr.findNow
    by_cases hs : s = x
    · subst hs
      simp [hk, Instr.sameNow, hv, beq_bytes]
    · have hb : (s == x) = false := by rw [beq_bytes]; simpa using hs
      simp only [hk, Instr.sameNow, hb]
      refine ⟨fun hm => h1 (fun hc => hm (List.mem_cons_of_mem _ hc)), fun hm => h2 ?_⟩
      rcases List.mem_cons.1 hm with h | h
      · exact absurd h hs
      · exact h

section
variable {P : Program} {t k e : TypeId} (ht : P.underlying t = some (.map k e)) (hk : P.underlying k = some .string)

theorem run_checkKey_string (hk : P.underlying k = some .string) (em : Bool) (s : ByteArray) (w : World) : (Instr.checkKey em 10000 k (.string s)).run P w = .ok () w := by
  rw [show (10000 : Nat) = 9999 + 1 from rfl, Instr.checkKey]
  simp [run_underlying hk]

theorem SetS.lookup {w : World} {b : Nat} {l : List ByteArray} (h : SetS w b l) (ht : P.underlying t = some (.map k e)) (hk : P.underlying k = some .string)
    (hz : (zeroValue e).run P w = .ok (.bool false) w) (s : ByteArray) : (Instr.lookup t (.map (some b)) (.string s) false).run P w = .ok (.bool (l.any fun x => decide (x = s))) w := by
  obtain ⟨arr, clock, h1, h2⟩ := h
  obtain ⟨f1, f2⟩ := findNow_keys s arr.toList l 0 h2
  have g := run_getObj_map1 (P := P) h1
  by_cases hs : s ∈ l
  · obtain ⟨j, hj⟩ := f2 hs
    have : (l.any fun x => decide (x = s)) = true := by simpa using hs
    rw [this]
    simp [Instr.lookup, run_underlying ht, run_checkKey_string hk, Instr.findKey, run_underlying hk, hj, g]
  · have hj := f1 hs
    have : (l.any fun x => decide (x = s)) = false := by rw [List.any_eq_false]; intro x hx; simp; rintro rfl; exact hs hx
    rw [this]
    simp [Instr.lookup, run_underlying ht, run_checkKey_string hk, Instr.findKey, run_underlying hk, hj, g, hz]

theorem SetS.update {w : World} {b : Nat} {l : List ByteArray} (h : SetS w b l) (ht : P.underlying t = some (.map k e)) (hk : P.underlying k = some .string)
    (s : ByteArray) (hs : s ∉ l) : ∃ w', (Instr.mapUpdate t (.map (some b)) (.string s) (.bool true)).run P w = .ok () w' ∧ SetS w' b (l ++ [s]) ∧ w'.heap.size = w.heap.size ∧ ∀ B, B ≤ b → Below B w w' := by
  have hlt := h.lt
  obtain ⟨arr, clock, h1, h2⟩ := h
  obtain ⟨f1, _⟩ := findNow_keys s arr.toList l 0 h2
  have hj := f1 hs
  refine ⟨{ w with heap := w.heap.setIfInBounds b (.map (arr.push { key := .string s, val := .bool true, born := clock }) (clock + 1)) }, ?_, ?_, ?_, ?_⟩
  · simp [Instr.mapUpdate, run_underlying ht, run_checkKey_string hk, Instr.findKey, run_underlying hk, hj, run_getObj_map1 h1, run_setObj_map1 h1]
  · exact ⟨arr.push { key := .string s, val := .bool true, born := clock }, clock + 1, by simp [hlt], by simp [h2]⟩
  · simp
  · intro B hB
    refine ⟨rfl, rfl, rfl, by simp, fun i hi => ?_⟩
    simp only [Array.getElem?_setIfInBounds]
    rw [if_neg (by omega)]
end
end Go.Proofs.Ytogobjmmgjfjjaa
