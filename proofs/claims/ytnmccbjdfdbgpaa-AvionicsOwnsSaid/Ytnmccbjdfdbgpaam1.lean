/- What is proved: the texts Lib Set Row Reg Reg2 Reg3 Q Q2 Sh Pa Pb Pc Pd Pe Pf, one behind the other; each says at its head what it proves, and under which conditions. -/
import Derived.WalkKit
import Derived.WalkSpells
import Derived.WalkLawsBesides
import Derived.Lib.Hide
import Derived.Orders
import Derived.BigQuiet
import Derived.Shelf.Sort.Plain
import Derived.Shelf.Bits.Mul64
import Derived.Ground.Names2Prog
import Derived.Shelf.Slices.SearchI
import Derived.Shelf.Slices.In.SortNone
import Derived.Test.YtnmccbjdfdbgpaaProg
/- What is proved: small lemmas on memory (a slice that reads as a list of rows of cells), over whatever program. Conditions: none beyond those that each lemma states. -/
namespace Go.Proofs.Ytnmccbjdfdbgpaa
open Go.RowKit

/-- The slice (its address 'A', its length 'n') lies below block 'B'; row i holds the k cells 'f i 0', .. -/
def Sl (w : World) (B k : Nat) (A : Option Addr) (n : Nat) (f : Nat → Nat → Value) : Prop :=
  n ≤ 9223372036854775807 ∧ (0 < n → ∃ b off, A = some ⟨b, off, none⟩ ∧ b < B ∧ ∀ i, i < n → ∀ j, j < k → w.cell? ⟨b, off + i * k + j, none⟩ = some (f i j))

theorem Sl.below {w w' : World} {B k n : Nat} {A : Option Addr} {f : Nat → Nat → Value} (h : Sl w B k A n f) (hb : Below B w w') : Sl w' B k A n f :=
  ⟨h.1, fun hn => by
    obtain ⟨b, off, e, hB, hc⟩ := h.2 hn
    exact ⟨b, off, e, hB, fun i hi j hj => (hb.cell (p := ⟨b, off + i * k + j, none⟩) hB).trans (hc i hi j hj)⟩⟩

theorem Sl.mono {w : World} {B B' k n : Nat} {A : Option Addr} {f : Nat → Nat → Value} (h : Sl w B k A n f) (hb : B ≤ B') : Sl w B' k A n f :=
  ⟨h.1, fun hn => by
    obtain ⟨b, off, e, hB, hc⟩ := h.2 hn
    exact ⟨b, off, e, by omega, hc⟩⟩

theorem Sl.nil (w : World) (B k : Nat) (A : Option Addr) (f : Nat → Nat → Value) : Sl w B k A 0 f := ⟨by omega, fun h => absurd h (by omega)⟩

/-- Do all of the first n satisfy q? -/
def allN (n : Nat) (q : Nat → Bool) : Bool := (List.range n).all q
/-- Does one of the first n satisfy q? Its place, or -1. -/
def idxN (n : Nat) (q : Nat → Bool) : Int := match (List.range n).find? q with | some i => (i : Int) | none => -1

theorem bcells {W w1 : World} {B : Nat} (hb : Below B W w1) : (∀ b o, b < B → w1.cell? ⟨b, o, none⟩ = W.cell? ⟨b, o, none⟩) ∧ (∀ b o, b < B → w1.frozen? ⟨b, o, none⟩ = W.frozen? ⟨b, o, none⟩) :=
  ⟨fun b o h => hb.cell (p := ⟨b, o, none⟩) h, fun b o h => hb.frozen (p := ⟨b, o, none⟩) h⟩
theorem below_drewN {B : Nat} {a w : World} (h : Below B a w) (n : Nat) : Below B a (w.drewN n) := ⟨h.os, h.tape, h.output, h.size, h.block⟩
theorem ret_bool {a b : Bool} (h : a = b) : Ending.returned (.bool a) = .returned (.bool b) := by rw [h]
theorem ret_int {k : IntKind} {a b : Int} (h : a = b) : Ending.returned (.int k a) = .returned (.int k b) := by rw [h]

/-- n is from a to b. -/
def inB (n a b : Int) : Bool := decide (a ≤ n) && decide (n ≤ b)

theorem find_range_none {n : Nat} {q : Nat → Bool} (h : ∀ i, i < n → q i = false) : (List.range n).find? q = none := by
  rw [List.find?_eq_none]; intro x hx; simp at hx; simp [h x hx]
theorem find_range_some {n k : Nat} {q : Nat → Bool} (hk : k < n) (h : ∀ i, i < k → q i = false) (hq : q k = true) : (List.range n).find? q = some k := by
  rw [List.find?_eq_some_iff_append]
  refine ⟨hq, List.range k, (List.range' (k+1) (n - (k+1))), ?_, ?_⟩
  · rw [List.range_eq_range', List.range_eq_range', show k :: List.range' (k+1) (n-(k+1)) = List.range' k (n - k) from by rw [show n - k = (n - (k+1)) + 1 from by omega, List.range'_succ]]
    rw [show List.range' k (n-k) = List.range' (0 + k) (n - k) from by simp, List.range'_append_1]; congr 1; omega
  · intro a ha; simp at ha; simp [h a ha]
theorem idxN_none {n : Nat} {q : Nat → Bool} (h : ∀ i, i < n → q i = false) : idxN n q = -1 := by unfold idxN; rw [find_range_none h]
theorem idxN_some {n k : Nat} {q : Nat → Bool} (hk : k < n) (h : ∀ i, i < k → q i = false) (hq : q k = true) : idxN n q = k := by unfold idxN; rw [find_range_some hk h hq]
theorem idxN_nonneg (n : Nat) (q : Nat → Bool) : decide (0 ≤ idxN n q) = !(allN n fun i => !q i) := by
  by_cases h : ∀ i, i < n → q i = false
  · rw [idxN_none h]; simp [allN]; intro i hi; exact h i hi
  · have : ∃ k, k < n ∧ q k = true ∧ ∀ i, i < k → q i = false := by
      have hex : ∃ k, k < n ∧ q k = true := by
        apply Classical.byContradiction; intro hc; apply h; intro i hi
        cases hq : q i
        · rfl
        · exact absurd ⟨i, hi, hq⟩ hc
      obtain ⟨k, hk⟩ := hex
      induction k using Nat.strongRecOn with
      | _ k ih =>
        by_cases hm : ∃ j, j < k ∧ q j = true
        · obtain ⟨j, hj, hqj⟩ := hm; exact ih j hj ⟨by omega, hqj⟩
        · refine ⟨k, hk.1, hk.2, fun i hi => ?_⟩
          cases hq : q i
          · rfl
          · exact absurd ⟨i, hi, hq⟩ hm
    obtain ⟨k, hk, hq, hl⟩ := this
    rw [idxN_some hk hl hq]
    have : (allN n fun i => !q i) = false := by
      unfold allN; rw [List.all_eq_false]; exact ⟨k, by simpa using hk, by simp [hq]⟩
    rw [this]; simp
theorem Sl.at1 {w : World} {B n i : Nat} {A : Option Addr} {f : Nat → Nat → Value} (h : Sl w B 1 A n f) (hi : i < n) :
    ∃ b off, A = some ⟨b, off, none⟩ ∧ b < B ∧ w.cell? ⟨b, off + i, none⟩ = some (f i 0) := by
  obtain ⟨b, off, rfl, hB, hc⟩ := h.2 (by omega)
  exact ⟨b, off, rfl, hB, by have := hc i hi 0 (by omega); simpa using this⟩
theorem Sl.at2 {w : World} {B n i : Nat} {A : Option Addr} {f : Nat → Nat → Value} (h : Sl w B 2 A n f) (hi : i < n) :
    ∃ b off, A = some ⟨b, off, none⟩ ∧ b < B ∧ w.cell? ⟨b, off + i * 2, none⟩ = some (f i 0) ∧ w.cell? ⟨b, off + i * 2 + 1, none⟩ = some (f i 1) := by
  obtain ⟨b, off, rfl, hB, hc⟩ := h.2 (by omega)
  exact ⟨b, off, rfl, hB, by have := hc i hi 0 (by omega); simpa using this, by have := hc i hi 1 (by omega); simpa using this⟩
theorem Sl.at3 {w : World} {B n i : Nat} {A : Option Addr} {f : Nat → Nat → Value} (h : Sl w B 3 A n f) (hi : i < n) :
    ∃ b off, A = some ⟨b, off, none⟩ ∧ b < B ∧ w.cell? ⟨b, off + i * 3, none⟩ = some (f i 0) ∧ w.cell? ⟨b, off + i * 3 + 1, none⟩ = some (f i 1) ∧ w.cell? ⟨b, off + i * 3 + 2, none⟩ = some (f i 2) := by
  obtain ⟨b, off, rfl, hB, hc⟩ := h.2 (by omega)
  exact ⟨b, off, rfl, hB, by have := hc i hi 0 (by omega); simpa using this, by have := hc i hi 1 (by omega); simpa using this, by have := hc i hi 2 (by omega); simpa using this⟩
theorem Sl.at4 {w : World} {B n i : Nat} {A : Option Addr} {f : Nat → Nat → Value} (h : Sl w B 4 A n f) (hi : i < n) :
    ∃ b off, A = some ⟨b, off, none⟩ ∧ b < B ∧ w.cell? ⟨b, off + i * 4, none⟩ = some (f i 0) ∧ w.cell? ⟨b, off + i * 4 + 1, none⟩ = some (f i 1) ∧ w.cell? ⟨b, off + i * 4 + 2, none⟩ = some (f i 2) ∧ w.cell? ⟨b, off + i * 4 + 3, none⟩ = some (f i 3) := by
  obtain ⟨b, off, rfl, hB, hc⟩ := h.2 (by omega)
  exact ⟨b, off, rfl, hB, by have := hc i hi 0 (by omega); simpa using this, by have := hc i hi 1 (by omega); simpa using this, by have := hc i hi 2 (by omega); simpa using this, by have := hc i hi 3 (by omega); simpa using this⟩
theorem Sl.at5 {w : World} {B n i : Nat} {A : Option Addr} {f : Nat → Nat → Value} (h : Sl w B 5 A n f) (hi : i < n) :
    ∃ b off, A = some ⟨b, off, none⟩ ∧ b < B ∧ w.cell? ⟨b, off + i * 5, none⟩ = some (f i 0) ∧ w.cell? ⟨b, off + i * 5 + 1, none⟩ = some (f i 1) ∧ w.cell? ⟨b, off + i * 5 + 2, none⟩ = some (f i 2) ∧ w.cell? ⟨b, off + i * 5 + 3, none⟩ = some (f i 3) ∧ w.cell? ⟨b, off + i * 5 + 4, none⟩ = some (f i 4) := by
  obtain ⟨b, off, rfl, hB, hc⟩ := h.2 (by omega)
  exact ⟨b, off, rfl, hB, by have := hc i hi 0 (by omega); simpa using this, by have := hc i hi 1 (by omega); simpa using this, by have := hc i hi 2 (by omega); simpa using this, by have := hc i hi 3 (by omega); simpa using this, by have := hc i hi 4 (by omega); simpa using this⟩
end Go.Proofs.Ytnmccbjdfdbgpaa
/- What is proved: a map from strings to bools that a call makes, as a list of its keys: looking up, storing a new key. Conditions: the map's block holds just these keys, each with true. -/
namespace Go.Proofs.Ytnmccbjdfdbgpaa
open Go.RowKit

theorem beq_bytes (s x : ByteArray) : (s == x) = decide (s = x) := by
  show ByteArray.beq s x = _
  unfold ByteArray.beq
  by_cases h : s = x
  · subst h; simp
  · have : s.data ≠ x.data := fun e => h (ByteArray.ext e)
    simp [h, this]
theorem run_getObj_map1 {P : Program} {w : World} {r : Nat} {es : Array MapEntry} {clock : Nat} (hb : w.heap[r]? = some (.map es clock)) : (getObj r).run P w = .ok (.map es clock) w := by
  simp [getObj, Sem.run, hb]
theorem run_setObj_map1 {P : Program} {w : World} {r : Nat} {es es' : Array MapEntry} {clock clock' : Nat} (hb : w.heap[r]? = some (.map es clock)) : (setObj r (.map es' clock')).run P w = .ok () { w with heap := w.heap.setIfInBounds r (.map es' clock') } := by
  simp [setObj, Sem.run, hb]

/-- Block b is a map whose keys are l, each with true. -/
def SetS (w : World) (b : Nat) (l : List ByteArray) : Prop :=
  ∃ arr clock, w.heap[b]? = some (.map arr clock) ∧ arr.toList.map (fun e => (e.key, e.val)) = l.map fun s => (Value.string s, Value.bool true)

theorem SetS.made (w : World) : SetS (w.alloc (.map #[] 0)) w.heap.size [] := ⟨#[], 0, by rw [heap_alloc_new], rfl⟩
theorem SetS.keep {w w' : World} {b : Nat} {l : List ByteArray} (h : SetS w b l) (hk : w'.heap[b]? = w.heap[b]?) : SetS w' b l := by
  obtain ⟨arr, clock, h1, h2⟩ := h
  exact ⟨arr, clock, hk.trans h1, h2⟩
theorem SetS.lt {w : World} {b : Nat} {l : List ByteArray} (h : SetS w b l) : b < w.heap.size := by
  obtain ⟨arr, clock, h1, h2⟩ := h
  rcases Nat.lt_or_ge b w.heap.size with h | h
  · exact h
  · simp [Array.getElem?_eq_none h] at h1
theorem SetS.alloc {w : World} {b : Nat} {l : List ByteArray} (h : SetS w b l) (o : Obj) : SetS (w.alloc o) b l := h.keep (Below.heap_alloc w o b h.lt)

theorem findNow_keys (s : ByteArray) : ∀ (es : List MapEntry) (l : List ByteArray) (i : Nat), es.map (fun e => (e.key, e.val)) = l.map (fun s => (Value.string s, Value.bool true)) →
    (s ∉ l → Instr.findNow .string (.string s) es i = some none) ∧ (s ∈ l → ∃ j, Instr.findNow .string (.string s) es i = some (some (j, .bool true)))
  | [], [], i, _ => ⟨fun _ => rfl, fun h => by cases h⟩
  | [], _ :: _, _, h => by simp at h
  | _ :: _, [], _, h => by simp at h
  | e :: es, x :: l, i, h => by
    simp only [List.map_cons, List.cons.injEq, Prod.mk.injEq] at h
    obtain ⟨⟨hk, hv⟩, ht⟩ := h
    obtain ⟨h1, h2⟩ := findNow_keys s es l (i + 1) ht
    unfold Instr.findNow
    by_cases hs : s = x
    · subst hs
      simp [hk, Instr.sameNow, hv, beq_bytes]
    · have hb : (s == x) = false := by rw [beq_bytes]; simpa using hs
      simp only [hk, Instr.sameNow, hb]
      refine ⟨fun hm => h1 (fun hc => hm (List.mem_cons_of_mem _ hc)), fun hm => h2 ?_⟩
      rcases List.mem_cons.1 hm with h | h
      · exact absurd h hs
      · exact h

section
variable {P : Program} {t k e : TypeId} (ht : P.underlying t = some (.map k e)) (hk : P.underlying k = some .string)

theorem run_checkKey_string (hk : P.underlying k = some .string) (em : Bool) (s : ByteArray) (w : World) : (Instr.checkKey em 10000 k (.string s)).run P w = .ok () w := by
  rw [show (10000 : Nat) = 9999 + 1 from rfl, Instr.checkKey]
  simp [run_underlying hk]

theorem SetS.lookup {w : World} {b : Nat} {l : List ByteArray} (h : SetS w b l) (ht : P.underlying t = some (.map k e)) (hk : P.underlying k = some .string)
    (hz : (zeroValue e).run P w = .ok (.bool false) w) (s : ByteArray) : (Instr.lookup t (.map (some b)) (.string s) false).run P w = .ok (.bool (l.any fun x => decide (x = s))) w := by
  obtain ⟨arr, clock, h1, h2⟩ := h
  obtain ⟨f1, f2⟩ := findNow_keys s arr.toList l 0 h2
  have g := run_getObj_map1 (P := P) h1
  by_cases hs : s ∈ l
  · obtain ⟨j, hj⟩ := f2 hs
    have : (l.any fun x => decide (x = s)) = true := by simpa using hs
    rw [this]
    simp [Instr.lookup, run_underlying ht, run_checkKey_string hk, Instr.findKey, run_underlying hk, hj, g]
  · have hj := f1 hs
    have : (l.any fun x => decide (x = s)) = false := by rw [List.any_eq_false]; intro x hx; simp; rintro rfl; exact hs hx
    rw [this]
    simp [Instr.lookup, run_underlying ht, run_checkKey_string hk, Instr.findKey, run_underlying hk, hj, g, hz]

theorem SetS.update {w : World} {b : Nat} {l : List ByteArray} (h : SetS w b l) (ht : P.underlying t = some (.map k e)) (hk : P.underlying k = some .string)
    (s : ByteArray) (hs : s ∉ l) : ∃ w', (Instr.mapUpdate t (.map (some b)) (.string s) (.bool true)).run P w = .ok () w' ∧ SetS w' b (l ++ [s]) ∧ w'.heap.size = w.heap.size ∧ ∀ B, B ≤ b → Below B w w' := by
  have hlt := h.lt
  obtain ⟨arr, clock, h1, h2⟩ := h
  obtain ⟨f1, _⟩ := findNow_keys s arr.toList l 0 h2
  have hj := f1 hs
  refine ⟨{ w with heap := w.heap.setIfInBounds b (.map (arr.push { key := .string s, val := .bool true, born := clock }) (clock + 1)) }, ?_, ?_, ?_, ?_⟩
  · simp [Instr.mapUpdate, run_underlying ht, run_checkKey_string hk, Instr.findKey, run_underlying hk, hj, run_getObj_map1 h1, run_setObj_map1 h1]
  · exact ⟨arr.push { key := .string s, val := .bool true, born := clock }, clock + 1, by simp [hlt], by simp [h2]⟩
  · simp
  · intro B hB
    refine ⟨rfl, rfl, rfl, by simp, fun i hi => ?_⟩
    simp only [Array.getElem?_setIfInBounds]
    rw [if_neg (by omega)]
end
end Go.Proofs.Ytnmccbjdfdbgpaa
/- What is proved: laws for a load, a store and a result of several cells, at a block that is known whole. Conditions: those that each law states. -/
namespace Go.Proofs.Ytnmccbjdfdbgpaa
open Go.RowKit

/-- Block g is just the cells cs, of type t, none frozen. -/
def Bk (w : World) (g : Nat) (t : TypeId) (cs : Array Value) : Prop := w.heap[g]? = some (.cells cs t (0, 0))

section
variable {w w' : World} {g : Nat} {t : TypeId} {cs : Array Value}
theorem Bk.lt (h : Bk w g t cs) : g < w.heap.size := by
  rcases Nat.lt_or_ge g w.heap.size with h1 | h1
  · exact h1
  · unfold Bk at h; rw [Array.getElem?_eq_none h1] at h; cases h
theorem Bk.cell (h : Bk w g t cs) (i : Nat) : w.cell? ⟨g, i, none⟩ = cs[i]? := cell_of_row w g i cs t (0, 0) h
theorem Bk.free (h : Bk w g t cs) (i : Nat) : w.frozen? ⟨g, i, none⟩ = false := by unfold Bk at h; simp [World.frozen?, h]
theorem Bk.new (w : World) (t : TypeId) (cs : Array Value) : Bk (w.alloc (.cells cs t)) w.heap.size t cs := heap_alloc_new w _
theorem Bk.newAt (w : World) (t : TypeId) (cs : Array Value) (n : Nat) (hn : n = w.heap.size) : Bk (w.alloc (.cells cs t)) n t cs := by subst hn; exact Bk.new w t cs
theorem Bk.alloc (h : Bk w g t cs) (o : Obj) : Bk (w.alloc o) g t cs := (Below.heap_alloc w o g h.lt).trans h
theorem Bk.set (h : Bk w g t cs) (i : Nat) (u : Value) : Bk (w.setCell ⟨g, i, none⟩ u) g t (cs.setIfInBounds i u) := by
  unfold Bk at h ⊢
  simp [World.setCell, Array.getElem?_modify, h]
theorem Bk.far (h : Bk w g t cs) {p : Addr} (hp : g ≠ p.block) (u : Value) : Bk (w.setCell p u) g t cs := (Below.heap_setCell w p u g hp).trans h
theorem Bk.below {B : Nat} (h : Bk w g t cs) (hb : Below B w w') (hg : g < B) : Bk w' g t cs := (hb.block g hg).trans h
theorem Bk.drewN (h : Bk w g t cs) (n : Nat) : Bk (w.drewN n) g t cs := h
end

/-- cs with S written over it from place o on. -/
def splA (cs : Array Value) (o : Nat) : List Value → Array Value
  | [] => cs
  | u :: S => splA (cs.setIfInBounds o u) (o + 1) S
theorem splA_size (S : List Value) : ∀ (cs : Array Value) (o : Nat), (splA cs o S).size = cs.size := by
  induction S with
  | nil => intro cs o; rfl
  | cons u S ih => intro cs o; simp [splA, ih]
theorem splA_get (S : List Value) : ∀ (cs : Array Value) (o i : Nat), o + S.length ≤ cs.size → (splA cs o S)[i]? = if o ≤ i ∧ i < o + S.length then S[i - o]? else cs[i]? := by
  induction S with
  | nil => intro cs o i _; simp [splA]; intro h1 h2; omega
  | cons u S ih =>
    intro cs o i h
    simp only [List.length_cons] at h
    rw [splA, ih _ _ _ (by simp; omega)]
    simp only [List.length_cons, Array.getElem?_setIfInBounds]
    by_cases h1 : o + 1 ≤ i ∧ i < o + 1 + S.length
    · rw [if_pos h1, if_pos (by omega), show i - o = (i - (o + 1)) + 1 from by omega, List.getElem?_cons_succ]
    · rw [if_neg h1]
      by_cases h2 : i = o
      · subst h2; rw [if_pos rfl, if_pos (by omega), if_pos (by omega)]; simp
      · rw [if_neg (by omega), if_neg (by omega)]

/-- w' is w but that block g has turned. -/
structure Only (g : Nat) (w w' : World) : Prop where
  os : w'.os = w.os
  tape : w'.tape = w.tape
  output : w'.output = w.output
  size : w'.heap.size = w.heap.size
  block : ∀ k, k ≠ g → w'.heap[k]? = w.heap[k]?
theorem Only.refl (g : Nat) (w : World) : Only g w w := ⟨rfl, rfl, rfl, rfl, fun _ _ => rfl⟩
theorem Only.trans {g : Nat} {a b c : World} (h : Only g a b) (k : Only g b c) : Only g a c :=
  ⟨k.os.trans h.os, k.tape.trans h.tape, k.output.trans h.output, k.size.trans h.size, fun i hi => (k.block i hi).trans (h.block i hi)⟩
theorem Only.setCell (w : World) (g i : Nat) (u : Value) : Only g w (w.setCell ⟨g, i, none⟩ u) := ⟨rfl, rfl, rfl, by simp, fun k hk => Below.heap_setCell w _ u k hk⟩
theorem Only.below {g B : Nat} {w w' : World} (h : Only g w w') (hB : B ≤ g) : Below B w w' := ⟨h.os, h.tape, h.output, by rw [h.size]; exact Nat.le_refl _, fun k hk => h.block k (by omega)⟩
theorem Bk.only {w w' : World} {g g' : Nat} {t : TypeId} {cs : Array Value} (h : Bk w g t cs) (ho : Only g' w w') (hne : g ≠ g') : Bk w' g t cs := (ho.block g hne).trans h

section
variable {P : Program}
theorem run_storeCells_row (t : TypeId) (g : Nat) : ∀ (S : List Value) (w : World) (cs : Array Value) (o i : Nat), Bk w g t cs → o + i + S.length ≤ cs.size → (∀ u ∈ S, u.oneCell' = true) →
    ∃ w', (storeCells ⟨g, o, none⟩ S i).run P w = .ok () w' ∧ Bk w' g t (splA cs (o + i) S) ∧ Only g w w'
  | [], w, cs, o, i, h, _, _ => ⟨w, by simp [storeCells], h, Only.refl g w⟩
  | u :: S, w, cs, o, i, h, hl, h1 => by
    simp only [List.length_cons] at hl
    have hc : (w.cell? ⟨g, o + i, none⟩).isSome = true := by rw [h.cell]; simp; omega
    have hst : (store ⟨g, o + i, none⟩ u).run P w = .ok () (w.setCell ⟨g, o + i, none⟩ u) := by
      have hu := h1 u (List.mem_cons_self ..)
      obtain ⟨x, hx⟩ := Option.isSome_iff_exists.1 hc
      have hf := h.free (o + i)
      unfold store
      cases u <;> simp_all [Sem.run, Value.oneCell']
    obtain ⟨w', r1, r2, r3⟩ := run_storeCells_row t g S (w.setCell ⟨g, o + i, none⟩ u) (cs.setIfInBounds (o + i) u) o (i + 1) (h.set _ _) (by simp; omega) (fun x hx => h1 x (List.mem_cons_of_mem _ hx))
    refine ⟨w', ?_, ?_, (Only.setCell w g (o + i) u).trans r3⟩
    · simp only [storeCells, Sem.run_bind, Addr.add_lit, hst, Result.andThen_ok]
      exact r1
    · rw [splA]; exact r2

theorem run_loadVar_at (w : World) (g o : Nat) (ty : TypeId) (S : Array Value) (d : TypeDesc) (hc : ∀ j u, S[j]? = some u → w.cell? ⟨g, o + j, none⟩ = some u)
    (hu : P.underlying ty = some d) (hd : (match d with | .struct _ | .array _ _ => true | _ => false) = true) (hi : (P.info? ty).map (·.size) = some S.size) :
    (loadVar ty ⟨g, o, none⟩).run P w = .ok (.agg S) w := by
  have hl : (loadCells ⟨g, o, none⟩ S.toList.length).run P w = .ok S.toList.toArray w :=
    run_loadCells_list (P := P) w ⟨g, o, none⟩ S.toList (fun j v hv => by
      rw [Addr.add_lit]
      exact hc j v (by simpa using hv))
  cases hq : P.info? ty with
  | none => simp [hq] at hi
  | some i =>
    have hs : i.size = S.size := by simpa [hq] using hi
    have hagg : (isAgg ty).run P w = .ok true w := by
      unfold isAgg
      rw [Sem.run_bind, run_underlying hu w]
      cases d <;> simp_all
    simp only [Array.length_toList, Array.toArray_toList] at hl
    simp [loadVar, Sem.run_bind, hagg, sizeOf, typeInfo, hq, hs, hl]

theorem run_storeVar_at (w : World) (g o : Nat) (t ty : TypeId) (cs S : Array Value) (h : Bk w g t cs) (hl : o + S.size ≤ cs.size) (h1 : ∀ u ∈ S.toList, u.oneCell' = true) (hi : (P.info? ty).map (·.size) = some S.size) :
    ∃ w', (storeVar ty ⟨g, o, none⟩ (.agg S)).run P w = .ok () w' ∧ Bk w' g t (splA cs o S.toList) ∧ Only g w w' := by
  obtain ⟨w', r1, r2, r3⟩ := run_storeCells_row (P := P) t g S.toList w cs o 0 h (by simpa using hl) h1
  refine ⟨w', ?_, by simpa using r2, r3⟩
  cases hq : P.info? ty with
  | none => simp [hq] at hi
  | some i =>
    have hs : i.size = S.size := by simpa [hq] using hi
    simp [storeVar, Sem.run_bind, Value.cells, sizeOf, typeInfo, hq, hs, r1]

/-- A load of several cells. -/
theorem wpLoadAt {ops : Array Oper} {rest : List Oper} {o : Oper} {a : Act} {w : World} {Q : Exit → Act → World → Prop} (hgd : o.guard = none) (ty : TypeId) (x : Operand) (ho : o.op = .load ty x)
    (g off : Nat) (hx : a.eval x = .pointer (some ⟨g, off, none⟩)) (S : Array Value) (d : TypeDesc) (hc : ∀ j u, S[j]? = some u → w.cell? ⟨g, off + j, none⟩ = some u)
    (hu : P.underlying ty = some d) (hd : (match d with | .struct _ | .array _ _ => true | _ => false) = true) (hi : (P.info? ty).map (·.size) = some S.size)
    (h : wpList P ops Q rest (a.put o.dst (.agg S)) w) : wpList P ops Q (o :: rest) a w :=
  wpList_plain hgd fun _ hK => by
    unfold Oper.wp execOp
    simp only [ho, hx, Instr.loadAt, Instr.sureAddr, Sem.run_bind, Sem.run_pure, Result.andThen_ok, run_loadVar_at w g off ty S d hc hu hd hi]
    exact hK _ _ h

/-- A store of several cells into a block that is known whole. -/
theorem wpStoreAt {ops : Array Oper} {rest : List Oper} {o : Oper} {a : Act} {w : World} {Q : Exit → Act → World → Prop} (hgd : o.guard = none) (hdst : o.dst = none) (ty : TypeId) (x y : Operand) (ho : o.op = .store ty x y)
    (g off : Nat) (hx : a.eval x = .pointer (some ⟨g, off, none⟩)) (S : Array Value) (hy : a.eval y = .agg S) (t : TypeId) (cs : Array Value) (hb : Bk w g t cs)
    (hl : off + S.size ≤ cs.size) (h1 : ∀ u ∈ S.toList, u.oneCell' = true) (hi : (P.info? ty).map (·.size) = some S.size)
    (h : ∀ w', Bk w' g t (splA cs off S.toList) → Only g w w' → wpList P ops Q rest a w') : wpList P ops Q (o :: rest) a w :=
  wpList_plain hgd fun _ hK => by
    obtain ⟨w', r1, r2, r3⟩ := run_storeVar_at (P := P) w g off t ty cs S hb hl h1 hi
    unfold Oper.wp execOp
    simp only [ho, hx, hy, Instr.storeAt, Instr.sureAddr, Sem.run_bind, Sem.run_pure, Result.andThen_ok, r1]
    have := hK _ _ (h w' r2 r3)
    simpa [Oper.upon, hdst, Act.put] using this

theorem results_cellS {fn : Func} {p : Tmp} {ty : TypeId} (h : fn.results = #[.cell p ty]) (tmps : Array Value) (w : World) (g : Nat) (t : TypeId) (cs : Array Value) (d : TypeDesc)
    (hp : tmps.getD p undef = .pointer (some ⟨g, 0, none⟩)) (hg : Bk w g t cs)
    (hu : P.underlying ty = some d) (hd : (match d with | .struct _ | .array _ _ => true | _ => false) = true) (hi : (P.info? ty).map (·.size) = some cs.size) :
    (results fn tmps).run P w = .ok (.agg cs) w := results_cell_row h tmps w g t cs (0, 0) d hp hg hu hd hi
theorem results_cellS_tmp {fn : Func} {p u : Tmp} {ty : TypeId} (h : fn.results = #[.cell p ty, .tmp u]) (tmps : Array Value) (w : World) (g : Nat) (t : TypeId) (cs : Array Value) (d : TypeDesc)
    (hp : tmps.getD p undef = .pointer (some ⟨g, 0, none⟩)) (hg : Bk w g t cs)
    (hu : P.underlying ty = some d) (hd : (match d with | .struct _ | .array _ _ => true | _ => false) = true) (hi : (P.info? ty).map (·.size) = some cs.size) :
    (results fn tmps).run P w = .ok (.tuple #[.agg cs, tmps.getD u undef]) w := by
  have hl := run_loadVar_at (P := P) w g 0 ty cs d (fun j v hj => by rw [Nat.zero_add, hg.cell]; exact hj) hu hd hi
  have hp' : tmps[p]?.getD undef = .pointer (some ⟨g, 0, none⟩) := by simpa using hp
  simp [results, h, hp', asAddr, hl]
end
end Go.Proofs.Ytnmccbjdfdbgpaa
/- What is proved: a rule for a region whose order is drawn: what each operation leaves is stated once, and holds in whatever order they come up. Conditions: those that the rule states. -/
namespace Go.Proofs.Ytnmccbjdfdbgpaa
open Go.RowKit

/-- Does this operation wait for operation j? -/
def afterB (o : Oper) (j : Nat) : Bool := o.after.toList.any fun e => Region.binds .any e && e.on == j
def afterI (l : List Oper) (i j : Nat) : Bool := match l[i]? with | some o => afterB o j | none => false
/-- Does operation i wait for j, at however many removes? -/
def ancB (l : List Oper) : Nat → Nat → Nat → Bool
  | 0, _, _ => false
  | n + 1, i, j => (List.range l.length).any fun k => afterI l i k && (k == j || ancB l n k j)
def maskV (o : Oper) (vs : Nat → Value) : Nat → Value := fun j => if afterB o j then vs j else undef
def vsOf (l : List Oper) (a : Act) : Nat → Value := fun j => match l[j]? with | some o => (match o.dst with | some d => a.tmps.getD d undef | none => undef) | none => undef
def putAll : List Oper → (Nat → Value) → Nat → Act → Act
  | [], _, _, a => a
  | o :: l, vs, i, a => putAll l vs (i + 1) (a.put o.dst (vs i))
/-- No slot is written twice; each operation waits for earlier ones alone; slots lie in the frame. -/
def regB (l : List Oper) (n : Nat) : Bool :=
  (List.range l.length).all fun i => match l[i]? with
    | none => true
    | some o => (o.after.toList.all fun e => !Region.binds .any e || decide (e.on < i)) && (match o.dst with
      | none => true
      | some d => decide (d < n) && (List.range i).all fun j => match l[j]? with | some o' => o'.dst != some d | none => true)
/-- Nobody who may have come up ahead of operation i writes slot t. -/
def keepB (l : List Oper) (i t : Nat) : Bool :=
  (List.range l.length).all fun j => match l[j]? with | some o => o.dst != some t || j == i || afterB o i | none => true

section
variable {l : List Oper} {n : Nat}
theorem regB_after (h : regB l n = true) {i : Nat} {o : Oper} (hi : l[i]? = some o) {e : Edge} (he : e ∈ o.after) (hb : Region.binds .any e = true) : e.on < i := by
  unfold regB at h
  rw [List.all_eq_true] at h
  have hlt := (List.getElem?_eq_some_iff.1 hi).1
  have h1 := h i (by simpa using hlt)
  simp only [hi, Bool.and_eq_true, List.all_eq_true, decide_eq_true_eq, Bool.or_eq_true, Bool.not_eq_true'] at h1
  exact (h1.1 e (Array.mem_toList_iff.2 he)).resolve_left (by rw [hb]; simp)
theorem regB_dst (h : regB l n = true) {i : Nat} {o : Oper} (hi : l[i]? = some o) {d : Nat} (hd : o.dst = some d) : d < n ∧ ∀ j o', j < i → l[j]? = some o' → o'.dst ≠ some d := by
  unfold regB at h
  rw [List.all_eq_true] at h
  have hlt := (List.getElem?_eq_some_iff.1 hi).1
  have h1 := h i (by simpa using hlt)
  simp only [hi, hd, Bool.and_eq_true, decide_eq_true_eq, List.all_eq_true, List.mem_range] at h1
  refine ⟨h1.2.1, fun j o' hj ho' => ?_⟩
  have := h1.2.2 j hj
  simp only [ho'] at this
  simpa using this
theorem regB_ne (h : regB l n = true) {i j : Nat} {o o' : Oper} (hi : l[i]? = some o) (hj : l[j]? = some o') {d : Nat} (hd : o.dst = some d) (hd' : o'.dst = some d) : i = j := by
  rcases Nat.lt_trichotomy i j with h1 | h1 | h1
  · exact absurd hd ((regB_dst h hj hd').2 i o h1 hi)
  · exact h1
  · exact absurd hd' ((regB_dst h hi hd).2 j o' h1 hj)

theorem afterB_lt (h : regB l n = true) {i j : Nat} {o : Oper} (hi : l[i]? = some o) (ha : afterB o j = true) : j < i := by
  unfold afterB at ha
  rw [List.any_eq_true] at ha
  obtain ⟨e, he, hh⟩ := ha
  simp only [Bool.and_eq_true, beq_iff_eq] at hh
  have := regB_after h hi (Array.mem_toList_iff.1 he) hh.1
  omega

theorem put_getD (a : Act) (d t : Nat) (v : Value) : (a.put (some d) v).tmps.getD t undef = if t = d ∧ d < a.tmps.size then v else a.tmps.getD t undef := by
  simp only [Act.put, Array.getD_eq_getD_getElem?, Array.getElem?_setIfInBounds]
  by_cases h1 : d = t
  · subst h1
    by_cases h2 : d < a.tmps.size
    · simp [h2]
    · simp [h2]
  · simp [h1, Ne.symm h1]
theorem put_size (a : Act) (d : Option Nat) (v : Value) : (a.put d v).tmps.size = a.tmps.size := by cases d <;> simp [Act.put]
theorem put_defers (a : Act) (d : Option Nat) (v : Value) : (a.put d v).defers = a.defers := by cases d <;> rfl

theorem vsOf_put (h : regB l n = true) {a : Act} {i : Nat} {o : Oper} (hi : l[i]? = some o) (v : Value) {k : Nat} (hk : k ≠ i) : vsOf l (a.put o.dst v) k = vsOf l a k := by
  unfold vsOf
  cases hlk : l[k]? with
  | none => rfl
  | some o' =>
    cases hd' : o'.dst with
    | none => simp only [hd']
    | some d' =>
      cases hd : o.dst with
      | none => rfl
      | some d =>
        simp only [hd']
        rw [put_getD, if_neg]
        rintro ⟨rfl, _⟩
        exact hk (regB_ne h hlk hi hd' hd)
theorem vsOf_put_same {a : Act} {i : Nat} {o : Oper} (hi : l[i]? = some o) (v : Value) (hv : o.dst = none → v = undef) (hd : ∀ d, o.dst = some d → d < a.tmps.size) : vsOf l (a.put o.dst v) i = v := by
  unfold vsOf
  simp only [hi]
  cases hd' : o.dst with
  | none => exact (hv hd').symm
  | some d =>
    simp only
    rw [put_getD, if_pos ⟨rfl, hd d hd'⟩]

theorem putAll_size (l : List Oper) : ∀ (vs : Nat → Value) (i : Nat) (a : Act), (putAll l vs i a).tmps.size = a.tmps.size ∧ (putAll l vs i a).defers = a.defers := by
  induction l with
  | nil => intro vs i a; exact ⟨rfl, rfl⟩
  | cons o l ih => intro vs i a; rw [putAll]; obtain ⟨h1, h2⟩ := ih vs (i + 1) (a.put o.dst (vs i)); exact ⟨h1.trans (put_size ..), h2.trans (put_defers ..)⟩
theorem putAll_other (l : List Oper) (t : Nat) : ∀ (vs : Nat → Value) (i : Nat) (a : Act), (∀ (j : Nat) (o : Oper), l[j]? = some o → o.dst ≠ some t) → (putAll l vs i a).tmps.getD t undef = a.tmps.getD t undef := by
  induction l with
  | nil => intro vs i a _; rfl
  | cons o l ih =>
    intro vs i a h
    rw [putAll, ih vs (i + 1) _ (fun j o' hj => h (j + 1) o' (by simpa using hj))]
    cases hd : o.dst with
    | none => rfl
    | some d => rw [put_getD, if_neg]; rintro ⟨rfl, _⟩; exact h 0 o rfl hd
theorem putAll_at (l : List Oper) (t : Nat) : ∀ (vs : Nat → Value) (i : Nat) (a : Act) (j : Nat) (o : Oper), l[j]? = some o → o.dst = some t → t < a.tmps.size → (∀ (j' : Nat) (o' : Oper), j < j' → l[j']? = some o' → o'.dst ≠ some t) →
    (putAll l vs i a).tmps.getD t undef = vs (i + j) := by
  induction l with
  | nil => intro vs i a j o h; simp at h
  | cons x l ih =>
    intro vs i a j o hj hd ht hl
    rw [putAll]
    cases j with
    | zero =>
      simp at hj; subst hj
      rw [putAll_other l t vs (i + 1) _ (fun j' o' hj' => hl (j' + 1) o' (by omega) (by simpa using hj')), hd, put_getD, if_pos ⟨rfl, ht⟩]; rfl
    | succ j =>
      rw [ih vs (i + 1) _ j o (by simpa using hj) hd (by rw [put_size]; exact ht) (fun j' o' h1 h2 => hl (j' + 1) o' (by omega) (by simpa using h2))]
      congr 1; omega

def updB (d : Nat → Bool) (i : Nat) : Nat → Bool := fun k => if k = i then true else d k
def updV (vs : Nat → Value) (i : Nat) (v : Value) : Nat → Value := fun k => if k = i then v else vs k
theorem anc_listed {listed : Nat → Bool} (hcl : ∀ i o, l[i]? = some o → listed i = true → ∀ j, afterB o j = true → listed j = true) :
    ∀ (m i j : Nat), listed i = true → ancB l m i j = true → listed j = true
  | 0, _, _, _, h => by simp [ancB] at h
  | m + 1, i, j, hi, h => by
    unfold ancB at h
    rw [List.any_eq_true] at h
    obtain ⟨k, _, hk⟩ := h
    simp only [Bool.and_eq_true, Bool.or_eq_true, beq_iff_eq] at hk
    obtain ⟨h1, h2⟩ := hk
    have hlk : listed k = true := by
      unfold afterI at h1
      cases hl : l[i]? with
      | none => simp [hl] at h1
      | some o => simp only [hl] at h1; exact hcl i o hl hi k h1
    rcases h2 with rfl | h2
    · exact hlk
    · exact anc_listed hcl m k j hlk h2
end

section
variable {P : Program} {l : List Oper} {Q : Exit → Act → World → Prop} {a0 : Act}

/-- **A REGION WHOSE ORDER IS DRAWN.** R i v d w: what operation i leaves: its value v, by the values d of those that it waits for, in the world w. E j w w': what operation j does to the world. J: what holds of the world throughout, by which operations are done and what they have left. -/
theorem wp_region_extJ {id : Nat} {w0 : World} (hm : P.follows .mixedOrders = true) (hB : regB l a0.tmps.size = true)
    (J : (Nat → Bool) → (Nat → Value) → World → Prop) (E : Nat → World → World → Prop) (R : Nat → Value → (Nat → Value) → World → Prop) (hJ : ∀ vs, J (fun _ => false) vs w0.drew)
    (hR : ∀ i j, i ≠ j → ancB l l.length i j = false → ∀ v d w w', R i v d w → E j w w' → R i v d w')
    (hstep : ∀ i o, l[i]? = some o → ∀ (a : Act) (w : World) (vs : Nat → Value) (dn : Nat → Bool), a.defers = a0.defers → a.tmps.size = a0.tmps.size → (∀ m, dn m = true → i ≠ m ∧ ancB l l.length m i = false) → (∀ j, afterB o j = true → dn j = true) → J dn vs w → (∀ t, keepB l i t = true → a.tmps.getD t undef = a0.tmps.getD t undef) →
      (∀ j oj d, afterB o j = true → l[j]? = some oj → oj.dst = some d → a.tmps.getD d undef = vs j) → (∀ j oj, afterB o j = true → l[j]? = some oj → R j (vs j) (maskV oj vs) w) →
      if Region.wanted o (yielded l.toArray a.tmps) then o.wp P a w (fun a' w' => ∃ v, (o.dst = none → v = undef) ∧ a' = a.put o.dst v ∧ J (updB dn i) (updV vs i v) w' ∧ E i w w' ∧ R i v (maskV o vs) w') Q else J (updB dn i) (updV vs i undef) w ∧ E i w w ∧ R i undef (maskV o vs) w)
    (hend : ∀ (vs : Nat → Value) (dn : Nat → Bool) (w : World), (∀ i, i < l.length → dn i = true) → J dn vs w → (∀ i o, l[i]? = some o → R i (vs i) (maskV o vs) w) → Q .normal (putAll l vs 0 a0) w) :
    (Code.region id l.toArray true).wp P Q a0 w0 := by
  refine wp_region_any hm ?_
  have key : ∀ (fuel : Nat) (listed : Array Bool) (a : Act) (w : World), listed.size = l.length → (listed.toList.filter (!·)).length ≤ fuel → a.defers = a0.defers → a.tmps.size = a0.tmps.size → J (fun k => listed.getD k false) (vsOf l a) w →
      (∀ t, (∀ (i : Nat) (o : Oper), l[i]? = some o → listed.getD i false = true → o.dst ≠ some t) → a.tmps.getD t undef = a0.tmps.getD t undef) →
      (∀ i o, l[i]? = some o → listed.getD i false = true → R i (vsOf l a i) (maskV o (vsOf l a)) w) →
      (∀ i o, l[i]? = some o → listed.getD i false = true → ∀ j, afterB o j = true → listed.getD j false = true) →
      wpAny P .any l.toArray Q fuel listed a w := by
    -- nothing is ready: all have come up
    have fin : ∀ (listed : Array Bool) (a : Act) (w : World), listed.size = l.length → Region.ready .any l.toArray listed = [] → a.defers = a0.defers → a.tmps.size = a0.tmps.size → J (fun k => listed.getD k false) (vsOf l a) w →
        (∀ t, (∀ (i : Nat) (o : Oper), l[i]? = some o → listed.getD i false = true → o.dst ≠ some t) → a.tmps.getD t undef = a0.tmps.getD t undef) →
        (∀ (i : Nat) (o : Oper), l[i]? = some o → listed.getD i false = true → R i (vsOf l a i) (maskV o (vsOf l a)) w) → Q .normal a w := by
      intro listed a w hs hr hd hz hj hk hRR
      have hall : ∀ m i, i < m → i < l.length → listed.getD i false = true := by
        intro m
        induction m with
        | zero => intro i h; omega
        | succ m ih =>
          intro i him hil
          cases hli : listed.getD i false with
          | true => rfl
          | false =>
            exfalso
            have hmem : i ∈ Region.ready .any l.toArray listed := by
              rw [mem_ready]
              refine ⟨?_, l[i], by simp [hil], fun e he hb => ?_⟩
              · have : i < listed.size := by omega
                simp [this] at hli ⊢; exact hli
              · have := regB_after hB (i := i) (o := l[i]) (by simp [hil]) he hb
                exact ih e.on (by omega) (by omega)
            rw [hr] at hmem; cases hmem
      have hall' : ∀ i o, l[i]? = some o → listed.getD i false = true := fun i o hi => hall (i + 1) i (by omega) (List.getElem?_eq_some_iff.1 hi).1
      have ha : a = putAll l (vsOf l a) 0 a0 := by
        obtain ⟨p1, p2⟩ := putAll_size l (vsOf l a) 0 a0
        have ht : a.tmps = (putAll l (vsOf l a) 0 a0).tmps := by
          apply Array.ext (by rw [p1, hz])
          intro t h1 h2
          have e1 : a.tmps[t] = a.tmps.getD t undef := by simp [h1]
          have e2 : (putAll l (vsOf l a) 0 a0).tmps[t] = (putAll l (vsOf l a) 0 a0).tmps.getD t undef := by simp [h2]
          rw [e1, e2]
          by_cases hex : ∃ (i : Nat) (o : Oper), l[i]? = some o ∧ o.dst = some t
          · obtain ⟨i, o, hi, hdt⟩ := hex
            rw [putAll_at l t (vsOf l a) 0 a0 i o hi hdt (by omega) (fun j' o' hlt hj' hdj => by have := regB_ne hB hi hj' hdt hdj; omega), Nat.zero_add]
            simp only [vsOf, hi, hdt]
          · rw [putAll_other l t _ _ _ (fun j o hj hd => hex ⟨j, o, hj, hd⟩)]
            exact hk t (fun i o hi _ hd => hex ⟨i, o, hi, hd⟩)
        cases a with
        | mk tm df =>
          simp only at ht hd
          generalize putAll l (vsOf l ⟨tm, df⟩) 0 a0 = b at ht p2
          cases b
          simp only at ht p2
          subst ht; rw [hd, ← p2]
      rw [ha]
      exact hend _ _ _ (fun i hi => hall (i + 1) i (by omega) hi) hj (fun i o hi => hRR i o hi (hall' i o hi))
    intro fuel
    induction fuel with
    | zero =>
      intro listed a w hs hf hd hz hj hk hRR hcl
      have hr : Region.ready .any l.toArray listed = [] := by
        cases hr : Region.ready .any l.toArray listed with
        | nil => rfl
        | cons i _ =>
          exfalso
          have hi : i ∈ Region.ready .any l.toArray listed := by rw [hr]; exact List.mem_cons_self ..
          obtain ⟨h0, o, ho, _⟩ := mem_ready.1 hi
          have hlt : i < listed.size := by
            rcases Nat.lt_or_ge i listed.size with h | h
            · exact h
            · simp [Array.getElem?_eq_none h] at h0
          have : false ∈ listed.toList := by
            simp [hlt] at h0
            rw [← h0]; simp
          have h1 : false ∈ listed.toList.filter (!·) := by simp [this]
          have := List.length_pos_of_mem h1
          omega
      exact ⟨hr, fin listed a w hs hr hd hz hj hk hRR⟩
    | succ fuel ih =>
      intro listed a w hs hf hd hz hj hk hRR hcl
      refine ⟨fun hr => fin listed a w hs hr hd hz hj hk hRR, fun i hi => ?_⟩
      obtain ⟨h0, o, ho, hpre⟩ := mem_ready.1 hi
      have hlt : i < listed.size := by
        rcases Nat.lt_or_ge i listed.size with h | h
        · exact h
        · simp [Array.getElem?_eq_none h] at h0
      have hio : l[i]? = some o := by simpa using ho
      have hi0 : listed.getD i false = false := by simp [hlt] at h0 ⊢; exact h0
      have hpre' : ∀ j, afterB o j = true → listed.getD j false = true := by
        intro j hja
        unfold afterB at hja
        rw [List.any_eq_true] at hja
        obtain ⟨e, he, hh⟩ := hja
        simp only [Bool.and_eq_true, beq_iff_eq] at hh
        rw [← hh.2]; exact hpre e (Array.mem_toList_iff.1 he) hh.1
      have hnew : ∀ k, (listed.setIfInBounds i true).getD k false = true ↔ (k = i ∨ listed.getD k false = true) := by
        intro k
        by_cases hki : k = i
        · subst hki; simp [hlt]
        · rw [getD_set_ne false (Ne.symm hki)]; simp [hki]
      have hcnt : ((listed.setIfInBounds i true).toList.filter (!·)).length ≤ fuel := by
        have : ∀ (L : List Bool) (i : Nat), L[i]? = some false → (L.filter (!·)).length = ((L.set i true).filter (!·)).length + 1 := by
          intro L
          induction L with
          | nil => intro i h; simp at h
          | cons b L ihL =>
            intro i h
            cases i with
            | zero => simp at h; subst h; simp
            | succ i =>
              simp at h
              have := ihL i h
              cases b <;> simp_all
        have h1 := this listed.toList i (by simp [hlt] at hi0; simp [hlt, hi0])
        rw [Array.toList_setIfInBounds]
        omega
      have cont : ∀ (v : Value) (w' : World), (o.dst = none → v = undef) → J (updB (fun k => listed.getD k false) i) (updV (vsOf l a) i v) w' → E i w w' → R i v (maskV o (vsOf l a)) w' →
          wpAny P .any l.toArray Q fuel (listed.setIfInBounds i true) (a.put o.dst v) w' := by
        intro v w' hv hj' he hr
        have hvk : ∀ k, k ≠ i → vsOf l (a.put o.dst v) k = vsOf l a k := fun k hk => vsOf_put hB hio v hk
        have hvi : vsOf l (a.put o.dst v) i = v := vsOf_put_same hio v hv (fun d hdd => by rw [hz]; exact (regB_dst hB hio hdd).1)
        refine ih _ _ _ (by simpa using hs) hcnt ((put_defers ..).trans hd) ((put_size ..).trans hz) (by
          have e1 : (fun k => (listed.setIfInBounds i true).getD k false) = updB (fun k => listed.getD k false) i := by
            funext k
            unfold updB
            by_cases hki : k = i
            · rw [if_pos hki]; exact (hnew k).2 (.inl hki)
            · rw [if_neg hki, getD_set_ne false (Ne.symm hki)]
          have e2 : vsOf l (a.put o.dst v) = updV (vsOf l a) i v := by
            funext k
            unfold updV
            by_cases hki : k = i
            · rw [if_pos hki, hki]; exact hvi
            · rw [if_neg hki]; exact hvk k hki
          rw [e1, e2]; exact hj') ?_ ?_ ?_
        · intro t ht
          have h1 : o.dst ≠ some t := ht i o hio ((hnew i).2 (.inl rfl))
          rw [← hk t (fun k ok hkk hlk => ht k ok hkk ((hnew k).2 (.inr hlk)))]
          cases hd' : o.dst with
          | none => rfl
          | some d => rw [put_getD, if_neg]; rintro ⟨rfl, _⟩; exact h1 hd'
        · intro k ok hkk hlk
          by_cases hki : k = i
          · subst hki
            rw [hio] at hkk; obtain rfl := Option.some.inj hkk
            have hmask : maskV o (vsOf l (a.put o.dst v)) = maskV o (vsOf l a) := by
              funext j
              unfold maskV
              by_cases hja : afterB o j = true
              · rw [if_pos hja, if_pos hja, hvk j (by have := afterB_lt hB hio hja; omega)]
              · rw [if_neg hja, if_neg hja]
            rw [hvi, hmask]; exact hr
          · have hlk' : listed.getD k false = true := ((hnew k).1 hlk).resolve_left hki
            have hmask : maskV ok (vsOf l (a.put o.dst v)) = maskV ok (vsOf l a) := by
              funext j
              unfold maskV
              by_cases hja : afterB ok j = true
              · have hlj := hcl k ok hkk hlk' j hja
                rw [if_pos hja, if_pos hja, hvk j (by rintro rfl; rw [hi0] at hlj; cases hlj)]
              · rw [if_neg hja, if_neg hja]
            rw [hvk k hki, hmask]
            refine hR k i hki ?_ _ _ w w' (hRR k ok hkk hlk') he
            cases hanc : ancB l l.length k i with
            | false => rfl
            | true =>
              have := anc_listed (listed := fun i => listed.getD i false) hcl l.length k i hlk' hanc
              rw [show listed.getD i false = true from this] at hi0; cases hi0
        · intro k ok hkk hlk j hja
          rw [hnew]
          by_cases hki : k = i
          · subst hki
            rw [hio] at hkk; obtain rfl := Option.some.inj hkk
            exact .inr (hpre' j hja)
          · exact .inr (hcl k ok hkk (((hnew k).1 hlk).resolve_left hki) j hja)
      have hst := hstep i o hio a w (vsOf l a) (fun k => listed.getD k false) hd hz (fun m hm => ⟨(by rintro rfl; rw [hi0] at hm; cases hm), by
          cases hanc : ancB l l.length m i with
          | false => rfl
          | true =>
            have := anc_listed (listed := fun i => listed.getD i false) hcl l.length m i hm hanc
            rw [show listed.getD i false = true from this] at hi0; cases hi0⟩) hpre' hj
        (fun t ht => hk t (fun k ok hkk hlk hdk => by
          unfold keepB at ht
          rw [List.all_eq_true] at ht
          have h1 := ht k (by simpa using (List.getElem?_eq_some_iff.1 hkk).1)
          simp only [hkk, Bool.or_eq_true, bne_iff_ne, ne_eq, beq_iff_eq] at h1
          rcases h1 with (h1 | h1) | h1
          · exact h1 hdk
          · subst h1; rw [hi0] at hlk; cases hlk
          · have := hcl k ok hkk hlk i h1
            rw [hi0] at this; cases this))
        (fun j oj d _ hjl hdj => by simp only [vsOf, hjl, hdj])
        (fun j oj hja hjl => hRR j oj hjl (hpre' j hja))
      unfold wpOp
      simp only [ho]
      by_cases hw : Region.wanted o (yielded l.toArray a.tmps) = true
      · rw [if_pos hw] at hst ⊢
        exact .inl (Oper.wp_mono (fun a' w' ⟨v, h1, h2, h3, h4, h5⟩ => by subst h2; exact cont v w' h1 h3 h4 h5) hst)
      · rw [if_neg hw] at hst ⊢
        exact cont undef w (fun _ => rfl) hst.1 hst.2.1 hst.2.2
  have h00 : ∀ k, (Array.replicate l.toArray.size false).getD k false = false := fun k => by
    by_cases h : k < l.length <;> simp [h]
  refine key l.toArray.size (Array.replicate l.toArray.size false) a0 _ (by simp) ?_ rfl rfl (by rw [show (fun k => (Array.replicate l.toArray.size false).getD k false) = fun _ => false from funext h00]; exact hJ _) (fun _ _ => rfl) ?_ ?_
  · refine Nat.le_trans (List.length_filter_le _ _) ?_
    simp
  · intro i o hi hl
    have h0 : (Array.replicate l.toArray.size false).getD i false = false := by
      by_cases h : i < l.length <;> simp [h]
    rw [h0] at hl; cases hl
  · intro i o hi hl
    have h0 : (Array.replicate l.toArray.size false).getD i false = false := by
      by_cases h : i < l.length <;> simp [h]
    rw [h0] at hl; cases hl

theorem wp_region_extM {id : Nat} {w0 : World} (hm : P.follows .mixedOrders = true) (hB : regB l a0.tmps.size = true)
    (m : Nat) (J : Bool → World → Prop) (E : Nat → World → World → Prop) (R : Nat → Value → (Nat → Value) → World → Prop) (hJ : J false w0.drew)
    (hR : ∀ i j, i ≠ j → ancB l l.length i j = false → ∀ v d w w', R i v d w → E j w w' → R i v d w')
    (hstep : ∀ i o, l[i]? = some o → ∀ (a : Act) (w : World) (vs : Nat → Value) (b : Bool), a.defers = a0.defers → a.tmps.size = a0.tmps.size → (b = true → i ≠ m ∧ ancB l l.length m i = false) → J b w → (∀ t, keepB l i t = true → a.tmps.getD t undef = a0.tmps.getD t undef) →
      (∀ j oj d, afterB o j = true → l[j]? = some oj → oj.dst = some d → a.tmps.getD d undef = vs j) → (∀ j oj, afterB o j = true → l[j]? = some oj → R j (vs j) (maskV oj vs) w) →
      if Region.wanted o (yielded l.toArray a.tmps) then o.wp P a w (fun a' w' => ∃ v, (o.dst = none → v = undef) ∧ a' = a.put o.dst v ∧ J (b || i == m) w' ∧ E i w w' ∧ R i v (maskV o vs) w') Q else J (b || i == m) w ∧ E i w w ∧ R i undef (maskV o vs) w)
    (hend : ∀ (vs : Nat → Value) (w : World), (m < l.length → J true w) → (∀ i o, l[i]? = some o → R i (vs i) (maskV o vs) w) → Q .normal (putAll l vs 0 a0) w) :
    (Code.region id l.toArray true).wp P Q a0 w0 := by
  refine wp_region_extJ hm hB (fun dn _ w => J (dn m) w) E R (fun _ => hJ) hR ?_ (fun vs dn w h1 h2 h3 => hend vs w (fun hl => by have := h1 m hl; simp only [this] at h2; exact h2) h3)
  intro i o hi a w vs dn h1 h2 h3 _ h5 h6 h7 h8
  have e : ∀ i, updB dn i m = (dn m || i == m) := fun i => by
    unfold updB
    by_cases h : m = i
    · subst h; simp
    · rw [if_neg h, show (i == m) = false from by rw [beq_eq_false_iff_ne]; exact Ne.symm h]; simp
  simp only [e]
  exact hstep i o hi a w vs (dn m) h1 h2 (h3 m) h5 h6 h7 h8

theorem wp_region_ext {id : Nat} {w0 : World} (hm : P.follows .mixedOrders = true) (hB : regB l a0.tmps.size = true)
    (J : World → Prop) (E : Nat → World → World → Prop) (R : Nat → Value → (Nat → Value) → World → Prop) (hJ : J w0.drew)
    (hR : ∀ i j, i ≠ j → ancB l l.length i j = false → ∀ v d w w', R i v d w → J w → E j w w' → R i v d w')
    (hstep : ∀ i o, l[i]? = some o → ∀ (a : Act) (w : World) (vs : Nat → Value), a.defers = a0.defers → a.tmps.size = a0.tmps.size → J w → (∀ t, keepB l i t = true → a.tmps.getD t undef = a0.tmps.getD t undef) →
      (∀ j oj d, afterB o j = true → l[j]? = some oj → oj.dst = some d → a.tmps.getD d undef = vs j) → (∀ j oj, afterB o j = true → l[j]? = some oj → R j (vs j) (maskV oj vs) w) →
      if Region.wanted o (yielded l.toArray a.tmps) then o.wp P a w (fun a' w' => ∃ v, (o.dst = none → v = undef) ∧ a' = a.put o.dst v ∧ J w' ∧ E i w w' ∧ R i v (maskV o vs) w') Q else E i w w ∧ R i undef (maskV o vs) w)
    (hend : ∀ (vs : Nat → Value) (w : World), J w → (∀ i o, l[i]? = some o → R i (vs i) (maskV o vs) w) → Q .normal (putAll l vs 0 a0) w) :
    (Code.region id l.toArray true).wp P Q a0 w0 := by
  refine wp_region_extJ hm hB (fun _ _ => J) (fun j w w' => J w ∧ E j w w') R (fun _ => hJ) (fun i j h1 h2 v d w w' h3 h4 => hR i j h1 h2 v d w w' h3 h4.1 h4.2) ?_ (fun vs dn w _ h2 h3 => hend vs w h2 h3)
  intro i o hi a w vs b h1 h2 _ _ h4 h5 h6 h7
  have := hstep i o hi a w vs h1 h2 h4 h5 h6 h7
  split at this
  · rename_i hw; rw [if_pos hw]; exact Oper.wp_mono (fun a' w' ⟨v, x1, x2, x3, x4, x5⟩ => ⟨v, x1, x2, x3, ⟨h4, x4⟩, x5⟩) this
  · rename_i hw; rw [if_neg hw]; exact ⟨h4, ⟨h4, this.1⟩, this.2⟩
end
end Go.Proofs.Ytnmccbjdfdbgpaa
/- What is proved: the rule for a region whose order is drawn, operation by operation. Conditions: those that the rule states. -/
namespace Go.Proofs.Ytnmccbjdfdbgpaa
open Go.RowKit

/-- What is owed for operation i, o: from a frame that holds what it waits for, it leaves what R says. -/
def StepOk (P : Program) (l : List Oper) (Q : Exit → Act → World → Prop) (a0 : Act) (J : World → Prop) (E : Nat → World → World → Prop) (R : Nat → Value → (Nat → Value) → World → Prop) (i : Nat) (o : Oper) : Prop :=
  ∀ (a : Act) (w : World) (vs : Nat → Value) (K : Act → World → Prop), J w → (∀ t, keepB l i t = true → a.tmps[t]?.getD undef = a0.tmps[t]?.getD undef) →
    (∀ j oj d, l[j]? = some oj → oj.dst = some d → afterB o j = true → a.tmps[d]?.getD undef = vs j ∧ R j (vs j) (maskV oj vs) w) →
    (∀ j oj, l[j]? = some oj → afterB o j = true → R j (vs j) (maskV oj vs) w) →
    (∀ v w', (o.dst = none → v = undef) → J w' → E i w w' → R i v (maskV o vs) w' → K (a.put o.dst v) w') →
    if Region.wanted o (yielded l.toArray a.tmps) then o.wp P a w K Q else K (a.put o.dst undef) w
def StepsOk (P : Program) (l : List Oper) (Q : Exit → Act → World → Prop) (a0 : Act) (J : World → Prop) (E : Nat → World → World → Prop) (R : Nat → Value → (Nat → Value) → World → Prop) : List Oper → Nat → Prop
  | [], _ => True
  | o :: rest, i => StepOk P l Q a0 J E R i o ∧ StepsOk P l Q a0 J E R rest (i + 1)

theorem StepsOk.at {P : Program} {l : List Oper} {Q : Exit → Act → World → Prop} {a0 : Act} {J : World → Prop} {E : Nat → World → World → Prop} {R : Nat → Value → (Nat → Value) → World → Prop} :
    ∀ (r : List Oper) (k : Nat), StepsOk P l Q a0 J E R r k → ∀ i o, r[i]? = some o → StepOk P l Q a0 J E R (k + i) o
  | [], _, _, i, o, h => by simp at h
  | x :: r, k, hs, 0, o, h => by simp at h; subst h; exact hs.1
  | x :: r, k, hs, i + 1, o, h => by
    have := StepsOk.at r (k + 1) hs.2 i o (by simpa using h)
    rwa [show k + (i + 1) = k + 1 + i from by omega]

theorem wp_region_steps {P : Program} {l : List Oper} {Q : Exit → Act → World → Prop} {a0 : Act} {id : Nat} {w0 : World} (hm : P.follows .mixedOrders = true) (hB : regB l a0.tmps.size = true)
    (J : World → Prop) (E : Nat → World → World → Prop) (R : Nat → Value → (Nat → Value) → World → Prop) (hJ : J w0.drew)
    (hR : ∀ i j, i ≠ j → ancB l l.length i j = false → ∀ v d w w', R i v d w → J w → E j w w' → R i v d w')
    (hs : StepsOk P l Q a0 J E R l 0)
    (hend : ∀ (vs : Nat → Value) (w : World), J w → (∀ i o, l[i]? = some o → R i (vs i) (maskV o vs) w) → Q .normal (putAll l vs 0 a0) w) :
    (Code.region id l.toArray true).wp P Q a0 w0 := by
  refine wp_region_ext hm hB J E R hJ hR ?_ hend
  intro i o hi a w vs _ hz hj hk hv hr
  have h := StepsOk.at l 0 hs i o hi
  rw [Nat.zero_add] at h
  have h1 := fun K hK => h a w vs K hj (fun t ht => by have := hk t ht; simpa using this) (fun j oj d h1 h2 h3 => ⟨by have := hv j oj d h3 h1 h2; simpa using this, hr j oj h3 h1⟩) (fun j oj h1 h3 => hr j oj h3 h1) hK
  have h2 := h1 (fun a' w' => ∃ v, (o.dst = none → v = undef) ∧ a' = a.put o.dst v ∧ J w' ∧ E i w w' ∧ R i v (maskV o vs) w') (fun v w' x1 x2 x3 x4 => ⟨v, x1, rfl, x2, x3, x4⟩)
  by_cases hw : Region.wanted o (yielded l.toArray a.tmps) = true
  · rw [if_pos hw] at h2 ⊢
    exact h2
  · rw [if_neg hw] at h2 ⊢
    obtain ⟨v, x1, x2, _, x3, x4⟩ := h2
    have hv' : v = undef := by
      cases hd : o.dst with
      | none => exact x1 hd
      | some d =>
        rw [hd] at x2
        have hlt := (regB_dst hB hi hd).1
        have := congrArg (fun b : Act => b.tmps.getD d undef) x2
        rw [put_getD, put_getD, if_pos ⟨rfl, by omega⟩, if_pos ⟨rfl, by omega⟩] at this
        exact this.symm
    subst hv'
    exact ⟨x3, x4⟩

theorem getD_bool {x : Option Value} {b : Bool} (h : x.getD undef = .bool b) : x = some (.bool b) := by
  cases x with
  | none => simp [undef] at h
  | some v => simp at h; rw [h]
theorem wanted_yes {l : List Oper} {a : Act} {o : Oper} (j : Nat) (want : Bool) (hg : o.guard = some (j, want)) {oj : Oper} {d : Nat} (hj : l[j]? = some oj) (hd : oj.dst = some d) (hv : a.tmps[d]?.getD undef = .bool want) :
    Region.wanted o (yielded l.toArray a.tmps) = true := by
  simp [Region.wanted, hg, yielded, hj, hd, getD_bool hv]
theorem wanted_no {l : List Oper} {a : Act} {o : Oper} (j : Nat) (want : Bool) (hg : o.guard = some (j, want)) {oj : Oper} {d : Nat} (hj : l[j]? = some oj) (hd : oj.dst = some d) (hv : a.tmps[d]?.getD undef = .bool (!want)) :
    ¬ Region.wanted o (yielded l.toArray a.tmps) = true := by
  cases want <;> simp [Region.wanted, hg, yielded, hj, hd, getD_bool hv]

/-! Operations, one by one: each law asks what its operands hold. -/
section
variable {P : Program} {o : Oper} {a : Act} {w : World} {K : Act → World → Prop} {Q : Exit → Act → World → Prop}
theorem wpo_move (x : Operand) (v : Value) (ho : o.op = .move x ∨ o.op = .assign x) (hx : a.eval x = v) (h : K (a.put o.dst v) w) : o.wp P a w K Q := by
  unfold Oper.wp execOp
  rcases ho with ho | ho <;> simp only [ho, hx, Sem.run_pure] <;> exact h
theorem wpo_loadS (ty : TypeId) (x : Operand) (ho : o.op = .load ty x)
    (g off : Nat) (hx : a.eval x = .pointer (some ⟨g, off, none⟩)) (S : Array Value) (d : TypeDesc) (hc : ∀ j u, S[j]? = some u → w.cell? ⟨g, off + j, none⟩ = some u)
    (hu : P.underlying ty = some d) (hd : (match d with | .struct _ | .array _ _ => true | _ => false) = true) (hi : (P.info? ty).map (·.size) = some S.size)
    (h : K (a.put o.dst (.agg S)) w) : o.wp P a w K Q := by
  unfold Oper.wp execOp
  simp only [ho, hx, Instr.loadAt, Instr.sureAddr, Sem.run_bind, Sem.run_pure, Result.andThen_ok, run_loadVar_at w g off ty S d hc hu hd hi]
  exact h
theorem wpo_storeS (ty : TypeId) (x y : Operand) (ho : o.op = .store ty x y) (hdst : o.dst = none)
    (g off : Nat) (hx : a.eval x = .pointer (some ⟨g, off, none⟩)) (S : Array Value) (hy : a.eval y = .agg S) (t : TypeId) (cs : Array Value) (hb : Bk w g t cs)
    (hl : off + S.size ≤ cs.size) (h1 : ∀ u ∈ S.toList, u.oneCell' = true) (hi : (P.info? ty).map (·.size) = some S.size)
    (h : ∀ w', Bk w' g t (splA cs off S.toList) → Only g w w' → K (a.put o.dst undef) w') : o.wp P a w K Q := by
  obtain ⟨w', r1, r2, r3⟩ := run_storeVar_at (P := P) w g off t ty cs S hb hl h1 hi
  unfold Oper.wp execOp
  simp only [ho, hx, hy, Instr.storeAt, Instr.sureAddr, Sem.run_bind, Sem.run_pure, Result.andThen_ok, r1]
  have := h w' r2 r3
  simpa [Oper.upon, hdst, Act.put] using this
theorem wpo_call (f : Nat) (xs : Array Operand) (ts : Array TypeId) (ho : o.op = .call { callee := .value (.func f), args := xs, argTypes := ts }) (vs : Array Value) (hx : xs.map a.eval = vs)
    (eg : ∀ args w, (callFunc f args).run P w = .ok (.enter f args) w) (h : Calls P f vs w fun e w' => ∃ v, e = .returned v ∧ K (a.put o.dst v) w') : o.wp P a w K Q := by
  unfold Oper.wp execOp
  simp only [ho, resolve, hx, Act.eval, Deferred.ofValue, Sem.run_bind, Sem.run_pure, Result.andThen_ok, invoke]
  simp [eg, Oper.upon]
  refine h.mono ?_
  rintro e w' ⟨v, rfl, hk⟩
  exact hk
end
end Go.Proofs.Ytnmccbjdfdbgpaa
/- What is proved: the rule for a region whose order is drawn, with one operation that turns old memory. Conditions: those that the rule states. -/
namespace Go.Proofs.Ytnmccbjdfdbgpaa
open Go.RowKit

/-- What is owed for operation i, o; J false: ahead of operation m, J true: behind it. -/
def StepOkM (P : Program) (l : List Oper) (Q : Exit → Act → World → Prop) (a0 : Act) (m : Nat) (J : Bool → World → Prop) (E : Nat → World → World → Prop) (R : Nat → Value → (Nat → Value) → World → Prop) (i : Nat) (o : Oper) : Prop :=
  ∀ (a : Act) (w : World) (vs : Nat → Value) (K : Act → World → Prop) (b : Bool), (b = true → i ≠ m ∧ ancB l l.length m i = false) → J b w → (∀ t, keepB l i t = true → a.tmps[t]?.getD undef = a0.tmps[t]?.getD undef) →
    (∀ j oj d, l[j]? = some oj → oj.dst = some d → afterB o j = true → a.tmps[d]?.getD undef = vs j ∧ R j (vs j) (maskV oj vs) w) →
    (∀ j oj, l[j]? = some oj → afterB o j = true → R j (vs j) (maskV oj vs) w) →
    (∀ v w', (o.dst = none → v = undef) → J (b || i == m) w' → E i w w' → R i v (maskV o vs) w' → K (a.put o.dst v) w') →
    if Region.wanted o (yielded l.toArray a.tmps) then o.wp P a w K Q else K (a.put o.dst undef) w
def StepsOkM (P : Program) (l : List Oper) (Q : Exit → Act → World → Prop) (a0 : Act) (m : Nat) (J : Bool → World → Prop) (E : Nat → World → World → Prop) (R : Nat → Value → (Nat → Value) → World → Prop) : List Oper → Nat → Prop
  | [], _ => True
  | o :: rest, i => StepOkM P l Q a0 m J E R i o ∧ StepsOkM P l Q a0 m J E R rest (i + 1)
theorem StepsOkM.at {P : Program} {l : List Oper} {Q : Exit → Act → World → Prop} {a0 : Act} {m : Nat} {J : Bool → World → Prop} {E : Nat → World → World → Prop} {R : Nat → Value → (Nat → Value) → World → Prop} :
    ∀ (r : List Oper) (k : Nat), StepsOkM P l Q a0 m J E R r k → ∀ i o, r[i]? = some o → StepOkM P l Q a0 m J E R (k + i) o
  | [], _, _, i, o, h => by simp at h
  | x :: r, k, hs, 0, o, h => by simp at h; subst h; exact hs.1
  | x :: r, k, hs, i + 1, o, h => by
    have := StepsOkM.at r (k + 1) hs.2 i o (by simpa using h)
    rwa [show k + (i + 1) = k + 1 + i from by omega]

theorem wp_region_stepsM {P : Program} {l : List Oper} {Q : Exit → Act → World → Prop} {a0 : Act} {id : Nat} {w0 : World} (hm : P.follows .mixedOrders = true) (hB : regB l a0.tmps.size = true)
    (m : Nat) (hml : m < l.length) (J : Bool → World → Prop) (E : Nat → World → World → Prop) (R : Nat → Value → (Nat → Value) → World → Prop) (hJ : J false w0.drew)
    (hR : ∀ i j, i ≠ j → ancB l l.length i j = false → ∀ v d w w', R i v d w → E j w w' → R i v d w')
    (hs : StepsOkM P l Q a0 m J E R l 0)
    (hend : ∀ (vs : Nat → Value) (w : World), J true w → (∀ i o, l[i]? = some o → R i (vs i) (maskV o vs) w) → Q .normal (putAll l vs 0 a0) w) :
    (Code.region id l.toArray true).wp P Q a0 w0 := by
  refine wp_region_extM hm hB m J E R hJ hR ?_ (fun vs w h1 h2 => hend vs w (h1 hml) h2)
  intro i o hi a w vs b _ hz hb hj hk hv hr
  have h := StepsOkM.at l 0 hs i o hi
  rw [Nat.zero_add] at h
  have h1 := fun K hK => h a w vs K b hb hj (fun t ht => by have := hk t ht; simpa using this) (fun j oj d h1 h2 h3 => ⟨by have := hv j oj d h3 h1 h2; simpa using this, hr j oj h3 h1⟩) (fun j oj h1 h3 => hr j oj h3 h1) hK
  have h2 := h1 (fun a' w' => ∃ v, (o.dst = none → v = undef) ∧ a' = a.put o.dst v ∧ J (b || i == m) w' ∧ (w' = w → E i w w ∧ J (b || i == m) w) ∧ E i w w' ∧ R i v (maskV o vs) w') (fun v w' x1 x2 x3 x4 => ⟨v, x1, rfl, x2, fun e => by subst e; exact ⟨x3, x2⟩, x3, x4⟩)
  by_cases hw : Region.wanted o (yielded l.toArray a.tmps) = true
  · rw [if_pos hw] at h2 ⊢
    exact Oper.wp_mono (fun a' w' ⟨v, y1, y2, y3, _, y5, y6⟩ => ⟨v, y1, y2, y3, y5, y6⟩) h2
  · rw [if_neg hw] at h2 ⊢
    obtain ⟨v, x1, x2, x3, _, x4, x5⟩ := h2
    have hv' : v = undef := by
      cases hd : o.dst with
      | none => exact x1 hd
      | some d =>
        rw [hd] at x2
        have hlt := (regB_dst hB hi hd).1
        have := congrArg (fun b : Act => b.tmps.getD d undef) x2
        rw [put_getD, put_getD, if_pos ⟨rfl, by omega⟩, if_pos ⟨rfl, by omega⟩] at this
        exact this.symm
    subst hv'
    exact ⟨x3, x4, x5⟩
/-- The like, J by which operations are done and what they left. -/
def StepOkJ (P : Program) (l : List Oper) (Q : Exit → Act → World → Prop) (a0 : Act) (J : (Nat → Bool) → (Nat → Value) → World → Prop) (E : Nat → World → World → Prop) (R : Nat → Value → (Nat → Value) → World → Prop) (i : Nat) (o : Oper) : Prop :=
  ∀ (a : Act) (w : World) (vs : Nat → Value) (K : Act → World → Prop) (dn : Nat → Bool), (∀ m, dn m = true → i ≠ m ∧ ancB l l.length m i = false) → (∀ j, afterB o j = true → dn j = true) → J dn vs w → (∀ t, keepB l i t = true → a.tmps[t]?.getD undef = a0.tmps[t]?.getD undef) →
    (∀ j oj d, l[j]? = some oj → oj.dst = some d → afterB o j = true → a.tmps[d]?.getD undef = vs j ∧ R j (vs j) (maskV oj vs) w) →
    (∀ j oj, l[j]? = some oj → afterB o j = true → R j (vs j) (maskV oj vs) w) →
    (∀ v w', (o.dst = none → v = undef) → J (updB dn i) (updV vs i v) w' → E i w w' → R i v (maskV o vs) w' → K (a.put o.dst v) w') →
    if Region.wanted o (yielded l.toArray a.tmps) then o.wp P a w K Q else K (a.put o.dst undef) w
def StepsOkJ (P : Program) (l : List Oper) (Q : Exit → Act → World → Prop) (a0 : Act) (J : (Nat → Bool) → (Nat → Value) → World → Prop) (E : Nat → World → World → Prop) (R : Nat → Value → (Nat → Value) → World → Prop) : List Oper → Nat → Prop
  | [], _ => True
  | o :: rest, i => StepOkJ P l Q a0 J E R i o ∧ StepsOkJ P l Q a0 J E R rest (i + 1)
theorem StepsOkJ.at {P : Program} {l : List Oper} {Q : Exit → Act → World → Prop} {a0 : Act} {J : (Nat → Bool) → (Nat → Value) → World → Prop} {E : Nat → World → World → Prop} {R : Nat → Value → (Nat → Value) → World → Prop} :
    ∀ (r : List Oper) (k : Nat), StepsOkJ P l Q a0 J E R r k → ∀ i o, r[i]? = some o → StepOkJ P l Q a0 J E R (k + i) o
  | [], _, _, i, o, h => by simp at h
  | x :: r, k, hs, 0, o, h => by simp at h; subst h; exact hs.1
  | x :: r, k, hs, i + 1, o, h => by
    have := StepsOkJ.at r (k + 1) hs.2 i o (by simpa using h)
    rwa [show k + (i + 1) = k + 1 + i from by omega]

theorem wp_region_stepsJ {P : Program} {l : List Oper} {Q : Exit → Act → World → Prop} {a0 : Act} {id : Nat} {w0 : World} (hm : P.follows .mixedOrders = true) (hB : regB l a0.tmps.size = true)
    (J : (Nat → Bool) → (Nat → Value) → World → Prop) (E : Nat → World → World → Prop) (R : Nat → Value → (Nat → Value) → World → Prop) (hJ : ∀ vs, J (fun _ => false) vs w0.drew)
    (hR : ∀ i j, i ≠ j → ancB l l.length i j = false → ∀ v d w w', R i v d w → E j w w' → R i v d w')
    (hs : StepsOkJ P l Q a0 J E R l 0)
    (hend : ∀ (vs : Nat → Value) (dn : Nat → Bool) (w : World), (∀ i, i < l.length → dn i = true) → J dn vs w → (∀ i o, l[i]? = some o → R i (vs i) (maskV o vs) w) → Q .normal (putAll l vs 0 a0) w) :
    (Code.region id l.toArray true).wp P Q a0 w0 := by
  refine wp_region_extJ hm hB J E R hJ hR ?_ hend
  intro i o hi a w vs b _ hz hb hb2 hj hk hv hr
  have h := StepsOkJ.at l 0 hs i o hi
  rw [Nat.zero_add] at h
  have h1 := fun K hK => h a w vs K b hb hb2 hj (fun t ht => by have := hk t ht; simpa using this) (fun j oj d h1 h2 h3 => ⟨by have := hv j oj d h3 h1 h2; simpa using this, hr j oj h3 h1⟩) (fun j oj h1 h3 => hr j oj h3 h1) hK
  have h2 := h1 (fun a' w' => ∃ v, (o.dst = none → v = undef) ∧ a' = a.put o.dst v ∧ J (updB b i) (updV vs i v) w' ∧ (w' = w → E i w w ∧ J (updB b i) (updV vs i v) w) ∧ E i w w' ∧ R i v (maskV o vs) w') (fun v w' x1 x2 x3 x4 => ⟨v, x1, rfl, x2, fun e => by subst e; exact ⟨x3, x2⟩, x3, x4⟩)
  by_cases hw : Region.wanted o (yielded l.toArray a.tmps) = true
  · rw [if_pos hw] at h2 ⊢
    exact Oper.wp_mono (fun a' w' ⟨v, y1, y2, y3, _, y5, y6⟩ => ⟨v, y1, y2, y3, y5, y6⟩) h2
  · rw [if_neg hw] at h2 ⊢
    obtain ⟨v, x1, x2, x3, _, x4, x5⟩ := h2
    have hv' : v = undef := by
      cases hd : o.dst with
      | none => exact x1 hd
      | some d =>
        rw [hd] at x2
        have hlt := (regB_dst hB hi hd).1
        have := congrArg (fun b : Act => b.tmps.getD d undef) x2
        rw [put_getD, put_getD, if_pos ⟨rfl, by omega⟩, if_pos ⟨rfl, by omega⟩] at this
        exact this.symm
    subst hv'
    exact ⟨x3, x4, x5⟩
end Go.Proofs.Ytnmccbjdfdbgpaa
/- What is proved: a class of worlds for regions whose operations read and whose callees only make memory. Conditions: those that each lemma states. -/
namespace Go.Proofs.Ytnmccbjdfdbgpaa
open Go.RowKit

/-- A world that keeps all that W had. -/
structure Ext (W : World) where
  w : World
  h : Below W.heap.size W w
instance (W : World) : Nonempty (Ext W) := ⟨⟨W, Below.refl _ _⟩⟩
/-- The class: W, with new memory. -/
def Ext.C (W : World) (w' : World) : Prop := ∃ x : Ext W, w' = x.w
theorem Ext.c_drew (W : World) : ∃ x : Ext W, { W with drawn := W.drawn + 1 } = x.w := ⟨⟨_, (Below.refl _ _).drew⟩, rfl⟩
theorem Ext.cell {W : World} {b o : Nat} {v : Value} (h : W.cell? ⟨b, o, none⟩ = some v) : ∀ x : Ext W, x.w.cell? ⟨b, o, none⟩ = some v := fun x => by
  have hb : b < W.heap.size := World.block_lt_of_cell? W _ h
  exact (x.h.cell (p := ⟨b, o, none⟩) hb).trans h
theorem Ext.calls {P : Program} {f : FuncId} {args : Array Value} {W : World} {x : Ext W} {v : Value} (h : Calls P f args x.w fun e w' => e = .returned v ∧ Below x.w.heap.size x.w w') :
    Calls P f args x.w fun e w'' => e = .returned v ∧ ∃ y : Ext W, w'' = y.w :=
  h.mono fun _ _ ⟨he, hb⟩ => ⟨he, ⟨_, x.h.trans (hb.mono x.h.size)⟩, rfl⟩
theorem Ext.same {P : Program} {f : FuncId} {args : Array Value} {W : World} {x : Ext W} {v : Value} (h : Calls P f args x.w fun e w' => e = .returned v ∧ x.w = w') :
    Calls P f args x.w fun e w'' => e = .returned v ∧ ∃ y : Ext W, w'' = y.w :=
  h.mono fun _ _ ⟨he, hb⟩ => ⟨he, x, hb.symm⟩
theorem Ext.drew {P : Program} {f : FuncId} {args : Array Value} {W : World} {x : Ext W} {v : Value} (h : Calls P f args x.w fun e w' => e = .returned v ∧ ∃ n, w' = x.w.drewN n) :
    Calls P f args x.w fun e w'' => e = .returned v ∧ ∃ y : Ext W, w'' = y.w :=
  h.mono fun _ _ ⟨he, n, hb⟩ => ⟨he, ⟨_, hb ▸ below_drewN x.h n⟩, rfl⟩
theorem wp_region_ext_quiet {P : Program} {id : Nat} {Q : Exit → Act → World → Prop} {a : Act} {W : World} {l : List Oper} (hm : P.follows .mixedOrders = true) (hB : Region.lexB .any l.toArray = true)
    (h : wpQuiet P l.toArray (fun w' => ∃ x : Ext W, w' = x.w) (fun a' => ∀ w', Below W.heap.size W w' → Q .normal a' w') l a) : (Code.region id l.toArray true).wp P Q a W :=
  wp_region_quiet (C := fun w' => ∃ x : Ext W, w' = x.w) hm hB (Ext.c_drew W) (by
    have e : (fun a' => ∀ w', (∃ x : Ext W, w' = x.w) → Q .normal a' w') = fun a' => ∀ w', Below W.heap.size W w' → Q .normal a' w' := by
      funext a'; apply propext
      exact ⟨fun h w' hb => h w' ⟨⟨w', hb⟩, rfl⟩, fun h w' ⟨x, hx⟩ => by subst hx; exact h _ x.h⟩
    rw [e]; exact h)
end Go.Proofs.Ytnmccbjdfdbgpaa
/- What is proved: a rule for a region whose order is drawn, in which all is read, then one call makes memory, then one store turns old memory: one walk in the order of the text. Conditions: those that the rule states. -/
namespace Go.Proofs.Ytnmccbjdfdbgpaa
open Go.RowKit

def readsOk (l : List Oper) (o : Oper) : Bool :=
  o.op.operands.toList.all fun x => match x with
    | .tmp t => ((List.range l.length).any fun j => afterB o j && (match l[j]? with | some oj => oj.dst == some t | none => false)) || l.all fun oj => oj.dst != some t
    | _ => true
def isAddr (o : Oper) : Bool := match o.op with | .fieldAddr _ _ _ => true | .move _ => true | _ => false
def updOk (l : List Oper) (c m : Nat) : Bool :=
  decide (m + 1 = l.length) && decide (c < m) && (l.all fun o => o.guard.isNone) && ((List.range m).all fun i => ancB l l.length m i) && afterI l m c &&
  ((List.range m).all fun i => decide (i = c) || ((ancB l l.length c i || (match l[i]? with | some o => isAddr o | none => false)) && !afterI l i c)) &&
  ((List.range m).all fun i => match l[i]? with | some o => o.dst.isSome | none => false) && l.all (readsOk l) && Region.noSelect l.toArray

section
variable {P : Program} {l : List Oper} {ops : Array Oper} {C : World → Prop}
theorem frame_ext {a b : Act} (hs : a.tmps.size = b.tmps.size) (hd : a.defers = b.defers) (h : ∀ t, a.tmps.getD t undef = b.tmps.getD t undef) : a = b := by
  obtain ⟨ta, da⟩ := a
  obtain ⟨tb, db⟩ := b
  simp only at hs hd h
  subst hd
  congr 1
  apply Array.ext hs
  intro i h1 h2
  have := h i
  simpa [h1, h2] using this
/-- What a lexical walk of reads shows: the frame at its end, and of each operation a frame in which it yields what that end holds. -/
theorem quiet_all {Q : Act → Prop} : ∀ (L : List Oper) (a : Act), (∀ o ∈ L, o.guard = none) → (∀ o ∈ L, ∃ d, o.dst = some d ∧ d < a.tmps.size) → L.Pairwise (fun x y => x.dst ≠ y.dst) → wpQuiet P ops C Q L a →
    ∃ F : Act, Q F ∧ F.tmps.size = a.tmps.size ∧ F.defers = a.defers ∧ (∀ t, (∀ o ∈ L, o.dst ≠ some t) → F.tmps.getD t undef = a.tmps.getD t undef) ∧
      ∀ pre o post, L = pre ++ o :: post → ∃ (A : Act) (v : Value), (∀ w, C w → o.quietAt P A C w v) ∧ (∀ d, o.dst = some d → F.tmps.getD d undef = v) ∧ (∀ t, (∀ x ∈ o :: post, x.dst ≠ some t) → A.tmps.getD t undef = F.tmps.getD t undef)
  | [], a, _, _, _, h => ⟨a, h, rfl, rfl, fun _ _ => rfl, fun pre o post e => by simp at e⟩
  | o :: L, a, hg, hd, hp, h => by
    have hgo := hg o (List.mem_cons_self ..)
    obtain ⟨d, hdo, hlt⟩ := hd o (List.mem_cons_self ..)
    unfold wpQuiet at h
    have hw : Region.wanted o (yielded ops a.tmps) = true := by unfold Region.wanted; rw [hgo]
    rw [if_pos hw] at h
    obtain ⟨v, h1, h2⟩ := h
    rw [List.pairwise_cons] at hp
    obtain ⟨F, q1, q2, q3, q4, q5⟩ := quiet_all L (a.put o.dst v) (fun x hx => hg x (List.mem_cons_of_mem _ hx)) (fun x hx => by rw [put_size]; exact hd x (List.mem_cons_of_mem _ hx)) hp.2 h2
    refine ⟨F, q1, q2.trans (put_size ..), q3.trans (put_defers ..), fun t ht => ?_, fun pre x post e => ?_⟩
    · rw [q4 t (fun x hx => ht x (List.mem_cons_of_mem _ hx)), hdo, put_getD, if_neg]
      rintro ⟨rfl, _⟩
      exact ht o (List.mem_cons_self ..) hdo
    · cases pre with
      | nil =>
        simp only [List.nil_append, List.cons.injEq] at e
        obtain ⟨rfl, rfl⟩ := e
        refine ⟨a, v, h1, fun d' hd' => ?_, fun t ht => ?_⟩
        · obtain rfl : d = d' := by rw [hdo] at hd'; exact Option.some.inj hd'
          rw [q4 d (fun x hx e => hp.1 x hx (hdo.trans e.symm)), hdo, put_getD, if_pos ⟨rfl, hlt⟩]
        · rw [q4 t (fun x hx => ht x (List.mem_cons_of_mem _ hx)), hdo, put_getD, if_neg]
          rintro ⟨rfl, _⟩
          exact ht o (List.mem_cons_self ..) hdo
      | cons y pre =>
        simp only [List.cons_append, List.cons.injEq] at e
        obtain ⟨rfl, rfl⟩ := e
        exact q5 pre x post rfl
theorem eval_same {a b : Act} {o : Oper} (hs : ∀ cs b', o.op ≠ .select cs b') (h : ∀ t, Operand.tmp t ∈ o.op.operands → a.tmps.getD t undef = b.tmps.getD t undef) : execOp a.eval o = execOp b.eval o :=
  execOp_congr o hs fun x hx => by
    cases x with
    | tmp t => have := h t hx; simpa [Act.eval] using this
    | _ => rfl
theorem wp_transfer {o : Oper} {a F : Act} {w : World} {G : Value → World → Prop} {Q : Exit → Act → World → Prop} (he : execOp a.eval o = execOp F.eval o) (hd : ∀ d, o.dst = some d → d < F.tmps.size)
    (h : o.wp P F w (fun a' w' => ∃ v, a' = F.put o.dst v ∧ G v w') (fun _ _ _ => False)) : o.wp P a w (fun a' w' => ∃ v, a' = a.put o.dst v ∧ G v w') Q := by
  have hput : ∀ u v, F.put o.dst u = F.put o.dst v → a.put o.dst u = a.put o.dst v := fun u v e => by
    cases hdo : o.dst with
    | none => rfl
    | some d =>
      rw [hdo] at e
      have := congrArg (fun b : Act => b.tmps.getD d undef) e
      rw [put_getD, put_getD, if_pos ⟨rfl, hd d hdo⟩, if_pos ⟨rfl, hd d hdo⟩] at this
      rw [this]
  unfold Oper.wp at *
  rw [he]
  generalize (execOp F.eval o).run P w = r at *
  cases r with
  | ok n w' =>
    cases n <;> simp only [Oper.upon] at h ⊢
    case value u => obtain ⟨v, e, g⟩ := h; exact ⟨v, hput _ _ e, g⟩
    case skip => obtain ⟨v, e, g⟩ := h; exact ⟨v, hput _ _ e, g⟩
    case defer d =>
      obtain ⟨v, e, _⟩ := h
      have := congrArg (fun b : Act => b.defers.length) e
      simp [put_defers] at this
    case enter f args =>
      refine Calls.mono h fun e w'' he => ?_
      cases e with
      | returned u => obtain ⟨v, e, g⟩ := he; exact ⟨v, hput _ _ e, g⟩
      | panicked c => exact (he : False).elim
      | outgrown => obtain ⟨_, _, hf⟩ := he; exact (hf : False).elim
    case row row args => exact Rows.mono h fun u w'' he => by obtain ⟨v, e, g⟩ := he; exact ⟨v, hput _ _ e, g⟩
  | halt x w' =>
    cases x <;> simp only [Oper.upon] at h
theorem wp_of_quiet {o : Oper} {a F : Act} {w : World} {v : Value} {K : Act → World → Prop} {Q : Exit → Act → World → Prop} (he : execOp a.eval o = execOp F.eval o) (hw : C w) (h : o.quietAt P F C w v) (hk : ∀ w', C w' → (isAddr o = true → w' = w) → K (a.put o.dst v) w') : o.wp P a w K Q := by
  unfold Oper.quietAt at h
  unfold Oper.wp
  rw [he]
  have haddr : isAddr o = true → ∀ f args w', (execOp F.eval o).run P w ≠ .ok (.enter f args) w' := by
    intro ha f args w'
    obtain ⟨dst, op, ty, pos, after, guard⟩ := o
    unfold isAddr at ha
    cases op <;> simp at ha <;> simp [execOp, Sem.run_pure]
    case fieldAddr t x k =>
      intro hh
      generalize Sem.run P (Instr.fieldAt t (F.eval x) k) w = r at hh
      cases r <;> simp [Result.andThen] at hh
  generalize (execOp F.eval o).run P w = r at *
  cases r with
  | ok n w' =>
    cases n <;> simp only [Oper.quietUpon] at h <;> simp only [Oper.upon]
    case value u => obtain ⟨rfl, rfl⟩ := h; exact hk _ hw fun _ => rfl
    case skip => obtain ⟨rfl, rfl⟩ := h; exact hk _ hw fun _ => rfl
    case enter f args =>
      obtain ⟨rfl, hc⟩ := h
      refine hc.mono fun e w'' ⟨he, hw''⟩ => ?_
      subst he
      exact hk _ hw'' fun ha => absurd rfl (haddr ha f args _)
  | halt x w' => simp only [Oper.quietUpon] at h
theorem take_split (c m : Nat) (hcm : c < m) (i : Nat) (him : i < m) (hic : i ≠ c) (o : Oper) (hi : l[i]? = some o) :
    ∃ pre post, l.take c ++ (l.take m).drop (c + 1) = pre ++ o :: post ∧ (∀ x ∈ o :: post, ∃ k, i ≤ k ∧ l[k]? = some x) := by
  have hil : i < l.length := (List.getElem?_eq_some_iff.1 hi).1
  have hio : l[i] = o := (List.getElem?_eq_some_iff.1 hi).2
  rcases Nat.lt_or_ge i c with h | h
  · refine ⟨l.take i, (l.take c).drop (i + 1) ++ (l.take m).drop (c + 1), ?_, fun x hx => ?_⟩
    · have e1 : l.take c = l.take i ++ o :: (l.take c).drop (i + 1) := by
        have h1 : i < (l.take c).length := by simp; omega
        have := List.take_append_drop i (l.take c)
        rw [List.drop_eq_getElem_cons h1] at this
        rw [List.take_take, Nat.min_eq_left (by omega)] at this
        refine this.symm.trans ?_
        rw [show (List.take c l)[i] = o from by simp [hio]]
      rw [← List.cons_append, ← List.append_assoc, ← e1]
    · rw [List.mem_cons, List.mem_append] at hx
      rcases hx with rfl | hx | hx
      · exact ⟨i, Nat.le_refl _, hi⟩
      · obtain ⟨k, hk⟩ := List.getElem?_of_mem hx
        rw [List.getElem?_drop, List.getElem?_take] at hk
        split at hk
        · exact ⟨i + 1 + k, by omega, hk⟩
        · cases hk
      · obtain ⟨k, hk⟩ := List.getElem?_of_mem hx
        rw [List.getElem?_drop, List.getElem?_take] at hk
        split at hk
        · exact ⟨c + 1 + k, by omega, hk⟩
        · cases hk
  · have hgt : c < i := by omega
    refine ⟨l.take c ++ ((l.take m).drop (c + 1)).take (i - (c + 1)), (l.take m).drop (i + 1), ?_, fun x hx => ?_⟩
    · rw [List.append_assoc]
      congr 1
      have h1 : i - (c + 1) < ((l.take m).drop (c + 1)).length := by simp; omega
      have := List.take_append_drop (i - (c + 1)) ((l.take m).drop (c + 1))
      rw [List.drop_eq_getElem_cons h1] at this
      refine this.symm.trans ?_
      congr 1
      congr 1
      · simp only [List.getElem_drop, List.getElem_take]
        rw [← hio]; congr 1; omega
      · rw [List.drop_drop]; congr 1; omega
    · rw [List.mem_cons] at hx
      rcases hx with rfl | hx
      · exact ⟨i, Nat.le_refl _, hi⟩
      · obtain ⟨k, hk⟩ := List.getElem?_of_mem hx
        rw [List.getElem?_drop, List.getElem?_take] at hk
        split at hk
        · exact ⟨i + 1 + k, by omega, hk⟩
        · cases hk
theorem take_mem (c m : Nat) (hcm : c < m) {x : Oper} (hx : x ∈ l.take c ++ (l.take m).drop (c + 1)) : ∃ k, k < m ∧ k ≠ c ∧ l[k]? = some x := by
  rw [List.mem_append] at hx
  rcases hx with hx | hx
  · obtain ⟨k, hk⟩ := List.getElem?_of_mem hx
    rw [List.getElem?_take] at hk
    split at hk
    · exact ⟨k, by omega, by omega, hk⟩
    · cases hk
  · obtain ⟨k, hk⟩ := List.getElem?_of_mem hx
    rw [List.getElem?_drop, List.getElem?_take] at hk
    split at hk
    · exact ⟨c + 1 + k, by omega, by omega, hk⟩
    · cases hk
theorem wp_region_upd {Q : Exit → Act → World → Prop} {a0 : Act} {id : Nat} {W : World} (c m : Nat) (oc om : Oper) (hc : l[c]? = some oc) (hmm : l[m]? = some om) (hom : om.dst = none) (hm : P.follows .mixedOrders = true)
    (hB : regB l a0.tmps.size = true) (hU : updOk l c m = true) (Val : Value → World → Prop) (End : World → Prop)
    (h : wpQuiet P l.toArray (fun w' => ∃ x : Ext W, w' = x.w) (fun F =>
      (∀ w1, Below W.heap.size W w1 → ∀ K : Act → World → Prop, (∀ v w2, Below W.heap.size W w2 → Val v w2 → K (F.put oc.dst v) w2) → oc.wp P F w1 K (fun _ _ _ => False)) ∧
      (∀ v w1, Below W.heap.size W w1 → Val v w1 → ∀ K : Act → World → Prop, (∀ w2, End w2 → K ((F.put oc.dst v).put om.dst undef) w2) → om.wp P (F.put oc.dst v) w1 K (fun _ _ _ => False)) ∧
      (∀ v w2, End w2 → Q .normal ((F.put oc.dst v).put om.dst undef) w2)) (l.take c ++ (l.take m).drop (c + 1)) a0) : (Code.region id l.toArray true).wp P Q a0 W := by
  unfold updOk at hU
  simp only [Bool.and_eq_true, decide_eq_true_eq] at hU
  obtain ⟨⟨⟨⟨⟨⟨⟨⟨u1, u2⟩, u3⟩, u4⟩, u5⟩, u6⟩, u7⟩, u8⟩, u9⟩ := hU
  rw [List.all_eq_true] at u3 u4 u6 u7 u8
  have hcl : c < l.length := by omega
  have hsel : ∀ (i : Nat) (o : Oper), l[i]? = some o → ∀ cs b', o.op ≠ .select cs b' := fun i o hi cs b' => Region.noSelect_spec u9 i o cs b' (by simpa using hi)
  have hguard : ∀ (i : Nat) (o : Oper), l[i]? = some o → o.guard = none := fun i o hi => by
    have := u3 o (List.mem_of_getElem? hi)
    simpa using this
  have hdst : ∀ (i : Nat) (o : Oper), i < m → l[i]? = some o → ∃ d, o.dst = some d ∧ d < a0.tmps.size := fun i o him hi => by
    have := u7 i (by simpa using him)
    rw [hi] at this
    obtain ⟨d, hd⟩ := Option.isSome_iff_exists.1 this
    exact ⟨d, hd, (regB_dst hB hi hd).1⟩
  have hdm : ∀ d, om.dst = some d → d < a0.tmps.size := fun d hd => (regB_dst hB hmm hd).1
  obtain ⟨dc, hdc, hdcl⟩ := hdst c oc u2 hc
  have hpw : (l.take c ++ (l.take m).drop (c + 1)).Pairwise (fun x y => x.dst ≠ y.dst) := by
    have hsub : List.Sublist (l.take c ++ (l.take m).drop (c + 1)) l := by
      have h1 : List.Sublist (l.take c ++ (l.take m).drop (c + 1)) (l.take m) := by
        have e : l.take m = l.take c ++ (l.take m).drop c := by
          have := List.take_append_drop c (l.take m)
          rw [List.take_take, Nat.min_eq_left (by omega)] at this
          exact this.symm
        conv => arg 2; rw [e]
        exact List.Sublist.append (List.Sublist.refl _) (by rw [← List.drop_drop]; exact List.drop_sublist _ _)
      exact h1.trans (List.take_sublist _ _)
    have hall : l.Pairwise (fun x y => x.dst = none ∨ x.dst ≠ y.dst) := by
      rw [List.pairwise_iff_getElem]
      intro i j hi hj hij
      cases hx : l[i].dst with
      | none => exact Or.inl rfl
      | some d =>
        right
        intro e
        have := regB_ne hB (i := i) (j := j) (o := l[i]) (o' := l[j]) (by simp) (by simp) hx e.symm
        omega
    have h2 := hall.sublist hsub
    refine List.Pairwise.imp_of_mem (fun {x y} hx _ hxy => ?_) h2
    obtain ⟨k, hk1, _, hk3⟩ := take_mem c m u2 hx
    obtain ⟨d, hd, _⟩ := hdst k x hk1 hk3
    rcases hxy with h' | h'
    · rw [hd] at h'; cases h'
    · exact h'
  obtain ⟨F, ⟨hcall, hstore, hfin⟩, f2, f3, f4, f5⟩ := quiet_all _ a0 (fun x hx => by obtain ⟨k, _, _, hk⟩ := take_mem c m u2 hx; exact hguard k x hk)
    (fun x hx => by obtain ⟨k, hk1, _, hk⟩ := take_mem c m u2 hx; exact hdst k x hk1 hk) hpw h
  -- a slot that no operation but the call and the store writes
  have f4' : ∀ t, (∀ o ∈ l, o.dst ≠ some t) → F.tmps.getD t undef = a0.tmps.getD t undef := fun t ht => f4 t fun x hx => by
    obtain ⟨k, _, _, hk⟩ := take_mem c m u2 hx
    exact ht x (List.mem_of_getElem? hk)
  have hFc : ∀ i o d, l[i]? = some o → i < m → i ≠ c → o.dst = some d → ∃ A v, (∀ w, (∃ x : Ext W, w = x.w) → o.quietAt P A (fun w' => ∃ x : Ext W, w' = x.w) w v) ∧ F.tmps.getD d undef = v ∧ (∀ t, (∀ k x, i ≤ k → l[k]? = some x → x.dst ≠ some t) → A.tmps.getD t undef = F.tmps.getD t undef) := by
    intro i o d hi him hic hd
    obtain ⟨pre, post, e, hpost⟩ := take_split c m u2 i him hic o hi
    obtain ⟨A, v, q1, q2, q3⟩ := f5 pre o post e
    refine ⟨A, v, q1, q2 d hd, fun t ht => q3 t fun x hx => ?_⟩
    obtain ⟨k, hk1, hk2⟩ := hpost x hx
    exact ht k x hk1 hk2
  refine wp_region_extJ hm hB (fun dn vs w => if dn m = true then End w else (Below W.heap.size W w ∧ (dn c = true → Val (vs c) w))) (fun _ _ _ => True)
    (fun i v _ _ => i ≠ c → i ≠ m → ∀ o d, l[i]? = some o → o.dst = some d → v = F.tmps.getD d undef) (fun vs => ?_) (fun i j _ _ v d w w' h _ => h) ?_ ?_
  · rw [if_neg (by simp)]
    exact ⟨(Below.refl _ _).drew, fun h => by cases h⟩
  · intro i o hi a w vs dn hdf hsz hdone hafter hJ hkeep hval hR
    have hw : Region.wanted o (yielded l.toArray a.tmps) = true := by unfold Region.wanted; rw [hguard i o hi]
    rw [if_pos hw]
    have hil : i < l.length := (List.getElem?_eq_some_iff.1 hi).1
    have hread := u8 o (List.mem_of_getElem? hi)
    unfold readsOk at hread
    rw [List.all_eq_true] at hread
    have hslot : ∀ t, Operand.tmp t ∈ o.op.operands → (∃ j oj, afterB o j = true ∧ l[j]? = some oj ∧ oj.dst = some t) ∨ ∀ x ∈ l, x.dst ≠ some t := fun t ht => by
      have := hread (.tmp t) (Array.mem_toList_iff.2 ht)
      simp only [Bool.or_eq_true, List.any_eq_true, List.all_eq_true, Bool.and_eq_true, List.mem_range] at this
      rcases this with ⟨j, hj, h1, h2⟩ | h'
      · left
        rw [List.getElem?_eq_getElem hj] at h2
        exact ⟨j, l[j], h1, List.getElem?_eq_getElem hj, by simpa using h2⟩
      · right
        intro x hx
        have := h' x hx
        simpa using this
    have hkeep' : ∀ t, (∀ x ∈ l, x.dst ≠ some t) → a.tmps.getD t undef = a0.tmps.getD t undef := fun t ht => hkeep t (by
      unfold keepB
      rw [List.all_eq_true]
      intro j hj
      have hj' : j < l.length := by simpa using hj
      rw [List.getElem?_eq_getElem hj']
      have := ht l[j] (List.getElem_mem hj')
      simp [this])
    by_cases him : i = m
    · subst him
      obtain rfl : om = o := Option.some.inj (hmm.symm.trans hi)
      have hdc' : dn c = true := hafter c (by unfold afterI at u5; rw [hmm] at u5; exact u5)
      have hnm : dn i ≠ true := fun h' => (hdone i h').1 rfl
      rw [if_neg hnm] at hJ
      have hEq : execOp a.eval om = execOp (F.put oc.dst (vs c)).eval om := eval_same (hsel i om hi) fun t ht => by
        rcases hslot t ht with ⟨j, oj, h1, h2, h3⟩ | hno
        · have e1 := hval j oj t h1 h2 h3
          by_cases hjc : j = c
          · subst hjc
            obtain rfl : oc = oj := Option.some.inj (hc.symm.trans h2)
            rw [e1, h3, put_getD, if_pos ⟨rfl, by rw [f2]; exact (regB_dst hB hc h3).1⟩]
          · have hji : j < i := afterB_lt hB hi h1
            have e2 := hR j oj h1 h2 hjc (by omega) oj t h2 h3
            rw [e1, e2, hdc, put_getD, if_neg]
            rintro ⟨rfl, _⟩
            exact hjc (regB_ne hB h2 hc h3 hdc)
        · rw [hkeep' t hno, hdc, put_getD, if_neg, f4' t hno]
          rintro ⟨rfl, _⟩
          exact hno oc (List.mem_of_getElem? hc) hdc
      have hst := hstore (vs c) w hJ.1 (hJ.2 hdc') (fun a' w' => ∃ v, a' = (F.put oc.dst (vs c)).put om.dst v ∧ End w') (fun w2 h2 => ⟨undef, rfl, h2⟩)
      have ht := wp_transfer (a := a) (Q := Q) hEq (fun d hd => by rw [put_size, f2]; exact hdm d hd) hst
      refine Oper.wp_mono (fun a' w' ⟨v, e, he⟩ => ?_) ht
      refine ⟨undef, fun _ => rfl, by rw [e, hom]; rfl, ?_, trivial, fun _ h' => absurd rfl h'⟩
      rw [if_pos (by simp [updB])]; exact he
    · have hlt : i < m := by omega
      have hnm : dn m ≠ true := fun h' => by
        have := (hdone m h').2
        have h4 := u4 i (by simpa using hlt)
        rw [h4] at this; cases this
      rw [if_neg hnm] at hJ
      have hnm' : updB dn i m ≠ true := by unfold updB; rw [if_neg (fun h => him h.symm)]; exact hnm
      obtain ⟨d, hd, hdl⟩ := hdst i o hlt hi
      by_cases hic : i = c
      · subst hic
        obtain rfl : oc = o := Option.some.inj (hc.symm.trans hi)
        have hEq : execOp a.eval oc = execOp F.eval oc := eval_same (hsel i oc hi) fun t ht => by
          rcases hslot t ht with ⟨j, oj, h1, h2, h3⟩ | hno
          · have hji : j < i := afterB_lt hB hi h1
            rw [hval j oj t h1 h2 h3, hR j oj h1 h2 (by omega) (by omega) oj t h2 h3]
          · rw [hkeep' t hno, f4' t hno]
        have hca := hcall w hJ.1 (fun a' w' => ∃ v, a' = F.put oc.dst v ∧ (Below W.heap.size W w' ∧ Val v w')) (fun v w2 h1 h2 => ⟨v, rfl, h1, h2⟩)
        have ht := wp_transfer (a := a) (Q := Q) hEq (fun d hd => by rw [f2]; exact (regB_dst hB hi hd).1) hca
        refine Oper.wp_mono (fun a' w' ⟨v, e, hb, hv⟩ => ?_) ht
        refine ⟨v, (fun h' => by rw [hd] at h'; cases h'), e, ?_, trivial, fun h' => absurd rfl h'⟩
        rw [if_neg hnm']
        exact ⟨hb, fun _ => by simp only [updV, if_pos]; exact hv⟩
      · obtain ⟨A, v, q1, q2, q3⟩ := hFc i o d hi hlt hic hd
        have h6 := u6 i (by simpa using hlt)
        rw [Bool.or_eq_true, decide_eq_true_eq] at h6
        have h6' := h6.resolve_left hic
        rw [Bool.and_eq_true, hi] at h6'
        obtain ⟨h61, h62⟩ := h6'
        have hEq : execOp a.eval o = execOp A.eval o := eval_same (hsel i o hi) fun t ht => by
          rcases hslot t ht with ⟨j, oj, h1, h2, h3⟩ | hno
          · have hji : j < i := afterB_lt hB hi h1
            have hjc : j ≠ c := by
              rintro rfl
              unfold afterI at h62
              rw [hi] at h62
              simp [h1] at h62
            rw [hval j oj t h1 h2 h3, hR j oj h1 h2 hjc (by omega) oj t h2 h3, q3 t]
            intro k x hk hx e
            have := regB_ne hB hx h2 e h3
            omega
          · rw [hkeep' t hno, q3 t (fun k x _ hx => hno x (List.mem_of_getElem? hx)), f4' t hno]
        refine wp_of_quiet (C := fun w' => ∃ x : Ext W, w' = x.w) hEq ⟨⟨w, hJ.1⟩, rfl⟩ (q1 w ⟨⟨w, hJ.1⟩, rfl⟩) fun w' hw' ha => ?_
        obtain ⟨x, rfl⟩ := hw'
        refine ⟨v, (fun h' => by rw [hd] at h'; cases h'), rfl, ?_, trivial, fun _ _ o' d' ho' hd' => ?_⟩
        · rw [if_neg hnm']
          refine ⟨x.h, fun hdc' => ?_⟩
          have hdc2 : dn c = true := by unfold updB at hdc'; rwa [if_neg (fun h => hic h.symm)] at hdc'
          have haddr : isAddr o = true := by
            rw [Bool.or_eq_true] at h61
            rcases h61 with h' | h'
            · have := (hdone c hdc2).2
              rw [h'] at this; cases this
            · exact h'
          have e := ha haddr
          rw [e]
          have hv := hJ.2 hdc2
          simpa [updV, Ne.symm hic] using hv
        · obtain rfl : o = o' := Option.some.inj (hi.symm.trans ho')
          obtain rfl : d = d' := Option.some.inj (hd.symm.trans hd')
          exact q2.symm
  · intro vs dn w hdn hJ hR
    rw [if_pos (hdn m (by omega))] at hJ
    have hfr : putAll l vs 0 a0 = (F.put oc.dst (vs c)).put om.dst (vs m) := by
      obtain ⟨p1, p2⟩ := putAll_size l vs 0 a0
      refine frame_ext (by rw [p1, put_size, put_size, f2]) (by rw [p2, put_defers, put_defers, f3]) fun t => ?_
      by_cases ht : ∃ (j : Nat) (oj : Oper), l[j]? = some oj ∧ oj.dst = some t
      · obtain ⟨j, oj, h1, h2⟩ := ht
        have htl := (regB_dst hB h1 h2).1
        rw [putAll_at l t vs 0 a0 j oj h1 h2 htl (fun j' o' hj' ho' e => by have := regB_ne hB ho' h1 e h2; omega), Nat.zero_add]
        by_cases hjm : j = m
        · subst hjm
          obtain rfl : om = oj := Option.some.inj (hmm.symm.trans h1)
          rw [h2, put_getD, if_pos ⟨rfl, by rw [put_size, f2]; exact htl⟩]
        · have hne : (((F.put oc.dst (vs c)).put om.dst (vs m)).tmps.getD t undef) = ((F.put oc.dst (vs c)).tmps.getD t undef) := by
            cases hdo : om.dst with
            | none => rfl
            | some d =>
              rw [put_getD, if_neg]
              rintro ⟨rfl, _⟩
              exact hjm (regB_ne hB h1 hmm h2 hdo)
          rw [hne]
          by_cases hjc : j = c
          · subst hjc
            obtain rfl : oc = oj := Option.some.inj (hc.symm.trans h1)
            rw [h2, put_getD, if_pos ⟨rfl, by rw [f2]; exact htl⟩]
          · rw [hR j oj h1 hjc hjm oj t h1 h2, hdc, put_getD, if_neg]
            rintro ⟨rfl, _⟩
            exact hjc (regB_ne hB h1 hc h2 hdc)
      · have hno : ∀ x ∈ l, x.dst ≠ some t := fun x hx e => by
          obtain ⟨j, hj⟩ := List.getElem?_of_mem hx
          exact ht ⟨j, x, hj, e⟩
        rw [putAll_other l t vs 0 a0 (fun j o hj => hno o (List.mem_of_getElem? hj))]
        have hne : (((F.put oc.dst (vs c)).put om.dst (vs m)).tmps.getD t undef) = ((F.put oc.dst (vs c)).tmps.getD t undef) := by
          cases hdo : om.dst with
          | none => rfl
          | some d =>
            rw [put_getD, if_neg]
            rintro ⟨rfl, _⟩
            exact hno om (List.mem_of_getElem? hmm) hdo
        rw [hne, hdc, put_getD, if_neg, f4' t hno]
        rintro ⟨rfl, _⟩
        exact hno oc (List.mem_of_getElem? hc) hdc
    rw [hfr, hom]
    have hf := hfin (vs c) w hJ
    rw [hom] at hf
    exact hf
end
end Go.Proofs.Ytnmccbjdfdbgpaa
/-
  DERIVED: THE SHELF's CONTRACTS AT THIS DUMP, IN PLAIN WORDS (tools/lay-plain.mjs out of 'TryShelf.lean', which tools/lay-shelf.mjs wrote): THE SAME DECLARATIONS UNDER THE SAME NAMES: 'import', 'namespace', 'open', 'def', 'theorem' AND NOTHING ELSE: no command of the shelf's: FOR A HAND-IN. Each laying: the table of numbers ('.._ren') and one theorem, a field a fact of the dump's own or the kernel's comparison; each contract: ONE APPLICATION.
-/
namespace Go.Proofs
open Go.Shelf
def Try.lays189_ren : Go.Shelf.Ren := ⟨fun | 189 => 73 | 125 => 86 | 257 => 85 | 128 => 101 | 129 => 102 | 294 => 92 | 295 => 93 | 296 => 94 | 297 => 95 | 298 => 96 | 299 => 97 | 216 => 98 | 300 => 99 | 301 => 100 | 328 => 105 | 329 => 106 | 330 => 107 | 331 => 108 | 332 => 109 | 215 => 110 | 343 => 111 | n => n, fun | 28 => 36 | 3 => 3 | 46 => 114 | 0 => 0 | 51 => 140 | 53 => 143 | 4 => 4 | 183 => 153 | 182 => 152 | 131 => 133 | 5 => 5 | 9 => 9 | 218 => 162 | 222 => 166 | 228 => 168 | 229 => 169 | n => n, fun | n => n⟩
theorem Try.lays189 : Go.Proofs.Lays.n189 Try.prog Try.lays189_ren := {
  mixed := by kernel_rfl
  f125 := Try.func86.trans (congrArg some (by kernel_rfl))
  f128 := Try.func101.trans (congrArg some (by kernel_rfl))
  f129 := Try.func102.trans (congrArg some (by kernel_rfl))
  f189 := Try.func73.trans (congrArg some (by kernel_rfl))
  f215 := Try.func110.trans (congrArg some (by kernel_rfl))
  f216 := Try.func98.trans (congrArg some (by kernel_rfl))
  f257 := Try.func85.trans (congrArg some (by kernel_rfl))
  f294 := Try.func92.trans (congrArg some (by kernel_rfl))
  f295 := Try.func93.trans (congrArg some (by kernel_rfl))
  f296 := Try.func94.trans (congrArg some (by kernel_rfl))
  f297 := Try.func95.trans (congrArg some (by kernel_rfl))
  f298 := Try.func96.trans (congrArg some (by kernel_rfl))
  f299 := Try.func97.trans (congrArg some (by kernel_rfl))
  f300 := Try.func99.trans (congrArg some (by kernel_rfl))
  f301 := Try.func100.trans (congrArg some (by kernel_rfl))
  f328 := Try.func105.trans (congrArg some (by kernel_rfl))
  f329 := Try.func106.trans (congrArg some (by kernel_rfl))
  f330 := Try.func107.trans (congrArg some (by kernel_rfl))
  f331 := Try.func108.trans (congrArg some (by kernel_rfl))
  f332 := Try.func109.trans (congrArg some (by kernel_rfl))
  f343 := Try.func111.trans (congrArg some (by kernel_rfl))
  t0 := Try.underlying0
  a0 := Try.isAgg0
  z0 := Try.sizeOf0
  v0 := Try.zeroValue0
  t3 := Try.underlying3
  a3 := Try.isAgg3
  z3 := Try.sizeOf3
  v3 := Try.zeroValue3
  t4 := Try.underlying4
  a4 := Try.isAgg4
  z4 := Try.sizeOf4
  v4 := Try.zeroValue4
  t5 := Try.underlying5
  a5 := Try.isAgg5
  z5 := Try.sizeOf5
  v5 := Try.zeroValue5
  t9 := Try.underlying9
  a9 := Try.isAgg9
  z9 := Try.sizeOf9
  v9 := Try.zeroValue9
  t28 := Try.underlying36
  a28 := Try.isAgg36
  z28 := Try.sizeOf36
  v28 := Try.zeroValue36
  t46 := Try.underlying114
  a46 := Try.isAgg114
  z46 := Try.sizeOf114
  v46 := Try.zeroValue114
  t51 := Try.underlying140
  a51 := Try.isAgg140
  z51 := Try.sizeOf140
  v51 := Try.zeroValue140
  t53 := Try.underlying143
  a53 := Try.isAgg143
  z53 := Try.sizeOf143
  v53 := Try.zeroValue143
  t131 := Try.underlying133
  a131 := Try.isAgg133
  z131 := Try.sizeOf133
  v131 := Try.zeroValue133
  t182 := Try.underlying152
  a182 := Try.isAgg152
  z182 := Try.sizeOf152
  v182 := Try.zeroValue152
  t183 := Try.underlying153
  a183 := Try.isAgg153
  z183 := Try.sizeOf153
  v183 := Try.zeroValue153
  t218 := Try.underlying162
  a218 := Try.isAgg162
  z218 := Try.sizeOf162
  v218 := Try.zeroValue162
  t222 := Try.underlying166
  a222 := Try.isAgg166
  z222 := Try.sizeOf166
  v222 := Try.zeroValue166
  t228 := Try.underlying168
  a228 := Try.isAgg168
  z228 := Try.sizeOf168
  v228 := Try.zeroValue168
  t229 := Try.underlying169
  a229 := Try.isAgg169
  z229 := Try.sizeOf169
  v229 := Try.zeroValue169 }
open Go.Sort Go.RowKit in
theorem Try.slices_Sort_int (blk off cap : Nat) (zs : List Int) (w : World) (hH : Holds (Value.int .i64) w blk off zs.toArray) (hblk : blk < w.heap.size) (hsz : zs.length < 4611686018427387904) :
    Calls Try.prog 73 #[.slice (some ⟨blk, off, none⟩) zs.length cap] w fun e w' =>
      e = .returned (.tuple #[]) ∧ ∃ n os, w' = grow (putRow (Value.int .i64) (Sort.ahead w n) blk off (zs.mergeSort fun x y => decide (x ≤ y)).toArray) os := Any.slices_Sort_int Try.lays189 blk off cap zs w hH hblk hsz
def Try.lays264_ren : Go.Shelf.Ren := ⟨fun | 264 => 84 | n => n, fun | 53 => 143 | 46 => 114 | n => n, fun | n => n⟩
theorem Try.lays264 : Go.Proofs.Lays.n264 Try.prog Try.lays264_ren := {
  mixed := by kernel_rfl
  f264 := Try.func84.trans (congrArg some (by kernel_rfl))
  t46 := Try.underlying114
  a46 := Try.isAgg114
  z46 := Try.sizeOf114
  v46 := Try.zeroValue114
  t53 := Try.underlying143
  a53 := Try.isAgg143
  z53 := Try.sizeOf143
  v53 := Try.zeroValue143 }
open Go.RowKit Go.Lib in
theorem Try.bits_Mul64 (x y : Nat) (hx : x < 18446744073709551616) (hy : y < 18446744073709551616) (w : World) :
    Calls Try.prog 84 #[.int .u64 x, .int .u64 y] w fun e w' => e = .returned (.tuple #[.int .u64 ((x * y / 18446744073709551616 : Nat) : Int), .int .u64 ((x * y % 18446744073709551616 : Nat) : Int)]) ∧ w' = w := Any.bits_Mul64 Try.lays264 x y hx hy w
def Try.lays212_ren : Go.Shelf.Ren := ⟨fun | 212 => 71 | 263 => 83 | 264 => 84 | n => n, fun | 46 => 114 | 51 => 140 | 146 => 141 | 53 => 143 | 148 => 144 | n => n, fun | n => n⟩
theorem Try.lays212 : Go.Proofs.Lays.n212 Try.prog Try.lays212_ren := {
  mixed := by kernel_rfl
  f212 := Try.func71.trans (congrArg some (by kernel_rfl))
  f263 := Try.func83.trans (congrArg some (by kernel_rfl))
  f264 := Try.func84.trans (congrArg some (by kernel_rfl))
  t46 := Try.underlying114
  a46 := Try.isAgg114
  z46 := Try.sizeOf114
  v46 := Try.zeroValue114
  t51 := Try.underlying140
  a51 := Try.isAgg140
  z51 := Try.sizeOf140
  v51 := Try.zeroValue140
  t53 := Try.underlying143
  a53 := Try.isAgg143
  z53 := Try.sizeOf143
  v53 := Try.zeroValue143
  t146 := Try.underlying141
  a146 := Try.isAgg141
  z146 := Try.sizeOf141
  v146 := Try.zeroValue141
  t148 := Try.underlying144
  a148 := Try.isAgg144
  z148 := Try.sizeOf144
  v148 := Try.zeroValue144 }
open Go.RowKit Go.Lib in
/-- math/bits.Mul: "Mul returns the full-width product of x and y": on a machine of 64 bits: Mul64's. (LAID: no walk: one application.) -/
theorem Try.bits_Mul (x y : Nat) (hx : x < 18446744073709551616) (hy : y < 18446744073709551616) (w : World) :
    Calls Try.prog 71 #[.int .u64 x, .int .u64 y] w fun e w' => e = .returned (.tuple #[.int .u64 ((x * y / 18446744073709551616 : Nat) : Int), .int .u64 ((x * y % 18446744073709551616 : Nat) : Int)]) ∧ w' = w := Any.bits_Mul Try.lays212 x y hx hy w
open Go.RowKit Go.Sort in
/-- .. and plain. (LAID: no walk: one application.) -/
theorem Try.slices_Sort_int_none (p : Option Addr) (cap : Nat) (w : World) :
    Calls Try.prog 73 #[.slice p 0 cap] w fun e w' => e = .returned (.tuple #[]) ∧ w' = w := Any.slices_Sort_int_none Try.lays189 p cap w
end Go.Proofs
/- What is proved: nothing of Go: the number with so many before it is the one at that place in ascending order. Conditions: those that each lemma states. -/
namespace Go.Proofs.Ytnmccbjdfdbgpaa

def getI (l : List Int) (i : Nat) : Int := l.getD i 0
def leI (x y : Int) : Bool := decide (x ≤ y)
/-- How many of the first k come before the i-th. -/
def befK (l : List Int) (i : Nat) : Nat → Nat
  | 0 => 0
  | k + 1 => befK l i k + if getI l k < getI l i ∨ (getI l k = getI l i ∧ k < i) then 1 else 0
/-- The first from i on, of n, before which just m come. -/
def nthFrom (l : List Int) (m : Nat) : Nat → Nat → Int
  | 0, _ => 0
  | n + 1, i => if befK l i l.length = m then getI l i else nthFrom l m n (i + 1)
def nthB (l : List Int) (m : Nat) : Int := nthFrom l m l.length 0
def sortB (l : List Int) : List Int := l.mergeSort leI

theorem sortB_perm (l : List Int) : (sortB l).Perm l := List.mergeSort_perm l leI
theorem sortB_len (l : List Int) : (sortB l).length = l.length := (sortB_perm l).length_eq
theorem sortB_sorted (l : List Int) : (sortB l).Pairwise (· ≤ ·) := by
  have h := List.pairwise_mergeSort (le := leI) (fun a b c h1 h2 => by unfold leI at *; simp only [decide_eq_true_eq] at *; omega) (fun a b => by unfold leI; simp only [Bool.or_eq_true, decide_eq_true_eq]; omega) l
  exact h.imp fun h => by unfold leI at h; simpa using h
theorem getI_take {l : List Int} {k i : Nat} (h : i < k) : getI (l.take k) i = getI l i := by
  unfold getI; simp only [List.getD_eq_getElem?_getD]; rw [List.getElem?_take]; simp [h]
theorem take_succI {l : List Int} {k : Nat} (h : k < l.length) : l.take (k + 1) = l.take k ++ [getI l k] := by
  rw [List.take_add_one]
  unfold getI
  rw [List.getD_eq_getElem?_getD, List.getElem?_eq_getElem h]; rfl
/-- In a sorted list, the places of x. -/
theorem sorted_at {x : Int} : ∀ {s : List Int} {n : Nat}, s.Pairwise (· ≤ ·) → s.countP (fun y => decide (y < x)) ≤ n → n < s.countP (fun y => decide (y < x)) + s.count x → getI s n = x := by
  intro s
  induction s with
  | nil => intro n _ _ h; simp at h
  | cons y t ih =>
    intro n hs h1 h2
    rw [List.pairwise_cons] at hs
    rw [List.countP_cons] at h1 h2
    rw [List.count_cons] at h2
    by_cases hy : y < x
    · have e : (y == x) = false := by simp; omega
      rw [e] at h2
      simp only [hy, decide_true, if_true, Bool.false_eq_true, if_false] at h1 h2
      obtain ⟨m, rfl⟩ : ∃ m, n = m + 1 := ⟨n - 1, by omega⟩
      have := ih hs.2 (n := m) (by omega) (by omega)
      simpa [getI] using this
    · by_cases he : y = x
      · subst he
        have h0 : t.countP (fun z => decide (z < y)) = 0 := by
          rw [List.countP_eq_zero]; intro z hz; have := hs.1 z hz; simp; omega
        simp only [hy, decide_false, Bool.false_eq_true, if_false, h0, beq_self_eq_true, if_true] at h1 h2
        cases n with
        | zero => simp [getI]
        | succ m =>
          have := ih hs.2 (n := m) (by omega) (by omega)
          simpa [getI] using this
      · have h0 : t.countP (fun z => decide (z < x)) = 0 := by
          rw [List.countP_eq_zero]; intro z hz; have := hs.1 z hz; simp; omega
        have h3 : t.count x = 0 := by
          rw [List.count_eq_zero]; intro hx; have := hs.1 x hx; omega
        have e : (y == x) = false := by simpa using he
        rw [e, h0, h3] at h2
        simp [hy] at h2
/-- The places of x in a list, one for each number below its count. -/
theorem count_at {x : Int} : ∀ {l : List Int} {j : Nat}, j < l.count x → ∃ i, i < l.length ∧ getI l i = x ∧ (l.take i).count x = j := by
  intro l
  induction l with
  | nil => intro j h; simp at h
  | cons y t ih =>
    intro j h
    rw [List.count_cons] at h
    by_cases he : y = x
    · subst he
      simp only [beq_self_eq_true, if_true] at h
      cases j with
      | zero => exact ⟨0, by simp, by simp [getI], by simp⟩
      | succ j =>
        obtain ⟨i, h1, h2, h3⟩ := ih (j := j) (by omega)
        exact ⟨i + 1, by simp; omega, by simpa [getI] using h2, by rw [List.take_succ_cons, List.count_cons, h3]; simp⟩
    · have e : (y == x) = false := by simpa using he
      rw [e] at h
      obtain ⟨i, h1, h2, h3⟩ := ih (j := j) (by simpa using h)
      exact ⟨i + 1, by simp; omega, by simpa [getI] using h2, by rw [List.take_succ_cons, List.count_cons, h3, e]; simp⟩
theorem befK_eq (l : List Int) (i : Nat) : ∀ k, k ≤ l.length → befK l i k = (l.take k).countP (fun y => decide (y < getI l i)) + ((l.take (min k i)).count (getI l i)) := by
  intro k
  induction k with
  | zero => intro _; simp [befK]
  | succ k ih =>
    intro hk
    unfold befK
    rw [ih (by omega), take_succI (by omega), List.countP_append]
    by_cases hki : k < i
    · rw [show min (k + 1) i = k + 1 from by omega, show min k i = k from by omega, take_succI (by omega), List.count_append]
      by_cases h1 : getI l k < getI l i
      · have e : (getI l k == getI l i) = false := by simp; omega
        simp [h1, e, List.count_cons]; omega
      · by_cases h2 : getI l k = getI l i
        · simp [h2, hki]; omega
        · simp [h1, h2]
    · rw [show min (k + 1) i = i from by omega, show min k i = i from by omega]
      by_cases h1 : getI l k < getI l i
      · simp [h1]; omega
      · simp [h1, hki]
theorem befK_all {l : List Int} {i : Nat} (hi : i < l.length) : befK l i l.length = l.countP (fun y => decide (y < getI l i)) + (l.take i).count (getI l i) := by
  rw [befK_eq l i l.length (Nat.le_refl _), List.take_length, show min l.length i = i from by omega]
theorem take_count_lt {l : List Int} {i : Nat} (hi : i < l.length) : (l.take i).count (getI l i) < l.count (getI l i) := by
  have h1 : (l.take (i + 1)).count (getI l i) ≤ l.count (getI l i) := (List.take_sublist _ _).count_le _
  rw [take_succI hi, List.count_append] at h1
  simp at h1
  omega
theorem sort_at {l : List Int} {i : Nat} (hi : i < l.length) : getI (sortB l) (befK l i l.length) = getI l i := by
  have hp := sortB_perm l
  refine sorted_at (sortB_sorted l) ?_ ?_
  · rw [hp.countP_eq, befK_all hi]; omega
  · rw [hp.countP_eq, hp.count_eq, befK_all hi]
    have := take_count_lt hi
    omega
theorem nthFrom_at {l : List Int} {m : Nat} (hv : ∀ i, i < l.length → befK l i l.length = m → getI l i = getI (sortB l) m) : ∀ n i, (∃ j, i ≤ j ∧ j < i + n ∧ befK l j l.length = m) → i + n ≤ l.length → nthFrom l m n i = getI (sortB l) m := by
  intro n
  induction n with
  | zero => intro i ⟨j, h1, h2, _⟩ _; omega
  | succ n ih =>
    intro i ⟨j, h1, h2, h3⟩ hn
    unfold nthFrom
    by_cases e : befK l i l.length = m
    · rw [if_pos e]; exact hv i (by omega) e
    · rw [if_neg e]
      exact ih (i + 1) ⟨j, by by_cases hj : j = i; (subst hj; exact absurd h3 e); omega, by omega, h3⟩ (by omega)
/-- The document's way and the program's are one. -/
theorem nthB_eq {l : List Int} {m : Nat} (hm : m < l.length) : nthB l m = getI (sortB l) m := by
  refine nthFrom_at (fun i hi e => by rw [← e]; exact (sort_at hi).symm) _ _ ?_ (by omega)
  have hp := sortB_perm l
  have hs := sortB_sorted l
  have hms : m < (sortB l).length := by rw [sortB_len]; exact hm
  obtain ⟨x, hx⟩ : ∃ x, getI (sortB l) m = x := ⟨_, rfl⟩
  -- the place of x in l whose count of elders is what is left of m
  have hb : (sortB l).countP (fun y => decide (y < x)) ≤ m ∧ m < (sortB l).countP (fun y => decide (y < x)) + (sortB l).count x := by
    have key : ∀ (s : List Int) (m : Nat), s.Pairwise (· ≤ ·) → m < s.length → getI s m = x → s.countP (fun y => decide (y < x)) ≤ m ∧ m < s.countP (fun y => decide (y < x)) + s.count x := by
      intro s
      induction s with
      | nil => intro m _ h; simp at h
      | cons y t ih =>
        intro m hs h hx
        rw [List.pairwise_cons] at hs
        rw [List.countP_cons, List.count_cons]
        cases m with
        | zero =>
          have e : y = x := by simpa [getI] using hx
          subst e
          have h0 : t.countP (fun z => decide (z < y)) = 0 := by
            rw [List.countP_eq_zero]; intro z hz; have := hs.1 z hz; simp; omega
          simp [h0]
        | succ m =>
          have hx' : getI t m = x := by simpa [getI] using hx
          have hml : m < t.length := by simpa using h
          obtain ⟨k1, k2⟩ := ih m hs.2 hml hx'
          have hle : y ≤ x := by
            rw [← hx']
            refine hs.1 _ ?_
            unfold getI
            rw [List.getD_eq_getElem?_getD, List.getElem?_eq_getElem hml]
            exact List.getElem_mem hml
          by_cases e : y = x
          · subst e
            simp; omega
          · have e2 : (y == x) = false := by simpa using e
            have e3 : y < x := by omega
            simp [e2, e3]; omega
    exact key _ _ hs hms hx
  rw [hp.countP_eq, hp.count_eq] at hb
  obtain ⟨i, h1, h2, h3⟩ := count_at (l := l) (x := x) (j := m - l.countP (fun y => decide (y < x))) (by omega)
  exact ⟨i, Nat.zero_le _, by omega, by rw [befK_all h1, h2, h3]; omega⟩
end Go.Proofs.Ytnmccbjdfdbgpaa
/- What is proved: nothing of Go: midpoints of two lists that differ in few places. Conditions: those that each lemma states. -/
namespace Go.Proofs.Ytnmccbjdfdbgpaa

def cntB (p : Nat → Bool) : Nat → Nat
  | 0 => 0
  | n + 1 => cntB p n + if p n then 1 else 0
theorem cntB_succ (p : Nat → Bool) (n : Nat) : cntB p (n + 1) = cntB p n + if p n then 1 else 0 := rfl
theorem cntB_le (p : Nat → Bool) : ∀ n, cntB p n ≤ n
  | 0 => Nat.le_refl _
  | n + 1 => by unfold cntB; have := cntB_le p n; split <;> omega
theorem cntB_mono {p q : Nat → Bool} : ∀ {n}, (∀ i, i < n → p i = true → q i = true) → cntB p n ≤ cntB q n
  | 0, _ => Nat.le_refl _
  | n + 1, h => by
    have h1 := cntB_mono (n := n) fun i hi => h i (by omega)
    have h2 := h n (by omega)
    unfold cntB
    cases hp : p n
    · simp; omega
    · rw [h2 hp]; simp; omega
theorem cntB_or {p q r : Nat → Bool} : ∀ {n}, (∀ i, i < n → p i = true → q i = true ∨ r i = true) → cntB p n ≤ cntB q n + cntB r n
  | 0, _ => Nat.le_refl _
  | n + 1, h => by
    have h1 := cntB_or (n := n) fun i hi => h i (by omega)
    have h2 := h n (by omega)
    unfold cntB
    cases hp : p n
    · simp; omega
    · rcases h2 hp with e | e <;> rw [e] <;> simp <;> (try split) <;> omega
theorem cntB_not {p : Nat → Bool} : ∀ n, cntB p n + cntB (fun i => !p i) n = n
  | 0 => rfl
  | n + 1 => by
    have h := cntB_not (p := p) n
    unfold cntB
    cases p n <;> simp <;> omega
theorem countP_cntB {l : List Int} (p : Int → Bool) : ∀ n, n ≤ l.length → (l.take n).countP p = cntB (fun i => p (getI l i)) n
  | 0, _ => by simp [cntB]
  | n + 1, h => by
    rw [take_succI (by omega), List.countP_append, countP_cntB p n (by omega), cntB_succ]
    simp
theorem countP_all {l : List Int} (p : Int → Bool) : l.countP p = cntB (fun i => p (getI l i)) l.length := by
  rw [← countP_cntB p l.length (Nat.le_refl _), List.take_length]
theorem sorted_le {x : Int} : ∀ {s : List Int} {k : Nat}, s.Pairwise (· ≤ ·) → k < s.length → k + 1 ≤ s.countP (fun y => decide (y ≤ x)) → getI s k ≤ x := by
  intro s
  induction s with
  | nil => intro k _ h; simp at h
  | cons y t ih =>
    intro k hs h h1
    rw [List.pairwise_cons] at hs
    rw [List.countP_cons] at h1
    by_cases hy : y ≤ x
    · cases k with
      | zero => simpa [getI] using hy
      | succ k =>
        simp only [hy, decide_true, if_true] at h1
        have := ih (k := k) hs.2 (by simpa using h) (by omega)
        simpa [getI] using this
    · have h0 : t.countP (fun z => decide (z ≤ x)) = 0 := by
        rw [List.countP_eq_zero]; intro z hz; have := hs.1 z hz; simp; omega
      simp only [hy, decide_false, Bool.false_eq_true, if_false, h0] at h1
      omega
theorem le_sorted {x : Int} : ∀ {s : List Int} {k : Nat}, s.Pairwise (· ≤ ·) → k < s.length → s.countP (fun y => decide (y < x)) ≤ k → x ≤ getI s k := by
  intro s
  induction s with
  | nil => intro k _ h; simp at h
  | cons y t ih =>
    intro k hs h h1
    rw [List.pairwise_cons] at hs
    rw [List.countP_cons] at h1
    by_cases hy : y < x
    · simp only [hy, decide_true, if_true] at h1
      cases k with
      | zero => omega
      | succ k =>
        have := ih (k := k) hs.2 (by simpa using h) (by omega)
        simpa [getI] using this
    · cases k with
      | zero => simp [getI]; omega
      | succ k =>
        have hkl : k < t.length := by simpa using h
        have hm : y ≤ getI t k := by
          refine hs.1 _ ?_
          unfold getI
          rw [List.getD_eq_getElem?_getD, List.getElem?_eq_getElem hkl]
          exact List.getElem_mem hkl
        have : getI (y :: t) (k + 1) = getI t k := by simp [getI]
        rw [this]; omega
theorem count_le_at : ∀ {s : List Int} {k : Nat}, s.Pairwise (· ≤ ·) → k < s.length → k + 1 ≤ s.countP (fun y => decide (y ≤ getI s k)) := by
  intro s
  induction s with
  | nil => intro k _ h; simp at h
  | cons y t ih =>
    intro k hs h
    rw [List.pairwise_cons] at hs
    rw [List.countP_cons]
    cases k with
    | zero => simp [getI]
    | succ k =>
      have hkl : k < t.length := by simpa using h
      have hm : y ≤ getI t k := by
        refine hs.1 _ ?_
        unfold getI
        rw [List.getD_eq_getElem?_getD, List.getElem?_eq_getElem hkl]
        exact List.getElem_mem hkl
      have e : getI (y :: t) (k + 1) = getI t k := by simp [getI]
      rw [e]
      have := ih (k := k) hs.2 hkl
      simp only [hm, decide_true, if_true]
      omega
theorem sort_le {l : List Int} {k : Nat} {x : Int} (hk : k < l.length) (h : k + 1 ≤ cntB (fun i => decide (getI l i ≤ x)) l.length) : getI (sortB l) k ≤ x :=
  sorted_le (sortB_sorted l) (by rw [sortB_len]; exact hk) (by rw [(sortB_perm l).countP_eq, countP_all]; exact h)
theorem le_sort {l : List Int} {k : Nat} {x : Int} (hk : k < l.length) (h : cntB (fun i => decide (getI l i < x)) l.length ≤ k) : x ≤ getI (sortB l) k :=
  le_sorted (sortB_sorted l) (by rw [sortB_len]; exact hk) (by rw [(sortB_perm l).countP_eq, countP_all]; exact h)
theorem sort_count {l : List Int} {k : Nat} (hk : k < l.length) : k + 1 ≤ cntB (fun i => decide (getI l i ≤ getI (sortB l) k)) l.length := by
  have h := count_le_at (sortB_sorted l) (k := k) (by rw [sortB_len]; exact hk)
  rw [(sortB_perm l).countP_eq, countP_all] at h
  exact h
/-- A clock's midpoint. -/
def midB (l : List Int) (f : Nat) : Int := (getI (sortB l) f + getI (sortB l) (l.length - 1 - f)) / 2
theorem mids_near {l m : List Int} {f : Nat} {same : Nat → Bool} {low high : Int} (hn : m.length = l.length) (h3 : 3 * f + 1 ≤ l.length) (hf : cntB (fun i => !same i) l.length ≤ f)
    (hs : ∀ i, i < l.length → same i = true → getI m i = getI l i ∧ low ≤ getI l i ∧ getI l i ≤ high) : 2 * (midB l f - midB m f) ≤ high - low + 2 ∧ 2 * (midB m f - midB l f) ≤ high - low + 2 := by
  have hsame := cntB_not (p := same) l.length
  have key : ∀ a b : List Int, a.length = l.length → b.length = l.length → (∀ i, i < l.length → same i = true → getI b i = getI a i) → getI (sortB a) f ≤ getI (sortB b) (l.length - 1 - f) := by
    intro a b ha hb hab
    refine sort_le (by omega) ?_
    have h1 := sort_count (l := b) (k := l.length - 1 - f) (by omega)
    rw [hb] at h1
    have h2 : cntB (fun i => decide (getI b i ≤ getI (sortB b) (l.length - 1 - f))) l.length ≤ cntB (fun i => decide (getI a i ≤ getI (sortB b) (l.length - 1 - f))) l.length + cntB (fun i => !same i) l.length :=
      cntB_or fun i hi h => by
        cases e : same i with
        | true => rw [hab i hi e] at h; exact Or.inl h
        | false => exact Or.inr rfl
    rw [ha]; omega
  have hi1 : ∀ a : List Int, a.length = l.length → (∀ i, i < l.length → same i = true → low ≤ getI a i ∧ getI a i ≤ high) → low ≤ getI (sortB a) f ∧ getI (sortB a) (l.length - 1 - f) ≤ high := by
    intro a ha h
    constructor
    · refine le_sort (by omega) ?_
      rw [ha]
      refine Nat.le_trans (cntB_mono fun i hi h1 => ?_) hf
      cases e : same i with
      | false => rfl
      | true => have := (h i hi e).1; simp at h1; omega
    · refine sort_le (by omega) ?_
      rw [ha]
      have h2 : cntB same l.length ≤ cntB (fun i => decide (getI a i ≤ high)) l.length := cntB_mono fun i hi e => by simpa using (h i hi e).2
      omega
  have a1 := key l m rfl hn fun i hi e => (hs i hi e).1
  have a2 := key m l hn rfl fun i hi e => ((hs i hi e).1).symm
  have b1 := hi1 l rfl fun i hi e => (hs i hi e).2
  have b2 := hi1 m hn fun i hi e => by rw [(hs i hi e).1]; exact (hs i hi e).2
  unfold midB
  rw [hn]
  constructor <;> omega
end Go.Proofs.Ytnmccbjdfdbgpaa
/- What is proved: nothing of Go: the earliest end first serves all jobs in time, or there is a span in which more is asked than it has. Conditions: those that each lemma states. -/
namespace Go.Proofs.Ytnmccbjdfdbgpaa

structure JobD where
  msg : Nat
  src : Nat
  fin : Nat
  left : Nat
def job0 : JobD := ⟨0, 0, 0, 0⟩
def JobD.at_ (l : List JobD) (i : Nat) : JobD := l.getD i job0
/-- Does the i-th job wait at a slot, if so much of each is left? -/
def waitB (l : List JobD) (L : Nat → Nat) (t i : Nat) : Bool := decide ((JobD.at_ l i).src ≤ t) && decide (0 < L i)
/-- The first of the first k that wait, of those whose end is least. -/
def bestK (l : List JobD) (L : Nat → Nat) (t : Nat) : Nat → Option Nat
  | 0 => none
  | k + 1 => if waitB l L t k then
      match bestK l L t k with
      | none => some k
      | some b => if (JobD.at_ l k).fin < (JobD.at_ l b).fin then some k else some b
    else bestK l L t k
def bestB (l : List JobD) (L : Nat → Nat) (t : Nat) : Option Nat := bestK l L t l.length
def lessB (L : Nat → Nat) (o : Option Nat) : Nat → Nat := match o with
  | none => L
  | some b => fun i => if i = b then L i - 1 else L i
/-- What is left behind t slots. -/
def leftB (l : List JobD) : Nat → Nat → Nat
  | 0 => fun i => (JobD.at_ l i).left
  | t + 1 => lessB (leftB l t) (bestB l (leftB l t) t)
def servB (l : List JobD) (t : Nat) : Option Nat := bestB l (leftB l t) t
theorem leftB_succ (l : List JobD) (t : Nat) : leftB l (t + 1) = lessB (leftB l t) (servB l t) := rfl
/-- All is in time, in the first t slots. -/
def InTime (l : List JobD) (t : Nat) : Prop := ∀ s b, s < t → servB l s = some b → s < (JobD.at_ l b).fin

theorem bestK_none {l : List JobD} {L : Nat → Nat} {t : Nat} : ∀ {k}, bestK l L t k = none → ∀ i, i < k → waitB l L t i = false
  | 0, _, i, hi => absurd hi (by omega)
  | k + 1, h, i, hi => by
    unfold bestK at h
    by_cases hw : waitB l L t k = true
    · rw [if_pos hw] at h
      split at h
      · exact absurd h (by simp)
      · split at h <;> exact absurd h (by simp)
    · rw [if_neg hw] at h
      by_cases e : i = k
      · subst e; simpa using hw
      · exact bestK_none h i (by omega)
theorem bestK_some {l : List JobD} {L : Nat → Nat} {t : Nat} : ∀ {k b}, bestK l L t k = some b → b < k ∧ waitB l L t b = true ∧ ∀ i, i < k → waitB l L t i = true → (JobD.at_ l b).fin ≤ (JobD.at_ l i).fin
  | 0, b, h => by simp [bestK] at h
  | k + 1, b, h => by
    unfold bestK at h
    by_cases hw : waitB l L t k = true
    · rw [if_pos hw] at h
      cases hb : bestK l L t k with
      | none =>
        rw [hb] at h
        simp only [Option.some.injEq] at h
        subst h
        refine ⟨by omega, hw, fun i hi hwi => ?_⟩
        by_cases e : i = k
        · subst e; exact Nat.le_refl _
        · have := bestK_none hb i (by omega)
          rw [this] at hwi; exact absurd hwi (by decide)
      | some c =>
        rw [hb] at h
        obtain ⟨h1, h2, h3⟩ := bestK_some hb
        simp only at h
        by_cases hlt : (JobD.at_ l k).fin < (JobD.at_ l c).fin
        · rw [if_pos hlt] at h
          simp only [Option.some.injEq] at h
          subst h
          refine ⟨by omega, hw, fun i hi hwi => ?_⟩
          by_cases e : i = k
          · subst e; exact Nat.le_refl _
          · have := h3 i (by omega) hwi; omega
        · rw [if_neg hlt] at h
          simp only [Option.some.injEq] at h
          subst h
          refine ⟨by omega, h2, fun i hi hwi => ?_⟩
          by_cases e : i = k
          · subst e; omega
          · exact h3 i (by omega) hwi
    · rw [if_neg hw] at h
      obtain ⟨h1, h2, h3⟩ := bestK_some h
      refine ⟨by omega, h2, fun i hi hwi => ?_⟩
      by_cases e : i = k
      · subst e; exact absurd hwi hw
      · exact h3 i (by omega) hwi
theorem servB_some {l : List JobD} {t b : Nat} (h : servB l t = some b) : b < l.length ∧ (JobD.at_ l b).src ≤ t ∧ 0 < leftB l t b ∧ ∀ i, i < l.length → (JobD.at_ l i).src ≤ t → 0 < leftB l t i → (JobD.at_ l b).fin ≤ (JobD.at_ l i).fin := by
  obtain ⟨h1, h2, h3⟩ := bestK_some h
  unfold waitB at h2
  simp only [Bool.and_eq_true, decide_eq_true_eq] at h2
  exact ⟨h1, h2.1, h2.2, fun i hi a b => h3 i hi (by unfold waitB; simp [a, b])⟩
theorem servB_none {l : List JobD} {t : Nat} (h : servB l t = none) {i : Nat} (hi : i < l.length) (hs : (JobD.at_ l i).src ≤ t) : leftB l t i = 0 := by
  have := bestK_none h i hi
  unfold waitB at this
  simp only [hs, decide_true, Bool.true_and, decide_eq_false_iff_not] at this
  omega
/-- How many of the slots from a on, n of them, serve a job. -/
def servedS (σ : Nat → Option Nat) (i a : Nat) : Nat → Nat
  | 0 => 0
  | n + 1 => servedS σ i a n + if σ (a + n) = some i then 1 else 0
theorem left_served (l : List JobD) (i a : Nat) : ∀ n, leftB l (a + n) i + servedS (servB l) i a n = leftB l a i
  | 0 => rfl
  | n + 1 => by
    have h := left_served l i a n
    unfold servedS
    rw [show a + (n + 1) = (a + n) + 1 from by omega, leftB_succ]
    unfold lessB
    cases hs : servB l (a + n) with
    | none => simp; omega
    | some b =>
      simp only [Option.some.injEq]
      by_cases e : i = b
      · subst e
        have := (servB_some hs).2.2.1
        simp; omega
      · rw [if_neg e, if_neg (fun h => e h.symm)]; omega
/-- What the first k jobs ask that lie from a to b. -/
def demandK (l : List JobD) (a b : Nat) : Nat → Nat
  | 0 => 0
  | k + 1 => demandK l a b k + if a ≤ (JobD.at_ l k).src ∧ (JobD.at_ l k).fin ≤ b then (JobD.at_ l k).left else 0
def demandB (l : List JobD) (a b : Nat) : Nat := demandK l a b l.length
/-- How many of the slots from a on, n of them, serve jobs among the first k that meet q. -/
def sumS (σ : Nat → Option Nat) (q : Nat → Bool) (a n : Nat) : Nat → Nat
  | 0 => 0
  | k + 1 => sumS σ q a n k + if q k then servedS σ k a n else 0
def busyS (σ : Nat → Option Nat) (q : Nat → Bool) (a k : Nat) : Nat → Nat
  | 0 => 0
  | n + 1 => busyS σ q a k n + (match σ (a + n) with
    | some b => if b < k ∧ q b = true then 1 else 0
    | none => 0)
theorem sumS_zero (σ : Nat → Option Nat) (q : Nat → Bool) (a : Nat) : ∀ k, sumS σ q a 0 k = 0
  | 0 => rfl
  | k + 1 => by unfold sumS; rw [sumS_zero σ q a k]; simp [servedS]
theorem sumS_succ (σ : Nat → Option Nat) (q : Nat → Bool) (a n : Nat) : ∀ k, sumS σ q a (n + 1) k = sumS σ q a n k + (match σ (a + n) with
    | some b => if b < k ∧ q b = true then 1 else 0
    | none => 0)
  | 0 => by cases hs : σ (a + n) <;> simp [sumS]
  | k + 1 => by
    unfold sumS
    rw [sumS_succ σ q a n k]
    cases hs : σ (a + n) with
    | none =>
      simp only [servedS, hs]
      split <;> simp
    | some b =>
      simp only [servedS, hs, Option.some.injEq]
      by_cases e : b = k
      · subst e
        cases hq : q b <;> simp <;> omega
      · have e1 : (b < k + 1 ∧ q b = true) ↔ (b < k ∧ q b = true) := by
          constructor
          · rintro ⟨h1, h2⟩; exact ⟨by omega, h2⟩
          · rintro ⟨h1, h2⟩; exact ⟨by omega, h2⟩
        simp only [e1, if_neg e]
        cases hq : q k <;> simp <;> omega
theorem sumS_busy (σ : Nat → Option Nat) (q : Nat → Bool) (a k : Nat) : ∀ n, sumS σ q a n k = busyS σ q a k n
  | 0 => sumS_zero σ q a k
  | n + 1 => by rw [sumS_succ, sumS_busy σ q a k n]; rfl
theorem busyS_le (σ : Nat → Option Nat) (q : Nat → Bool) (a k : Nat) : ∀ n, busyS σ q a k n ≤ n
  | 0 => Nat.le_refl _
  | n + 1 => by
    have := busyS_le σ q a k n
    unfold busyS
    cases σ (a + n) with
    | none => simp only; omega
    | some b => simp only; split <;> omega
theorem busyS_all (σ : Nat → Option Nat) (q : Nat → Bool) (a k : Nat) : ∀ n, (∀ s, s < n → ∃ b, σ (a + s) = some b ∧ b < k ∧ q b = true) → busyS σ q a k n = n
  | 0, _ => rfl
  | n + 1, h => by
    obtain ⟨b, h1, h2, h3⟩ := h n (by omega)
    unfold busyS
    rw [h1, busyS_all σ q a k n fun s hs => h s (by omega)]
    simp only [h2, h3, and_self, if_true]
/-- Jobs are served between their beginning and their end. -/
structure JobsOk (l : List JobD) (cycle : Nat) : Prop where
  fin : ∀ i, i < l.length → (JobD.at_ l i).src < (JobD.at_ l i).fin ∧ (JobD.at_ l i).fin ≤ cycle
theorem left_before {l : List JobD} {i : Nat} : ∀ t, t ≤ (JobD.at_ l i).src → leftB l t i = (JobD.at_ l i).left
  | 0, _ => rfl
  | t + 1, h => by
    rw [leftB_succ]
    have ih := left_before (l := l) (i := i) t (by omega)
    unfold lessB
    cases hs : servB l t with
    | none => exact ih
    | some b =>
      simp only
      by_cases e : i = b
      · subst e
        have := (servB_some hs).2.1
        omega
      · rw [if_neg e]; exact ih
theorem left_mono {l : List JobD} {i : Nat} (a n : Nat) : leftB l (a + n) i ≤ leftB l a i := by
  have := left_served l i a n; omega
/-- If all is in time and nothing is left, no span is asked for more than it has. -/
theorem time_demand {l : List JobD} {cycle : Nat} (ht : InTime l cycle) (h0 : ∀ i, i < l.length → leftB l cycle i = 0) {a b : Nat} (hab : a ≤ b) (hb : b ≤ cycle) : demandB l a b ≤ b - a := by
  have key : ∀ i, i < l.length → a ≤ (JobD.at_ l i).src → (JobD.at_ l i).fin ≤ b → servedS (servB l) i a (b - a) = (JobD.at_ l i).left := by
    intro i hi h1 h2
    have e1 := left_served l i a (b - a)
    rw [left_before a h1, show a + (b - a) = b from by omega] at e1
    have e2 := left_served l i b (cycle - b)
    rw [show b + (cycle - b) = cycle from by omega, h0 i hi] at e2
    have e3 : ∀ n, n ≤ cycle - b → servedS (servB l) i b n = 0 := by
      intro n
      induction n with
      | zero => intro _; rfl
      | succ n ih =>
        intro hn
        unfold servedS
        rw [ih (by omega)]
        by_cases hs : servB l (b + n) = some i
        · have := ht (b + n) i (by omega) hs; omega
        · rw [if_neg hs]
    rw [e3 _ (Nat.le_refl _)] at e2
    omega
  have h1 : ∀ k, k ≤ l.length → demandK l a b k ≤ sumS (servB l) (fun i => decide (a ≤ (JobD.at_ l i).src ∧ (JobD.at_ l i).fin ≤ b)) a (b - a) k := by
    intro k
    induction k with
    | zero => intro _; exact Nat.le_refl _
    | succ k ih =>
      intro hk
      have := ih (by omega)
      unfold demandK sumS
      by_cases hc : a ≤ (JobD.at_ l k).src ∧ (JobD.at_ l k).fin ≤ b
      · rw [if_pos hc, if_pos (by simpa using hc), key k (by omega) hc.1 hc.2]; omega
      · rw [if_neg hc, if_neg (by simpa using hc)]; omega
  have h2 := h1 l.length (Nat.le_refl _)
  rw [sumS_busy] at h2
  exact Nat.le_trans h2 (busyS_le _ _ _ _ _)
/-- Back from a job's end: the last slot before which no job of an end so early waits. -/
theorem span_from {l : List JobD} {d : Nat} : ∀ t, t ≤ d → (∃ a, a ≤ t ∧ (∀ s, a ≤ s → s < t → ∃ b, servB l s = some b ∧ (JobD.at_ l b).fin ≤ d) ∧ ∀ i, i < l.length → (JobD.at_ l i).fin ≤ d → (JobD.at_ l i).src < a → leftB l a i = 0)
  | 0, _ => ⟨0, Nat.le_refl _, fun s _ h => absurd h (by omega), fun i _ _ h => absurd h (by omega)⟩
  | t + 1, htd => by
    obtain ⟨a, h1, h2, h3⟩ := span_from (l := l) (d := d) t (by omega)
    by_cases hs : ∃ b, servB l t = some b ∧ (JobD.at_ l b).fin ≤ d
    · refine ⟨a, by omega, fun s ha hst => ?_, h3⟩
      by_cases e : s = t
      · subst e; exact hs
      · exact h2 s ha (by omega)
    · refine ⟨t + 1, Nat.le_refl _, fun s ha hst => absurd hst (by omega), fun i hi hf hsrc => ?_⟩
      have hm := left_mono (l := l) (i := i) t 1
      cases hb : servB l t with
      | none =>
        have := servB_none hb hi (by omega)
        omega
      | some b =>
        have h4 := (servB_some hb).2.2.2 i hi (by omega)
        have h5 : d < (JobD.at_ l b).fin := by
          rcases Nat.lt_or_ge d (JobD.at_ l b).fin with h | h
          · exact h
          · exact absurd ⟨b, hb, h⟩ hs
        have h6 : ¬ 0 < leftB l t i := fun h => by have := h4 h; omega
        omega
/-- A job that lacks slots at its end: there is a span that is asked for more than it has. -/
theorem late_demand {l : List JobD} {cycle : Nat} (hok : JobsOk l cycle) {j : Nat} (hj : j < l.length) (hl : 0 < leftB l (JobD.at_ l j).fin j) : ∃ a b, a < b ∧ b ≤ cycle ∧ b - a < demandB l a b := by
  obtain ⟨d, hd⟩ : ∃ d, (JobD.at_ l j).fin = d := ⟨_, rfl⟩
  rw [hd] at hl
  have hfj := hok.fin j hj
  obtain ⟨a, h1, h2, h3⟩ := span_from (l := l) (d := d) d (Nat.le_refl _)
  have hja : a ≤ (JobD.at_ l j).src := by
    rcases Nat.lt_or_ge (JobD.at_ l j).src a with h | h
    · have h4 := h3 j hj (by omega) h
      have h5 := left_mono (l := l) (i := j) a (d - a)
      rw [show a + (d - a) = d from by omega] at h5
      omega
    · exact h
  have key : ∀ k, k ≤ l.length → sumS (servB l) (fun i => decide ((JobD.at_ l i).fin ≤ d)) a (d - a) k + (if j < k then 1 else 0) ≤ demandK l a d k := by
    intro k
    induction k with
    | zero => intro _; simp [sumS, demandK]
    | succ k ih =>
      intro hk
      have ihk := ih (by omega)
      obtain ⟨u, hu⟩ : ∃ u, (if j < k then 1 else 0) = u := ⟨_, rfl⟩
      obtain ⟨v, hv⟩ : ∃ v, (if j < k + 1 then 1 else 0) = v := ⟨_, rfl⟩
      have huv : (j = k ∧ v = 1 ∧ u = 0) ∨ (j ≠ k ∧ v = u) := by
        subst hu; subst hv
        by_cases e : j = k
        · exact Or.inl ⟨e, if_pos (by omega), if_neg (by omega)⟩
        · refine Or.inr ⟨e, ?_⟩
          by_cases h : j < k
          · rw [if_pos h, if_pos (by omega)]
          · rw [if_neg h, if_neg (by omega)]
      rw [hu] at ihk
      rw [hv]
      unfold sumS demandK
      by_cases hf : (JobD.at_ l k).fin ≤ d
      · rw [if_pos (by simpa using hf)]
        have e1 := left_served l k a (d - a)
        rw [show a + (d - a) = d from by omega] at e1
        by_cases hs : a ≤ (JobD.at_ l k).src
        · rw [if_pos ⟨hs, hf⟩]
          rw [left_before a hs] at e1
          rcases huv with ⟨rfl, h5, h6⟩ | ⟨_, h5⟩ <;> omega
        · rw [if_neg (fun h => hs h.1)]
          have h4 := h3 k (by omega) hf (by omega)
          rcases huv with ⟨rfl, _⟩ | ⟨_, h5⟩
          · exact absurd hja hs
          · omega
      · rw [if_neg (by simpa using hf), if_neg (fun h => hf h.2)]
        rcases huv with ⟨rfl, _⟩ | ⟨_, h5⟩ <;> omega
  have h4 := key l.length (Nat.le_refl _)
  rw [if_pos hj, sumS_busy, busyS_all] at h4
  · exact ⟨a, d, by omega, by omega, by unfold demandB; omega⟩
  · intro s hs
    obtain ⟨b, h5, h6⟩ := h2 (a + s) (by omega) (by omega)
    exact ⟨b, h5, (servB_some h5).1, by simpa using h6⟩
end Go.Proofs.Ytnmccbjdfdbgpaa
/- What is proved: nothing of Go: loyal members decide the same, and a loyal general's value. Conditions: those that each lemma states. -/
namespace Go.Proofs.Ytnmccbjdfdbgpaa

/-- The value that more than half are; 0 if there is none. -/
def majB (l : List Int) : Int := (l.find? fun x => decide (l.length < 2 * l.count x)).getD 0
theorem majB_at {l : List Int} {x : Int} (h : l.length < 2 * l.count x) : majB l = x := by
  unfold majB
  cases hf : l.find? fun x => decide (l.length < 2 * l.count x) with
  | none =>
    rw [List.find?_eq_none] at hf
    have hx : x ∈ l := List.count_pos_iff.1 (by omega)
    exact absurd (by simpa using h) (hf x hx)
  | some y =>
    have h1 := List.find?_some hf
    simp only [decide_eq_true_eq] at h1
    show y = x
    apply Classical.byContradiction
    intro hne
    have key : ∀ m : List Int, m.count x + m.count y ≤ m.length := by
      intro m
      induction m with
      | nil => simp
      | cons z m ih =>
        rw [List.count_cons, List.count_cons, List.length_cons]
        by_cases e1 : z = x
        · subst e1
          have : (z == y) = false := by simp; exact fun e => hne e.symm
          simp [this]; omega
        · have : (z == x) = false := by simpa using e1
          have h3 : (if (z == y) = true then 1 else 0) ≤ 1 := by split <;> omega
          simp only [this, Bool.false_eq_true, if_false]
          omega
    have := key l
    omega
theorem majB_none {l : List Int} (h : ∀ x, x ∈ l → ¬ l.length < 2 * l.count x) : majB l = 0 := by
  unfold majB
  rw [List.find?_eq_none.2 (fun x hx => by simpa using h x hx)]; rfl
theorem majB_perm {l m : List Int} (h : l.Perm m) : majB l = majB m := by
  by_cases hx : ∃ x, x ∈ m ∧ m.length < 2 * m.count x
  · obtain ⟨x, _, h2⟩ := hx
    rw [majB_at h2, majB_at (x := x) (by rw [h.length_eq, h.count_eq]; exact h2)]
  · have hx' : ∀ x, x ∈ m → ¬ m.length < 2 * m.count x := fun x h1 h2 => hx ⟨x, h1, h2⟩
    rw [majB_none hx', majB_none fun x h1 => by rw [h.length_eq, h.count_eq]; exact hx' x (h.mem_iff.1 h1)]

/-- A council in a frame: N members, F faulty ones at most; who is; what a faulty one tells for a path; the general's value. -/
structure TalkD where
  N : Nat
  F : Nat
  bad : Nat → Bool
  lie : List Nat → Nat → Int
  value : Int
/-- What one hears for a path, whose members come last first. -/
def heardB (t : TalkD) : List Nat → Nat → Int
  | [], _ => t.value
  | j :: p, i => if t.bad j then t.lie (j :: p) i else heardB t p j
/-- Those that are asked for a path. -/
def restB (t : TalkD) (p : List Nat) (i : Nat) : List Nat := (List.range t.N).filter fun j => decide (j ≠ i) && !p.contains j
/-- What one holds of a path; n: how many steps are left. -/
def heldB (t : TalkD) : Nat → List Nat → Nat → Int
  | 0, p, i => heardB t p i
  | n + 1, p, i => majB (heardB t p i :: (restB t p i).map fun j => heldB t n (j :: p) i)
def decideB (t : TalkD) (g i : Nat) : Int := if t.bad i then 0 else if i = g then t.value else heldB t t.F [g] i

def badN (t : TalkD) : Nat := ((List.range t.N).filter fun j => t.bad j).length
theorem heardB_good {t : TalkD} {j : Nat} (p : List Nat) (h : t.bad j = false) (i : Nat) : heardB t (j :: p) i = heardB t p j := by
  conv => lhs; unfold heardB
  rw [h]; rfl
theorem restB_mem {t : TalkD} {p : List Nat} {i j : Nat} : j ∈ restB t p i ↔ j < t.N ∧ j ≠ i ∧ j ∉ p := by
  unfold restB; simp
theorem filter_len {α : Type} (p q : α → Bool) : ∀ l : List α, (l.filter p).length = ((l.filter p).filter q).length + ((l.filter p).filter fun x => !q x).length := fun l => by
  have key : ∀ m : List α, m.length = (m.filter q).length + (m.filter fun x => !q x).length := by
    intro m
    induction m with
    | nil => rfl
    | cons x m ih =>
      rw [List.filter_cons, List.filter_cons]
      cases hq : q x <;> simp <;> omega
  exact key _
/-- How many are asked. -/
theorem restB_len {t : TalkD} {p : List Nat} {i : Nat} (hp : p.Nodup) (hi : i ∉ p) (hin : i < t.N) (hpn : ∀ j ∈ p, j < t.N) : (restB t p i).length + p.length + 1 = t.N := by
  have key : ∀ (m : List Nat), m.Nodup → (∀ j ∈ m, j < t.N) → ((List.range t.N).filter fun j => !m.contains j).length + m.length = t.N := by
    intro m
    induction m with
    | nil => intro _ _; rw [List.filter_eq_self.2 (fun j _ => by simp)]; simp
    | cons a m ih =>
      intro hm hmn
      rw [List.nodup_cons] at hm
      have h1 := ih hm.2 fun j hj => hmn j (List.mem_cons_of_mem _ hj)
      have h2 := filter_len (fun j => !m.contains j) (fun j => decide (j ≠ a)) (List.range t.N)
      have e1 : ((List.range t.N).filter fun j => !m.contains j).filter (fun j => decide (j ≠ a)) = (List.range t.N).filter fun j => !(a :: m).contains j := by
        rw [List.filter_filter]
        apply List.filter_congr
        intro j _
        simp [Bool.not_or, decide_not]
      have e2 : (((List.range t.N).filter fun j => !m.contains j).filter fun j => !decide (j ≠ a)) = [a] := by
        rw [List.filter_filter]
        have e3 : ∀ n, (List.range n).filter (fun j => !decide (j ≠ a) && !m.contains j) = if a < n then [a] else [] := by
          intro n
          induction n with
          | zero => simp
          | succ n ihn =>
            rw [List.range_succ, List.filter_append, ihn]
            by_cases e : n = a
            · subst e
              have : m.contains n = false := by simpa using hm.1
              simp [hm.1]
            · have : (a < n + 1) = (a < n) := by simp; omega
              simp [e, this]
        rw [e3, if_pos (hmn a List.mem_cons_self)]
      rw [e1, e2] at h2
      simp only [List.length_cons, List.length_nil] at h2 ⊢
      omega
  have h := key (i :: p) (List.nodup_cons.2 ⟨hi, hp⟩) fun j hj => by
    rcases List.mem_cons.1 hj with rfl | h
    · exact hin
    · exact hpn j h
  have e : restB t p i = (List.range t.N).filter fun j => !(i :: p).contains j := by
    unfold restB
    apply List.filter_congr
    intro j _
    simp [Bool.not_or, decide_not]
  rw [e]
  simp only [List.length_cons] at h
  omega
theorem bad_le {t : TalkD} (p : List Nat) (i : Nat) : ((restB t p i).filter fun j => t.bad j).length ≤ badN t := by
  unfold restB badN
  rw [List.filter_filter]
  have e : (List.range t.N).filter (fun j => t.bad j && (decide (j ≠ i) && !p.contains j)) = ((List.range t.N).filter fun j => t.bad j).filter fun j => decide (j ≠ i) && !p.contains j := by
    rw [List.filter_filter]
    apply List.filter_congr
    intro j _
    exact Bool.and_comm _ _
  rw [e]
  exact List.length_filter_le _ _
/-- A loyal member's word is held by all loyal ones. -/
theorem held_good {t : TalkD} (hN : 3 * t.F < t.N) (hb : badN t ≤ t.F) : ∀ (n : Nat) (j : Nat) (p : List Nat) (i : Nat), n + p.length = t.F → t.bad j = false → (j :: p).Nodup → i ∉ j :: p → i < t.N → (∀ k ∈ j :: p, k < t.N) → heldB t n (j :: p) i = heardB t p j
  | 0, j, p, i, _, hj, _, _, _, _ => heardB_good p hj i
  | n + 1, j, p, i, hn, hj, hp, hi, hin, hpn => by
    unfold heldB
    have hlen := restB_len hp hi hin hpn
    have hbad := bad_le (t := t) (j :: p) i
    have hsplit := filter_len (fun k => decide (k ≠ i) && !(j :: p).contains k) (fun k => t.bad k) (List.range t.N)
    change (restB t (j :: p) i).length = ((restB t (j :: p) i).filter fun k => t.bad k).length + ((restB t (j :: p) i).filter fun k => !t.bad k).length at hsplit
    obtain ⟨x, hx⟩ : ∃ x, heardB t p j = x := ⟨_, rfl⟩
    rw [hx]
    refine majB_at ?_
    rw [heardB_good p hj i, hx]
    have hcount : ((restB t (j :: p) i).filter fun k => !t.bad k).length ≤ ((restB t (j :: p) i).map fun k => heldB t n (k :: j :: p) i).count x := by
      have hall : ∀ k ∈ restB t (j :: p) i, t.bad k = false → heldB t n (k :: j :: p) i = x := by
        intro k hk hkb
        obtain ⟨h1, h2, h3⟩ := restB_mem.1 hk
        rw [held_good hN hb n k (j :: p) i (by simp only [List.length_cons]; omega) hkb (List.nodup_cons.2 ⟨h3, hp⟩) (by
          intro hm
          rcases List.mem_cons.1 hm with h | h
          · exact h2 h.symm
          · exact hi h) hin (fun m hm => by
            rcases List.mem_cons.1 hm with rfl | h
            · exact h1
            · exact hpn m h), heardB_good p hj k, hx]
      revert hall
      generalize restB t (j :: p) i = l
      intro hall
      induction l with
      | nil => simp
      | cons k l ih =>
        have ih := ih fun m hm => hall m (List.mem_cons_of_mem _ hm)
        rw [List.map_cons, List.count_cons, List.filter_cons]
        cases hk : t.bad k
        · rw [hall k List.mem_cons_self hk]
          simp; omega
        · simp; omega
    simp only [List.length_cons, List.length_map, List.count_cons, beq_self_eq_true, if_true] at hlen ⊢
    omega
theorem nodup_sub {p : List Nat} : ∀ {q : List Nat}, p.Nodup → (∀ x ∈ p, x ∈ q) → p.length ≤ q.length := by
  induction p with
  | nil => intro q _ _; simp
  | cons a p ih =>
    intro q hp hs
    rw [List.nodup_cons] at hp
    have ha := hs a List.mem_cons_self
    have h1 := ih (q := q.erase a) hp.2 fun x hx => by
      have hne : x ≠ a := fun e => by subst e; exact hp.1 hx
      exact (List.mem_erase_of_ne hne).2 (hs x (List.mem_cons_of_mem _ hx))
    have h2 := List.length_erase_of_mem ha
    have h3 : 0 < q.length := List.length_pos_of_mem ha
    simp only [List.length_cons]
    omega
/-- Of a path of faulty members alone, all loyal ones hold the same. -/
theorem held_same {t : TalkD} (hN : 3 * t.F < t.N) (hb : badN t ≤ t.F) : ∀ (n : Nat) (p : List Nat) (i i' : Nat), n + p.length = t.F + 1 → (∀ k ∈ p, t.bad k = true ∧ k < t.N) → p.Nodup → t.bad i = false → t.bad i' = false → i < t.N → i' < t.N → heldB t n p i = heldB t n p i'
  | 0, p, i, i', hn, hp, hd, _, _, _, _ => by
    exfalso
    have h1 : p.length ≤ badN t := by
      exact nodup_sub hd fun k hk => by
        have := hp k hk
        simp [this.1, this.2]
    omega
  | n + 1, p, i, i', hn, hp, hd, hi, hi', hin, hin' => by
    by_cases hii : i = i'
    · rw [hii]
    have hip : i ∉ p := fun h => by have := (hp i h).1; rw [hi] at this; exact absurd this (by decide)
    have hip' : i' ∉ p := fun h => by have := (hp i' h).1; rw [hi'] at this; exact absurd this (by decide)
    have hpn : ∀ k ∈ p, k < t.N := fun k hk => (hp k hk).2
    unfold heldB
    -- both are the list of what all who are not in the path say
    have hval : ∀ (j m : Nat), j < t.N → j ∉ p → j ≠ m → t.bad j = false → t.bad m = false → m < t.N → m ∉ p → heldB t n (j :: p) m = heardB t p j := fun j m h1 h2 h3 h4 h5 h6 h7 =>
      held_good hN hb n j p m (by omega) h4 (List.nodup_cons.2 ⟨h2, hd⟩) (by
        intro hm
        rcases List.mem_cons.1 hm with h | h
        · exact h3 h.symm
        · exact h7 h) h6 (fun k hk => by
          rcases List.mem_cons.1 hk with rfl | h
          · exact h1
          · exact hpn k h)
    have key : ∀ (a b : Nat), a ≠ b → a ∉ p → b ∉ p → a < t.N → b < t.N → t.bad a = false → t.bad b = false → (heardB t p a :: (restB t p a).map fun j => heldB t n (j :: p) a).Perm (((List.range t.N).filter fun j => !p.contains j).map fun j => if j = a then heardB t p a else heldB t n (j :: p) a) := by
      intro a b _ ha _ han _ _ _
      have e1 : (((List.range t.N).filter fun j => !p.contains j).filter fun j => decide (j ≠ a)) = restB t p a := by
        unfold restB
        rw [List.filter_filter]
      have hperm : (a :: restB t p a).Perm ((List.range t.N).filter fun j => !p.contains j) := by
        have hn1 : ((List.range t.N).filter fun j => !p.contains j).Nodup := List.nodup_range.filter _
        have hmem : a ∈ (List.range t.N).filter fun j => !p.contains j := by simp [han, ha]
        have h2 := List.perm_cons_erase hmem
        rw [List.Nodup.erase_eq_filter hn1 a] at h2
        have e2 : (((List.range t.N).filter fun j => !p.contains j).filter fun x => x != a) = restB t p a := by
          rw [← e1]; apply List.filter_congr; intro j _; simp [bne, Bool.beq_eq_decide_eq]
        rw [e2] at h2
        exact h2.symm
      have h3 := hperm.map fun j => if j = a then heardB t p a else heldB t n (j :: p) a
      rw [List.map_cons, if_pos rfl] at h3
      refine List.Perm.trans ?_ h3
      have e4 : (restB t p a).map (fun j => heldB t n (j :: p) a) = (restB t p a).map fun j => if j = a then heardB t p a else heldB t n (j :: p) a := by
        apply List.map_congr_left
        intro j hj
        rw [if_neg (restB_mem.1 hj).2.1]
      rw [e4]
    rw [majB_perm (key i i' hii hip hip' hin hin' hi hi'), majB_perm (key i' i (fun e => hii e.symm) hip' hip hin' hin hi' hi)]
    congr 1
    apply List.map_congr_left
    intro j hj
    have hj' : j < t.N ∧ j ∉ p := by simpa using hj
    by_cases e1 : j = i
    · rw [if_pos e1, if_neg (fun e => hii (e1.symm.trans e)), e1]
      exact (hval i i' hin hip hii hi hi' hin' hip').symm
    · rw [if_neg e1]
      by_cases e2 : j = i'
      · rw [if_pos e2, e2]
        exact hval i' i hin' hip' (fun e => hii e.symm) hi' hi hin hip
      · rw [if_neg e2]
        cases hjb : t.bad j with
        | false => rw [hval j i hj'.1 hj'.2 e1 hjb hi hin hip, hval j i' hj'.1 hj'.2 e2 hjb hi' hin' hip']
        | true =>
          exact held_same hN hb n (j :: p) i i' (by simp only [List.length_cons]; omega) (fun k hk => by
            rcases List.mem_cons.1 hk with rfl | h
            · exact ⟨hjb, hj'.1⟩
            · exact hp k h) (List.nodup_cons.2 ⟨hj'.2, hd⟩) hi hi' hin hin'
theorem decide_good {t : TalkD} (hN : 3 * t.F < t.N) (hb : badN t ≤ t.F) {g i : Nat} (hg : g < t.N) (hi : i < t.N) (hgb : t.bad g = false) (hib : t.bad i = false) : decideB t g i = t.value := by
  unfold decideB
  rw [hib]
  simp only [Bool.false_eq_true, if_false]
  by_cases e : i = g
  · rw [if_pos e]
  · rw [if_neg e, held_good hN hb t.F g [] i (by simp) hgb (by simp) (by simpa using e) hi (fun k hk => by simp at hk; omega)]
    rfl
theorem decide_same {t : TalkD} (hN : 3 * t.F < t.N) (hb : badN t ≤ t.F) {g i i' : Nat} (hg : g < t.N) (hi : i < t.N) (hi' : i' < t.N) (hib : t.bad i = false) (hib' : t.bad i' = false) : decideB t g i = decideB t g i' := by
  cases hgb : t.bad g with
  | false => rw [decide_good hN hb hg hi hgb hib, decide_good hN hb hg hi' hgb hib']
  | true =>
    unfold decideB
    rw [hib, hib']
    have e : ∀ k, t.bad k = false → k ≠ g := fun k hk e => by subst e; rw [hk] at hgb; exact absurd hgb (by decide)
    simp only [Bool.false_eq_true, if_false, if_neg (e i hib), if_neg (e i' hib')]
    exact held_same hN hb t.F [g] i i' (by simp) (fun k hk => by simp at hk; subst hk; exact ⟨hgb, hg⟩) (by simp) hib hib' hi hi'
end Go.Proofs.Ytnmccbjdfdbgpaa
/- What is proved: nothing of Go: the cycle is the least common multiple; where the demand is too great, and a table, are found in both ways alike. Conditions: those that each lemma states. -/
namespace Go.Proofs.Ytnmccbjdfdbgpaa

/-! The cycle. -/
def lcmK (per : Nat → Nat) : Nat → Nat
  | 0 => 1
  | k + 1 => Nat.lcm (lcmK per k) (per k)
theorem lcmK_dvd {per : Nat → Nat} {c : Nat} : ∀ n, lcmK per n ∣ c ↔ ∀ i, i < n → per i ∣ c
  | 0 => by simp [lcmK]
  | n + 1 => by
    unfold lcmK
    rw [Nat.lcm_dvd_iff, lcmK_dvd n]
    constructor
    · rintro ⟨h1, h2⟩ i hi
      by_cases e : i = n
      · subst e; exact h2
      · exact h1 i (by omega)
    · intro h
      exact ⟨fun i hi => h i (by omega), h n (by omega)⟩
theorem lcmK_pos {per : Nat → Nat} : ∀ {n}, (∀ i, i < n → 0 < per i) → 0 < lcmK per n
  | 0, _ => by simp [lcmK]
  | n + 1, h => by
    unfold lcmK
    exact Nat.lcm_pos (lcmK_pos fun i hi => h i (by omega)) (h n (by omega))
theorem lcmK_mono {per : Nat → Nat} {n : Nat} (h : ∀ i, i < n → 0 < per i) {k : Nat} (hk : k ≤ n) : lcmK per k ≤ lcmK per n :=
  Nat.le_of_dvd (lcmK_pos h) ((lcmK_dvd k).2 fun i hi => (lcmK_dvd n).1 (Nat.dvd_refl _) i (by omega))
theorem lcm_step (a b : Nat) : a * (b / Nat.gcd a b) = Nat.lcm a b := by
  unfold Nat.lcm
  rw [Nat.mul_div_assoc _ (Nat.gcd_dvd_right a b)]
/-- All of the first n divide c. -/
def divsB (per : Nat → Nat) (n c : Nat) : Bool := (List.range n).all fun i => c % per i == 0
theorem divsB_iff {per : Nat → Nat} {n c : Nat} : divsB per n c = true ↔ lcmK per n ∣ c := by
  rw [lcmK_dvd]
  unfold divsB
  simp only [List.all_eq_true, List.mem_range, beq_iff_eq]
  exact forall_congr' fun i => imp_congr_right fun _ => (Nat.dvd_iff_mod_eq_zero).symm
/-- The first from i on, of m, that all divide. -/
def findB (per : Nat → Nat) (n : Nat) : Nat → Nat → Option Nat
  | 0, _ => none
  | m + 1, i => if divsB per n i then some i else findB per n m (i + 1)
theorem findB_none {per : Nat → Nat} {n : Nat} : ∀ {m i}, (∀ c, i ≤ c → c < i + m → ¬ lcmK per n ∣ c) → findB per n m i = none
  | 0, _, _ => rfl
  | m + 1, i, h => by
    unfold findB
    rw [if_neg (by rw [divsB_iff]; exact h i (Nat.le_refl _) (by omega))]
    exact findB_none fun c h1 h2 => h c (by omega) (by omega)
theorem findB_at {per : Nat → Nat} {n c : Nat} (hc : lcmK per n ∣ c) : ∀ {m i}, i ≤ c → c < i + m → (∀ d, i ≤ d → d < c → ¬ lcmK per n ∣ d) → findB per n m i = some c
  | 0, i, h1, h2, _ => by omega
  | m + 1, i, h1, h2, h => by
    unfold findB
    by_cases e : i = c
    · subst e; rw [if_pos (divsB_iff.2 hc)]
    · rw [if_neg (by rw [divsB_iff]; exact h i (Nat.le_refl _) (by omega))]
      exact findB_at hc (by omega) (by omega) fun d h3 h4 => h d (by omega) h4
theorem find_lcm {per : Nat → Nat} {n : Nat} (h : ∀ i, i < n → 0 < per i) : findB per n 1000 1 = if lcmK per n ≤ 1000 then some (lcmK per n) else none := by
  have hp := lcmK_pos h
  by_cases hc : lcmK per n ≤ 1000
  · rw [if_pos hc]
    refine findB_at (Nat.dvd_refl _) (by omega) (by omega) fun d h1 h2 h3 => ?_
    have := Nat.le_of_dvd (by omega) h3
    omega
  · rw [if_neg hc]
    refine findB_none fun c h1 h2 h3 => ?_
    have := Nat.le_of_dvd (by omega) h3
    omega

/-! Where the demand is too great. -/
/-- From a on downwards, a of them: the first that asks more than there is up to b. -/
def overA (l : List JobD) (b : Nat) : Nat → Option Nat
  | 0 => none
  | a + 1 => if b - a < demandB l a b then some a else overA l b a
/-- From b on, m of them. -/
def overB (l : List JobD) : Nat → Nat → Option (Nat × Nat)
  | 0, _ => none
  | m + 1, b => match overA l b b with
    | some a => some (a, b)
    | none => overB l m (b + 1)
theorem overA_some {l : List JobD} {b : Nat} : ∀ {n a}, overA l b n = some a → a < n ∧ b - a < demandB l a b
  | 0, a, h => by simp [overA] at h
  | n + 1, a, h => by
    unfold overA at h
    by_cases hc : b - n < demandB l n b
    · rw [if_pos hc] at h
      simp only [Option.some.injEq] at h
      subst h
      exact ⟨by omega, hc⟩
    · rw [if_neg hc] at h
      have := overA_some h
      exact ⟨by omega, this.2⟩
theorem overA_none {l : List JobD} {b : Nat} : ∀ {n}, overA l b n = none → ∀ a, a < n → ¬ b - a < demandB l a b
  | 0, _, a, ha => absurd ha (by omega)
  | n + 1, h, a, ha => by
    unfold overA at h
    by_cases hc : b - n < demandB l n b
    · rw [if_pos hc] at h; exact absurd h (by simp)
    · rw [if_neg hc] at h
      by_cases e : a = n
      · subst e; exact hc
      · exact overA_none h a (by omega)
theorem overB_some {l : List JobD} : ∀ {m b r}, overB l m b = some r → b ≤ r.2 ∧ r.2 < b + m ∧ r.1 < r.2 ∧ r.2 - r.1 < demandB l r.1 r.2
  | 0, b, r, h => by simp [overB] at h
  | m + 1, b, r, h => by
    unfold overB at h
    cases ha : overA l b b with
    | some a =>
      rw [ha] at h
      simp only [Option.some.injEq] at h
      subst h
      have := overA_some ha
      exact ⟨Nat.le_refl _, by simp only; omega, this.1, this.2⟩
    | none =>
      rw [ha] at h
      have := overB_some h
      exact ⟨by omega, by omega, this.2.2⟩
theorem overB_none {l : List JobD} : ∀ {m b}, overB l m b = none → ∀ c a, b ≤ c → c < b + m → a < c → ¬ c - a < demandB l a c
  | 0, _, _, c, a, h1, h2, _ => by omega
  | m + 1, b, h, c, a, h1, h2, h3 => by
    unfold overB at h
    cases ha : overA l b b with
    | some a' => rw [ha] at h; exact absurd h (by simp)
    | none =>
      rw [ha] at h
      by_cases e : c = b
      · subst e; exact overA_none ha a h3
      · exact overB_none h c a (by omega) (by omega) h3
/-- What begins at a and ends by b. -/
def moreK (l : List JobD) (b a : Nat) : Nat → Nat
  | 0 => 0
  | k + 1 => moreK l b a k + if (JobD.at_ l k).fin ≤ b ∧ (JobD.at_ l k).src = a then (JobD.at_ l k).left else 0
theorem demandK_step (l : List JobD) (a b : Nat) : ∀ k, demandK l a b k = demandK l (a + 1) b k + moreK l b a k
  | 0 => rfl
  | k + 1 => by
    unfold demandK moreK
    rw [demandK_step l a b k]
    by_cases h1 : (JobD.at_ l k).fin ≤ b
    · by_cases h2 : (JobD.at_ l k).src = a
      · rw [if_pos ⟨by omega, h1⟩, if_neg (fun h => by have := h.1; omega), if_pos ⟨h1, h2⟩]; omega
      · by_cases h3 : a ≤ (JobD.at_ l k).src
        · rw [if_pos ⟨h3, h1⟩, if_pos ⟨by omega, h1⟩, if_neg (fun h => h2 h.2)]; omega
        · rw [if_neg (fun h => h3 h.1), if_neg (fun h => by have := h.1; omega), if_neg (fun h => h2 h.2)]; omega
    · rw [if_neg (fun h => h1 h.2), if_neg (fun h => h1 h.2), if_neg (fun h => h1 h.1)]; omega
theorem demandB_step (l : List JobD) (a b : Nat) : demandB l a b = demandB l (a + 1) b + moreK l b a l.length := demandK_step l a b _
theorem demandB_end {l : List JobD} {cycle : Nat} (hok : JobsOk l cycle) (b : Nat) : demandB l b b = 0 := by
  have key : ∀ k, k ≤ l.length → demandK l b b k = 0 := by
    intro k
    induction k with
    | zero => intro _; rfl
    | succ k ih =>
      intro hk
      have := hok.fin k (by omega)
      unfold demandK
      rw [ih (by omega), if_neg (fun h => by omega)]
  exact key _ (Nat.le_refl _)

/-! A table. -/
/-- What the table has at a slot: a message, or -1. -/
def cellB (l : List JobD) (t : Nat) : Int := match servB l t with
  | none => -1
  | some b => (JobD.at_ l b).msg
def tableB (l : List JobD) (cycle : Nat) : List Int := (List.range cycle).map (cellB l)
/-- Is there a table? -/
def madeB (l : List JobD) (cycle : Nat) : Bool :=
  ((List.range cycle).all fun t => match servB l t with
    | none => true
    | some b => decide (t < (JobD.at_ l b).fin)) && (List.range l.length).all fun i => !waitB l (leftB l cycle) cycle i
theorem madeB_iff {l : List JobD} {cycle : Nat} (hok : JobsOk l cycle) : madeB l cycle = true ↔ InTime l cycle ∧ ∀ i, i < l.length → leftB l cycle i = 0 := by
  unfold madeB InTime
  simp only [Bool.and_eq_true, List.all_eq_true, List.mem_range]
  refine and_congr ⟨fun h s b hs hb => ?_, fun h t ht => ?_⟩ (forall_congr' fun i => imp_congr_right fun hi => ?_)
  · have := h s hs
    rw [hb] at this
    simpa using this
  · cases hb : servB l t with
    | none => rfl
    | some b => simpa using h t b ht hb
  · have := hok.fin i hi
    unfold waitB
    have h1 : (JobD.at_ l i).src ≤ cycle := by omega
    simp [h1]
theorem made_over {l : List JobD} {cycle : Nat} (hok : JobsOk l cycle) : madeB l cycle = (overB l cycle 1).isNone := by
  rw [Bool.eq_iff_iff, madeB_iff hok, Option.isNone_iff_eq_none]
  constructor
  · rintro ⟨h1, h2⟩
    cases ho : overB l cycle 1 with
    | none => rfl
    | some r =>
      have h3 := overB_some ho
      have h4 := time_demand h1 h2 (a := r.1) (b := r.2) (by omega) (by omega)
      omega
  · intro ho
    have hno : ∀ i, i < l.length → leftB l (JobD.at_ l i).fin i = 0 := by
      intro i hi
      apply Classical.byContradiction
      intro hne
      obtain ⟨a, b, h1, h2, h3⟩ := late_demand hok hi (by omega)
      exact overB_none ho b a (by omega) (by omega) h1 h3
    refine ⟨fun s b hs hb => ?_, fun i hi => ?_⟩
    · obtain ⟨h1, h2, h3, _⟩ := servB_some hb
      rcases Nat.lt_or_ge s (JobD.at_ l b).fin with h | h
      · exact h
      · have h4 := left_mono (l := l) (i := b) (JobD.at_ l b).fin (s - (JobD.at_ l b).fin)
        rw [show (JobD.at_ l b).fin + (s - (JobD.at_ l b).fin) = s from by omega, hno b h1] at h4
        omega
    · have h1 := hok.fin i hi
      have h4 := left_mono (l := l) (i := i) (JobD.at_ l i).fin (cycle - (JobD.at_ l i).fin)
      rw [show (JobD.at_ l i).fin + (cycle - (JobD.at_ l i).fin) = cycle from by omega, hno i hi] at h4
      omega
end Go.Proofs.Ytnmccbjdfdbgpaa
/- What is proved: nothing of Go: the jobs of messages; when a table serves them, in both ways; the table that is made serves; where one serves, one is made. Conditions: those that each lemma states. -/
namespace Go.Proofs.Ytnmccbjdfdbgpaa

/-- Messages: how many, their periods, deadlines, sizes. -/
structure MsgN where
  n : Nat
  per : Nat → Nat
  dead : Nat → Nat
  size : Nat → Nat
structure MsgOk (m : MsgN) (cycle : Nat) : Prop where
  msg : ∀ i, i < m.n → 1 ≤ m.size i ∧ m.size i ≤ m.dead i ∧ m.dead i ≤ m.per i
  dvd : ∀ i, i < m.n → m.per i ∣ cycle
def jobM (m : MsgN) (i r : Nat) : JobD := ⟨i, r * m.per i, r * m.per i + m.dead i, m.size i⟩
def jobsOne (m : MsgN) (cycle i : Nat) : List JobD := (List.range (cycle / m.per i)).map (jobM m i)
def jobsTo (m : MsgN) (cycle : Nat) : Nat → List JobD
  | 0 => []
  | k + 1 => jobsTo m cycle k ++ jobsOne m cycle k
def jobsB (m : MsgN) (cycle : Nat) : List JobD := jobsTo m cycle m.n
theorem jobsTo_len (m : MsgN) (cycle k : Nat) : (jobsTo m cycle (k + 1)).length = (jobsTo m cycle k).length + cycle / m.per k := by
  show (jobsTo m cycle k ++ jobsOne m cycle k).length = _
  rw [List.length_append]; simp [jobsOne]
theorem jobs_at {m : MsgN} {cycle i r : Nat} (hr : r < cycle / m.per i) : ∀ {k}, i < k → (jobsTo m cycle i).length + r < (jobsTo m cycle k).length ∧ JobD.at_ (jobsTo m cycle k) ((jobsTo m cycle i).length + r) = jobM m i r
  | 0, h => absurd h (by omega)
  | k + 1, h => by
    have hl := jobsTo_len m cycle k
    by_cases e : i = k
    · subst e
      refine ⟨by omega, ?_⟩
      unfold JobD.at_
      show (jobsTo m cycle i ++ jobsOne m cycle i).getD _ _ = _
      rw [List.getD_eq_getElem?_getD, List.getElem?_append_right (by omega)]
      unfold jobsOne
      simp [show (jobsTo m cycle i).length + r - (jobsTo m cycle i).length = r from by omega, hr]
    · obtain ⟨h1, h2⟩ := jobs_at (m := m) (cycle := cycle) hr (k := k) (by omega)
      refine ⟨Nat.lt_of_lt_of_le h1 (by rw [hl]; exact Nat.le_add_right _ _), ?_⟩
      unfold JobD.at_ at h2 ⊢
      show (jobsTo m cycle k ++ jobsOne m cycle k).getD _ _ = _
      rw [List.getD_eq_getElem?_getD, List.getElem?_append_left h1, ← List.getD_eq_getElem?_getD]
      exact h2
theorem jobs_form {m : MsgN} {cycle j : Nat} : ∀ {k}, j < (jobsTo m cycle k).length → ∃ i r, i < k ∧ r < cycle / m.per i ∧ j = (jobsTo m cycle i).length + r
  | 0, h => by simp [jobsTo] at h
  | k + 1, h => by
    rw [jobsTo_len] at h
    by_cases hj : j < (jobsTo m cycle k).length
    · obtain ⟨i, r, h1, h2, h3⟩ := jobs_form hj
      exact ⟨i, r, by omega, h2, h3⟩
    · exact ⟨k, j - (jobsTo m cycle k).length, by omega, by omega, by omega⟩
theorem jobsTo_mono {m : MsgN} {cycle : Nat} {i : Nat} : ∀ {k}, i ≤ k → (jobsTo m cycle i).length ≤ (jobsTo m cycle k).length
  | 0, h => by obtain rfl : i = 0 := by omega
               exact Nat.le_refl _
  | k + 1, h => by
    by_cases e : i = k + 1
    · subst e; exact Nat.le_refl _
    · have := jobsTo_mono (m := m) (cycle := cycle) (k := k) (i := i) (by omega)
      rw [jobsTo_len]; exact Nat.le_trans this (Nat.le_add_right _ _)
/-- A job's place tells its message and its round. -/
theorem jobs_inj {m : MsgN} {cycle i r i' r' : Nat} (hr : r < cycle / m.per i) (hr' : r' < cycle / m.per i') (h : (jobsTo m cycle i).length + r = (jobsTo m cycle i').length + r') : i = i' ∧ r = r' := by
  rcases Nat.lt_trichotomy i i' with hlt | rfl | hlt
  · exfalso
    have h1 := jobsTo_mono (m := m) (cycle := cycle) (i := i + 1) (k := i') (by omega)
    rw [jobsTo_len] at h1
    omega
  · exact ⟨rfl, by omega⟩
  · exfalso
    have h1 := jobsTo_mono (m := m) (cycle := cycle) (i := i' + 1) (k := i) (by omega)
    rw [jobsTo_len] at h1
    omega
theorem round_end {m : MsgN} {cycle i r : Nat} (hd : m.per i ∣ cycle) (hr : r < cycle / m.per i) : r * m.per i + m.per i ≤ cycle := by
  have h1 : (r + 1) * m.per i ≤ (cycle / m.per i) * m.per i := Nat.mul_le_mul_right _ hr
  rw [Nat.div_mul_cancel hd, Nat.add_mul, Nat.one_mul] at h1
  exact h1
theorem jobs_ok {m : MsgN} {cycle : Nat} (h : MsgOk m cycle) : JobsOk (jobsB m cycle) cycle := by
  refine ⟨fun j hj => ?_⟩
  obtain ⟨i, r, h1, h2, rfl⟩ := jobs_form hj
  have h3 := (jobs_at (m := m) (cycle := cycle) h2 h1).2
  show (JobD.at_ (jobsTo m cycle m.n) _).src < (JobD.at_ (jobsTo m cycle m.n) _).fin ∧ (JobD.at_ (jobsTo m cycle m.n) _).fin ≤ cycle
  rw [h3]
  have h4 := h.msg i h1
  have h5 := round_end (h.dvd i h1) h2
  unfold jobM; simp only; omega

/-! Counting. -/
theorem cntB_add (p : Nat → Bool) (a : Nat) : ∀ b, cntB p (a + b) = cntB p a + cntB (fun s => p (a + s)) b
  | 0 => by simp [cntB]
  | b + 1 => by
    rw [show a + (b + 1) = (a + b) + 1 from by omega, cntB_succ, cntB_succ, cntB_add p a b]; omega
def sumF (f : Nat → Nat) : Nat → Nat
  | 0 => 0
  | n + 1 => sumF f n + f n
theorem cntB_rounds (p : Nat → Bool) (d : Nat) : ∀ R, cntB p (R * d) = sumF (fun r => cntB (fun s => p (r * d + s)) d) R
  | 0 => by simp [cntB, sumF]
  | R + 1 => by
    rw [Nat.add_mul, Nat.one_mul, cntB_add, cntB_rounds p d R]; rfl
theorem sumF_succ (f : Nat → Nat) (n : Nat) : sumF f (n + 1) = sumF f n + f n := rfl
theorem sumF_le {f g : Nat → Nat} : ∀ {n}, (∀ i, i < n → f i ≤ g i) → sumF f n ≤ sumF g n
  | 0, _ => Nat.le_refl _
  | n + 1, h => by
    have h1 := sumF_le (n := n) fun i hi => h i (by omega)
    have h2 := h n (by omega)
    unfold sumF; omega
theorem sumF_same {f g : Nat → Nat} : ∀ {n}, (∀ i, i < n → f i ≤ g i) → sumF g n ≤ sumF f n → ∀ i, i < n → f i = g i
  | 0, _, _, i, hi => absurd hi (by omega)
  | n + 1, h, hs, i, hi => by
    have h1 := sumF_le (n := n) fun i hi => h i (by omega)
    have h2 := h n (by omega)
    rw [sumF_succ, sumF_succ] at hs
    by_cases e : i = n
    · subst e; omega
    · exact sumF_same (n := n) (fun i hi => h i (by omega)) (by omega) i (by omega)
theorem sumF_congr {f g : Nat → Nat} : ∀ {n}, (∀ i, i < n → f i = g i) → sumF f n = sumF g n
  | 0, _ => rfl
  | n + 1, h => by unfold sumF; rw [sumF_congr fun i hi => h i (by omega), h n (by omega)]
theorem cntB_zero {p : Nat → Bool} : ∀ {n}, cntB p n = 0 ↔ ∀ s, s < n → p s = false
  | 0 => by simp [cntB]
  | n + 1 => by
    rw [cntB_succ]
    constructor
    · intro h s hs
      by_cases e : s = n
      · subst e
        cases hp : p s
        · rfl
        · rw [hp] at h; simp at h
      · exact (cntB_zero (n := n)).1 (by omega) s (by omega)
    · intro h
      rw [(cntB_zero (n := n)).2 fun s hs => h s (by omega), h n (by omega)]; rfl

/-! When a table serves. -/
def isM (T : Nat → Int) (i : Nat) (s : Nat) : Bool := decide (T s = (i : Int))
/-- The program's way. -/
structure ServP (m : MsgN) (cycle : Nat) (T : Nat → Int) : Prop where
  slot : ∀ s, s < cycle → T s = -1 ∨ ∃ i, i < m.n ∧ T s = (i : Int) ∧ s % m.per i < m.dead i
  cnt : ∀ i r, i < m.n → r < cycle / m.per i → cntB (fun s => isM T i (r * m.per i + s)) (m.per i) = m.size i
/-- The document's way. -/
structure ServR (m : MsgN) (cycle : Nat) (T : Nat → Int) : Prop where
  slot : ∀ s, s < cycle → T s = -1 ∨ ∃ i, i < m.n ∧ T s = (i : Int)
  cnt : ∀ i r, i < m.n → r < cycle / m.per i → cntB (fun s => isM T i (r * m.per i + s)) (m.dead i) = m.size i
  used : ∀ i, i < m.n → cntB (isM T i) cycle = cycle / m.per i * m.size i
theorem sumF_const (c : Nat) : ∀ n, sumF (fun _ => c) n = n * c
  | 0 => by simp [sumF]
  | n + 1 => by unfold sumF; rw [sumF_const c n, Nat.add_mul, Nat.one_mul]
theorem cycle_rounds {m : MsgN} {cycle i : Nat} (hd : m.per i ∣ cycle) (T : Nat → Int) : cntB (isM T i) cycle = sumF (fun r => cntB (fun s => isM T i (r * m.per i + s)) (m.per i)) (cycle / m.per i) := by
  rw [← cntB_rounds, Nat.div_mul_cancel hd]
theorem serv_iff {m : MsgN} {cycle : Nat} (h : MsgOk m cycle) (T : Nat → Int) : ServP m cycle T ↔ ServR m cycle T := by
  have split : ∀ i r, i < m.n → cntB (fun s => isM T i (r * m.per i + s)) (m.per i) = cntB (fun s => isM T i (r * m.per i + s)) (m.dead i) + cntB (fun s => isM T i (r * m.per i + (m.dead i + s))) (m.per i - m.dead i) := by
    intro i r hi
    have h1 := h.msg i hi
    have h2 := cntB_add (fun s => isM T i (r * m.per i + s)) (m.dead i) (m.per i - m.dead i)
    rw [show m.dead i + (m.per i - m.dead i) = m.per i from by omega] at h2
    exact h2
  constructor
  · intro hp
    have hrest : ∀ i r, i < m.n → r < cycle / m.per i → cntB (fun s => isM T i (r * m.per i + (m.dead i + s))) (m.per i - m.dead i) = 0 := by
      intro i r hi hr
      rw [cntB_zero]
      intro s hs
      have h1 := h.msg i hi
      have h2 := round_end (h.dvd i hi) hr
      unfold isM
      rw [decide_eq_false_iff_not]
      intro hT
      rcases hp.slot (r * m.per i + (m.dead i + s)) (by omega) with h3 | ⟨i', h3, h4, h5⟩
      · rw [hT] at h3; omega
      · have : i' = i := by rw [hT] at h4; omega
        subst this
        rw [Nat.mul_comm, Nat.mul_add_mod, Nat.mod_eq_of_lt (by omega)] at h5
        omega
    have hw : ∀ i r, i < m.n → r < cycle / m.per i → cntB (fun s => isM T i (r * m.per i + s)) (m.dead i) = m.size i := by
      intro i r hi hr
      have h1 := split i r hi
      rw [hrest i r hi hr, hp.cnt i r hi hr] at h1
      omega
    refine ⟨fun s hs => ?_, hw, fun i hi => ?_⟩
    · rcases hp.slot s hs with h1 | ⟨i, h1, h2, _⟩
      · exact Or.inl h1
      · exact Or.inr ⟨i, h1, h2⟩
    · rw [cycle_rounds (h.dvd i hi), sumF_congr (g := fun _ => m.size i) fun r hr => hp.cnt i r hi hr, sumF_const]
  · intro hr
    have hall : ∀ i, i < m.n → ∀ r, r < cycle / m.per i → m.size i = cntB (fun s => isM T i (r * m.per i + s)) (m.per i) := by
      intro i hi
      refine sumF_same (f := fun _ => m.size i) (fun r hr' => ?_) ?_
      · have h1 := split i r hi
        rw [hr.cnt i r hi hr'] at h1
        omega
      · rw [sumF_const, ← cycle_rounds (h.dvd i hi), hr.used i hi]; exact Nat.le_refl _
    refine ⟨fun s hs => ?_, fun i r hi hr' => (hall i hi r hr').symm⟩
    rcases hr.slot s hs with h1 | ⟨i, h1, h2⟩
    · exact Or.inl h1
    · refine Or.inr ⟨i, h1, h2, ?_⟩
      have h3 := h.msg i h1
      have hp0 : 0 < m.per i := by omega
      have h4 : s / m.per i < cycle / m.per i := Nat.div_lt_of_lt_mul (by rw [Nat.mul_div_cancel' (h.dvd i h1)]; exact hs)
      have h5 := split i (s / m.per i) h1
      rw [← hall i h1 _ h4, hr.cnt i _ h1 h4] at h5
      have h6 : cntB (fun q => isM T i (s / m.per i * m.per i + (m.dead i + q))) (m.per i - m.dead i) = 0 := by omega
      rw [cntB_zero] at h6
      rcases Nat.lt_or_ge (s % m.per i) (m.dead i) with h7 | h7
      · exact h7
      · have h8 := Nat.mod_lt s hp0
        have h9 := h6 (s % m.per i - m.dead i) (by omega)
        rw [show m.dead i + (s % m.per i - m.dead i) = s % m.per i from by omega, Nat.mul_comm, Nat.div_add_mod] at h9
        unfold isM at h9
        rw [decide_eq_false_iff_not] at h9
        exact absurd h2 h9
theorem servedS_cnt {σ : Nat → Option Nat} {j a : Nat} {p : Nat → Bool} : ∀ n, (∀ s, s < n → (σ (a + s) = some j ↔ p s = true)) → servedS σ j a n = cntB p n
  | 0, _ => rfl
  | n + 1, h => by
    have h1 := h n (by omega)
    unfold servedS
    rw [cntB_succ, servedS_cnt n fun s hs => h s (by omega)]
    by_cases e : σ (a + n) = some j
    · rw [if_pos e, if_pos (h1.1 e)]
    · rw [if_neg e, if_neg fun hp => e (h1.2 hp)]
theorem servedS_add (σ : Nat → Option Nat) (j a : Nat) (n : Nat) : ∀ k, servedS σ j a (n + k) = servedS σ j a n + servedS σ j (a + n) k
  | 0 => rfl
  | k + 1 => by
    rw [show n + (k + 1) = (n + k) + 1 from by omega]
    show servedS σ j a (n + k) + _ = _ + (servedS σ j (a + n) k + _)
    rw [servedS_add σ j a n k, show a + (n + k) = a + n + k from by omega]; omega
/-- The job that a table serves at a slot. -/
def tabS (m : MsgN) (cycle : Nat) (T : Nat → Int) (s : Nat) : Option Nat := if 0 ≤ T s then some ((jobsTo m cycle (T s).toNat).length + s / m.per (T s).toNat) else none
/-- Where a table serves, no span is asked for more than it has. -/
theorem serv_demand {m : MsgN} {cycle : Nat} (h : MsgOk m cycle) {T : Nat → Int} (hs : ServP m cycle T) {a b : Nat} (hab : a ≤ b) : demandB (jobsB m cycle) a b ≤ b - a := by
  have key : ∀ j, j < (jobsB m cycle).length → a ≤ (JobD.at_ (jobsB m cycle) j).src → (JobD.at_ (jobsB m cycle) j).fin ≤ b → (JobD.at_ (jobsB m cycle) j).left ≤ servedS (tabS m cycle T) j a (b - a) := by
    intro j hj h1 h2
    obtain ⟨i, r, h3, h4, rfl⟩ := jobs_form hj
    have h5 := (jobs_at (m := m) (cycle := cycle) h4 h3).2
    change a ≤ (JobD.at_ (jobsTo m cycle m.n) _).src at h1
    change (JobD.at_ (jobsTo m cycle m.n) _).fin ≤ b at h2
    show (JobD.at_ (jobsTo m cycle m.n) _).left ≤ _
    rw [h5] at h1 h2 ⊢
    unfold jobM at h1 h2 ⊢
    simp only at h1 h2 ⊢
    have h6 := h.msg i h3
    have h7 := round_end (h.dvd i h3) h4
    have hw := ((serv_iff h T).1 hs).cnt i r h3 h4
    obtain ⟨c, hc⟩ : ∃ c, r * m.per i = a + c := ⟨r * m.per i - a, by omega⟩
    obtain ⟨e, he⟩ : ∃ e, b - a = c + (m.dead i + e) := ⟨b - a - c - m.dead i, by omega⟩
    rw [he, servedS_add, servedS_add, ← hc]
    have h8 : servedS (tabS m cycle T) ((jobsTo m cycle i).length + r) (r * m.per i) (m.dead i) = m.size i := by
      rw [← hw]
      refine servedS_cnt _ fun s hs' => ?_
      have hdiv : (r * m.per i + s) / m.per i = r := by
        rw [Nat.mul_comm, Nat.mul_add_div (by omega), Nat.div_eq_of_lt (by omega)]; rfl
      unfold tabS isM
      rw [decide_eq_true_eq]
      constructor
      · intro hx
        by_cases h0 : 0 ≤ T (r * m.per i + s)
        · rw [if_pos h0] at hx
          simp only [Option.some.injEq] at hx
          rcases hs.slot (r * m.per i + s) (by omega) with h9 | ⟨i', h9, h10, _⟩
          · omega
          · rw [h10, Int.toNat_natCast] at hx
            have h11 : (r * m.per i + s) / m.per i' < cycle / m.per i' := Nat.div_lt_of_lt_mul (by rw [Nat.mul_div_cancel' (h.dvd i' h9)]; omega)
            have := jobs_inj h11 h4 hx
            rw [h10, this.1]
        · rw [if_neg h0] at hx; exact absurd hx (by simp)
      · intro hx
        rw [hx, if_pos (by omega), Int.toNat_natCast, hdiv]
    rw [h8]; omega
  have h1 : ∀ k, k ≤ (jobsB m cycle).length → demandK (jobsB m cycle) a b k ≤ sumS (tabS m cycle T) (fun i => decide (a ≤ (JobD.at_ (jobsB m cycle) i).src ∧ (JobD.at_ (jobsB m cycle) i).fin ≤ b)) a (b - a) k := by
    intro k
    induction k with
    | zero => intro _; exact Nat.le_refl _
    | succ k ih =>
      intro hk
      have := ih (by omega)
      unfold demandK sumS
      by_cases hc : a ≤ (JobD.at_ (jobsB m cycle) k).src ∧ (JobD.at_ (jobsB m cycle) k).fin ≤ b
      · have := key k (by omega) hc.1 hc.2
        rw [if_pos hc, if_pos (by simpa using hc)]; omega
      · rw [if_neg hc, if_neg (by simpa using hc)]; omega
  have h2 := h1 _ (Nat.le_refl _)
  rw [sumS_busy] at h2
  exact Nat.le_trans h2 (busyS_le _ _ _ _ _)
theorem serv_made {m : MsgN} {cycle : Nat} (h : MsgOk m cycle) {T : Nat → Int} (hs : ServP m cycle T) : madeB (jobsB m cycle) cycle = true := by
  rw [made_over (jobs_ok h), Option.isNone_iff_eq_none]
  cases ho : overB (jobsB m cycle) cycle 1 with
  | none => rfl
  | some r =>
    have h3 := overB_some ho
    have h4 := serv_demand h hs (a := r.1) (b := r.2) (by omega)
    omega
/-- The table that is made serves. -/
theorem made_serv {m : MsgN} {cycle : Nat} (h : MsgOk m cycle) (hm : madeB (jobsB m cycle) cycle = true) : ServP m cycle (cellB (jobsB m cycle)) := by
  obtain ⟨ht, h0⟩ := (madeB_iff (jobs_ok h)).1 hm
  have hcell : ∀ s, s < cycle → ∀ j, servB (jobsB m cycle) s = some j → ∃ i r, i < m.n ∧ r < cycle / m.per i ∧ j = (jobsTo m cycle i).length + r ∧ cellB (jobsB m cycle) s = (i : Int) ∧ r * m.per i ≤ s ∧ s < r * m.per i + m.dead i := by
    intro s hs j hj
    obtain ⟨h1, h2, _, _⟩ := servB_some hj
    have h3 := ht s j hs hj
    obtain ⟨i, r, h4, h5, rfl⟩ := jobs_form h1
    have h6 := (jobs_at (m := m) (cycle := cycle) h5 h4).2
    change (JobD.at_ (jobsTo m cycle m.n) _).src ≤ s at h2
    change s < (JobD.at_ (jobsTo m cycle m.n) _).fin at h3
    have h7 : cellB (jobsB m cycle) s = ((JobD.at_ (jobsTo m cycle m.n) ((jobsTo m cycle i).length + r)).msg : Int) := by unfold cellB; rw [hj]; rfl
    rw [h6] at h2 h3 h7
    exact ⟨i, r, h4, h5, rfl, h7, h2, h3⟩
  have hdivr : ∀ i r s, i < m.n → r * m.per i ≤ s → s < r * m.per i + m.dead i → s / m.per i = r ∧ s % m.per i < m.dead i := by
    intro i r s hi h1 h2
    have h3 := h.msg i hi
    obtain ⟨q, rfl⟩ : ∃ q, s = r * m.per i + q := ⟨s - r * m.per i, by omega⟩
    rw [Nat.mul_comm r]
    rw [Nat.mul_add_div (by omega), Nat.mul_add_mod, Nat.div_eq_of_lt (by omega), Nat.mod_eq_of_lt (by omega)]
    omega
  rw [serv_iff h]
  have hslot : ∀ s, s < cycle → cellB (jobsB m cycle) s = -1 ∨ ∃ i, i < m.n ∧ cellB (jobsB m cycle) s = (i : Int) ∧ s % m.per i < m.dead i := by
    intro s hs
    cases hj : servB (jobsB m cycle) s with
    | none => exact Or.inl (by unfold cellB; rw [hj])
    | some j =>
      obtain ⟨i, r, h1, _, _, h2, h3, h4⟩ := hcell s hs j hj
      exact Or.inr ⟨i, h1, h2, (hdivr i r s h1 h3 h4).2⟩
  have hwin : ∀ i r, i < m.n → r < cycle / m.per i → cntB (fun s => isM (cellB (jobsB m cycle)) i (r * m.per i + s)) (m.dead i) = m.size i := by
    intro i r hi hr
    have h1 := h.msg i hi
    have h2 := round_end (h.dvd i hi) hr
    obtain ⟨h3, h4⟩ := jobs_at (m := m) (cycle := cycle) hr hi
    have e1 := left_served (jobsB m cycle) ((jobsTo m cycle i).length + r) (r * m.per i) (m.dead i)
    have e2 := left_served (jobsB m cycle) ((jobsTo m cycle i).length + r) (r * m.per i + m.dead i) (cycle - (r * m.per i + m.dead i))
    rw [show r * m.per i + m.dead i + (cycle - (r * m.per i + m.dead i)) = cycle from by omega, h0 _ h3] at e2
    have e3 : ∀ n, n ≤ cycle - (r * m.per i + m.dead i) → servedS (servB (jobsB m cycle)) ((jobsTo m cycle i).length + r) (r * m.per i + m.dead i) n = 0 := by
      intro n
      induction n with
      | zero => intro _; rfl
      | succ n ih =>
        intro hn
        unfold servedS
        rw [ih (by omega)]
        by_cases hs : servB (jobsB m cycle) (r * m.per i + m.dead i + n) = some ((jobsTo m cycle i).length + r)
        · have := ht _ _ (by omega) hs
          change _ < (JobD.at_ (jobsTo m cycle m.n) _).fin at this
          rw [h4] at this
          unfold jobM at this
          simp only at this
          omega
        · rw [if_neg hs]
    rw [e3 _ (Nat.le_refl _)] at e2
    have e4 : leftB (jobsB m cycle) (r * m.per i) ((jobsTo m cycle i).length + r) = m.size i := by
      have h5 : (JobD.at_ (jobsB m cycle) ((jobsTo m cycle i).length + r)) = jobM m i r := h4
      rw [left_before _ (by rw [h5]; exact Nat.le_refl _), h5]; rfl
    have e5 : servedS (servB (jobsB m cycle)) ((jobsTo m cycle i).length + r) (r * m.per i) (m.dead i) = cntB (fun s => isM (cellB (jobsB m cycle)) i (r * m.per i + s)) (m.dead i) := by
      refine servedS_cnt _ fun s hs => ?_
      unfold isM
      rw [decide_eq_true_eq]
      constructor
      · intro hx
        obtain ⟨i', r', k1, k2, k3, k4, _, _⟩ := hcell _ (by omega) _ hx
        have := jobs_inj hr k2 k3
        rw [k4, this.1]
      · intro hx
        cases hj : servB (jobsB m cycle) (r * m.per i + s) with
        | none =>
          unfold cellB at hx
          rw [hj] at hx
          simp only at hx
          omega
        | some j =>
          obtain ⟨i', r', k1, k2, k3, k4, k5, k6⟩ := hcell _ (by omega) _ hj
          have hii : i' = i := by rw [hx] at k4; omega
          subst hii
          have k7 := (hdivr i' r' _ k1 k5 k6).1
          have k8 := (hdivr i' r (r * m.per i' + s) k1 (by omega) (by omega)).1
          rw [k3, ← k7, k8]
    omega
  refine ⟨fun s hs => ?_, hwin, fun i hi => ?_⟩
  · rcases hslot s hs with h1 | ⟨i, h1, h2, _⟩
    · exact Or.inl h1
    · exact Or.inr ⟨i, h1, h2⟩
  · rw [cycle_rounds (h.dvd i hi), sumF_congr (g := fun _ => m.size i) (fun r hr => ?_), sumF_const]
    have h1 := h.msg i hi
    have h2 := cntB_add (fun s => isM (cellB (jobsB m cycle)) i (r * m.per i + s)) (m.dead i) (m.per i - m.dead i)
    rw [show m.dead i + (m.per i - m.dead i) = m.per i from by omega] at h2
    rw [h2, hwin i r hi hr]
    have h3 : cntB (fun s => isM (cellB (jobsB m cycle)) i (r * m.per i + (m.dead i + s))) (m.per i - m.dead i) = 0 := by
      rw [cntB_zero]
      intro s hs
      have h4 := round_end (h.dvd i hi) hr
      unfold isM
      rw [decide_eq_false_iff_not]
      intro hT
      rcases hslot (r * m.per i + (m.dead i + s)) (by omega) with h5 | ⟨i', h5, h6, h7⟩
      · rw [hT] at h5; omega
      · have : i' = i := by rw [hT] at h6; omega
        subst this
        rw [Nat.mul_comm, Nat.mul_add_mod, Nat.mod_eq_of_lt (by omega)] at h7
        omega
    omega
end Go.Proofs.Ytnmccbjdfdbgpaa
