/- What is proved: the texts Lib A1 Set Mod A2 A3 A4 A5 Row B1 B2 Reg Reg2 B3 B4 B5, one behind the other; each says at its head what it proves, and under which conditions. -/
import Derived.WalkKit
import Derived.WalkSpells
import Derived.WalkLawsBesides
import Derived.Lib.Hide
import Derived.Test.YtogobjmmgjfjjaaGreatRows
import Derived.Laws.EntriesVeiled
import Derived.Deep.QuietTactic
import Derived.BigQuiet
import Derived.IntWalk
import Derived.Orders
/- What is proved: small lemmas on memory (a slice that reads as a list of rows of cells), over whatever program. Conditions: none beyond those that each lemma states. -/
namespace Go.Proofs.YtogobjmmgjfjjaaGreat
open Go.RowKit

/-- The slice (its address 'A', its length 'n') lies below block 'B'; row i holds the k cells 'f i 0', .. -/
def Sl (w : World) (B k : Nat) (A : Option Addr) (n : Nat) (f : Nat → Nat → Value) : Prop :=
  n ≤ 9223372036854775807 ∧ (0 < n → ∃ b off, A = some ⟨b, off, none⟩ ∧ b < B ∧ ∀ i, i < n → ∀ j, j < k → w.cell? ⟨b, off + i * k + j, none⟩ = some (f i j))

theorem Sl.below {w w' : World} {B k n : Nat} {A : Option Addr} {f : Nat → Nat → Value} (h : Sl w B k A n f) (hb : Below B w w') : Sl w' B k A n f :=
  ⟨h.1, fun hn => by
    obtain ⟨b, off, e, hB, hc⟩ := h.2 hn
    exact ⟨b, off, e, hB, fun i hi j hj => (hb.cell (p := ⟨b, off + i * k + j, none⟩) hB).trans (hc i hi j hj)⟩⟩

theorem Sl.mono {w : World} {B B' k n : Nat} {A : Option Addr} {f : Nat → Nat → Value} (h : Sl w B k A n f) (hb : B ≤ B') : Sl w B' k A n f :=
  ⟨h.1, fun hn => by
    obtain ⟨b, off, e, hB, hc⟩ := h.2 hn
    exact ⟨b, off, e, by omega, hc⟩⟩

theorem Sl.nil (w : World) (B k : Nat) (A : Option Addr) (f : Nat → Nat → Value) : Sl w B k A 0 f := ⟨by omega, fun h => absurd h (by omega)⟩

/-- Do all of the first n satisfy q? -/
def allN (n : Nat) (q : Nat → Bool) : Bool := (List.range n).all q
/-- Does one of the first n satisfy q? Its place, or -1. -/
def idxN (n : Nat) (q : Nat → Bool) : Int := match (List.range n).find? q with | some i => (i : Int) | none => -1

theorem bcells {W w1 : World} {B : Nat} (hb : Below B W w1) : (∀ b o, b < B → w1.cell? ⟨b, o, none⟩ = W.cell? ⟨b, o, none⟩) ∧ (∀ b o, b < B → w1.frozen? ⟨b, o, none⟩ = W.frozen? ⟨b, o, none⟩) :=
  ⟨fun b o h => hb.cell (p := ⟨b, o, none⟩) h, fun b o h => hb.frozen (p := ⟨b, o, none⟩) h⟩
theorem below_drewN {B : Nat} {a w : World} (h : Below B a w) (n : Nat) : Below B a (w.drewN n) := ⟨h.os, h.tape, h.output, h.size, h.block⟩
theorem ret_bool {a b : Bool} (h : a = b) : Ending.returned (.bool a) = .returned (.bool b) := by rw [h]
theorem ret_int {k : IntKind} {a b : Int} (h : a = b) : Ending.returned (.int k a) = .returned (.int k b) := by rw [h]

/-- n is from a to b. -/
def inB (n a b : Int) : Bool := decide (a ≤ n) && decide (n ≤ b)

theorem find_range_none {n : Nat} {q : Nat → Bool} (h : ∀ i, i < n → q i = false) : (List.range n).find? q = none := by
  rw [List.find?_eq_none]; intro x hx; simp at hx; simp [h x hx]
theorem find_range_some {n k : Nat} {q : Nat → Bool} (hk : k < n) (h : ∀ i, i < k → q i = false) (hq : q k = true) : (List.range n).find? q = some k := by
  rw [List.find?_eq_some_iff_append]
  refine ⟨hq, List.range k, (List.range' (k+1) (n - (k+1))), ?_, ?_⟩
  · rw [List.range_eq_range', List.range_eq_range', show k :: List.range' (k+1) (n-(k+1)) = List.range' k (n - k) from by rw [show n - k = (n - (k+1)) + 1 from by omega, List.range'_succ]]
    rw [show List.range' k (n-k) = List.range' (0 + k) (n - k) from by simp, List.range'_append_1]; congr 1; omega
  · intro a ha; simp at ha; simp [h a ha]
theorem idxN_none {n : Nat} {q : Nat → Bool} (h : ∀ i, i < n → q i = false) : idxN n q = -1 := by unfold idxN; rw [find_range_none h]
theorem idxN_some {n k : Nat} {q : Nat → Bool} (hk : k < n) (h : ∀ i, i < k → q i = false) (hq : q k = true) : idxN n q = k := by unfold idxN; rw [find_range_some hk h hq]
theorem idxN_nonneg (n : Nat) (q : Nat → Bool) : decide (0 ≤ idxN n q) = !(allN n fun i => !q i) := by
  by_cases h : ∀ i, i < n → q i = false
  · rw [idxN_none h]; simp [allN]; intro i hi; exact h i hi
  · have : ∃ k, k < n ∧ q k = true ∧ ∀ i, i < k → q i = false := by
      have hex : ∃ k, k < n ∧ q k = true := by
        apply Classical.byContradiction; intro hc; apply h; intro i hi
        cases hq : q i
        · rfl
        · exact absurd ⟨i, hi, hq⟩ hc
      obtain ⟨k, hk⟩ := hex
      induction k using Nat.strongRecOn with
      | _ k ih =>
        by_cases hm : ∃ j, j < k ∧ q j = true
        · obtain ⟨j, hj, hqj⟩ := hm; exact ih j hj ⟨by omega, hqj⟩
        · refine ⟨k, hk.1, hk.2, fun i hi => ?_⟩
          cases hq : q i
          · rfl
          · exact absurd ⟨i, hi, hq⟩ hm
    obtain ⟨k, hk, hq, hl⟩ := this
    rw [idxN_some hk hl hq]
    have : (allN n fun i => !q i) = false := by
      unfold allN; rw [List.all_eq_false]; exact ⟨k, by simpa using hk, by simp [hq]⟩
    rw [this]; simp
theorem Sl.at1 {w : World} {B n i : Nat} {A : Option Addr} {f : Nat → Nat → Value} (h : Sl w B 1 A n f) (hi : i < n) :
    ∃ b off, A = some ⟨b, off, none⟩ ∧ b < B ∧ w.cell? ⟨b, off + i, none⟩ = some (f i 0) := by
  obtain ⟨b, off, rfl, hB, hc⟩ := h.2 (by omega)
  exact ⟨b, off, rfl, hB, by have := hc i hi 0 (by omega); simpa using this⟩
theorem Sl.at2 {w : World} {B n i : Nat} {A : Option Addr} {f : Nat → Nat → Value} (h : Sl w B 2 A n f) (hi : i < n) :
    ∃ b off, A = some ⟨b, off, none⟩ ∧ b < B ∧ w.cell? ⟨b, off + i * 2, none⟩ = some (f i 0) ∧ w.cell? ⟨b, off + i * 2 + 1, none⟩ = some (f i 1) := by
  obtain ⟨b, off, rfl, hB, hc⟩ := h.2 (by omega)
  exact ⟨b, off, rfl, hB, by have := hc i hi 0 (by omega); simpa using this, by have := hc i hi 1 (by omega); simpa using this⟩
theorem Sl.at3 {w : World} {B n i : Nat} {A : Option Addr} {f : Nat → Nat → Value} (h : Sl w B 3 A n f) (hi : i < n) :
    ∃ b off, A = some ⟨b, off, none⟩ ∧ b < B ∧ w.cell? ⟨b, off + i * 3, none⟩ = some (f i 0) ∧ w.cell? ⟨b, off + i * 3 + 1, none⟩ = some (f i 1) ∧ w.cell? ⟨b, off + i * 3 + 2, none⟩ = some (f i 2) := by
  obtain ⟨b, off, rfl, hB, hc⟩ := h.2 (by omega)
  exact ⟨b, off, rfl, hB, by have := hc i hi 0 (by omega); simpa using this, by have := hc i hi 1 (by omega); simpa using this, by have := hc i hi 2 (by omega); simpa using this⟩
theorem Sl.at4 {w : World} {B n i : Nat} {A : Option Addr} {f : Nat → Nat → Value} (h : Sl w B 4 A n f) (hi : i < n) :
    ∃ b off, A = some ⟨b, off, none⟩ ∧ b < B ∧ w.cell? ⟨b, off + i * 4, none⟩ = some (f i 0) ∧ w.cell? ⟨b, off + i * 4 + 1, none⟩ = some (f i 1) ∧ w.cell? ⟨b, off + i * 4 + 2, none⟩ = some (f i 2) ∧ w.cell? ⟨b, off + i * 4 + 3, none⟩ = some (f i 3) := by
  obtain ⟨b, off, rfl, hB, hc⟩ := h.2 (by omega)
  exact ⟨b, off, rfl, hB, by have := hc i hi 0 (by omega); simpa using this, by have := hc i hi 1 (by omega); simpa using this, by have := hc i hi 2 (by omega); simpa using this, by have := hc i hi 3 (by omega); simpa using this⟩
theorem Sl.at5 {w : World} {B n i : Nat} {A : Option Addr} {f : Nat → Nat → Value} (h : Sl w B 5 A n f) (hi : i < n) :
    ∃ b off, A = some ⟨b, off, none⟩ ∧ b < B ∧ w.cell? ⟨b, off + i * 5, none⟩ = some (f i 0) ∧ w.cell? ⟨b, off + i * 5 + 1, none⟩ = some (f i 1) ∧ w.cell? ⟨b, off + i * 5 + 2, none⟩ = some (f i 2) ∧ w.cell? ⟨b, off + i * 5 + 3, none⟩ = some (f i 3) ∧ w.cell? ⟨b, off + i * 5 + 4, none⟩ = some (f i 4) := by
  obtain ⟨b, off, rfl, hB, hc⟩ := h.2 (by omega)
  exact ⟨b, off, rfl, hB, by have := hc i hi 0 (by omega); simpa using this, by have := hc i hi 1 (by omega); simpa using this, by have := hc i hi 2 (by omega); simpa using this, by have := hc i hi 3 (by omega); simpa using this, by have := hc i hi 4 (by omega); simpa using this⟩
end Go.Proofs.YtogobjmmgjfjjaaGreat
/- What is proved: contracts of engine.within and of slices.IndexFunc, slices.ContainsFunc, engine.all at rows of structs. Conditions: the closure answers q i at row i in every later world. -/
namespace Go.Proofs.YtogobjmmgjfjjaaGreat
open Go.RowKit
set_option maxHeartbeats 400000 in
theorem within_any (a b c : Int) (w : World) :
    Calls Tryz.prog 69 #[.int .i64 a, .int .i64 b, .int .i64 c] w fun e w' => e = .returned (.bool (inB a b c)) ∧ w = w' := by
  go_enter Tryz.func69, Tryz.ntmps69
  go_wp2
  all_goals (go_ret; refine ⟨ret_bool ?_, rfl⟩; unfold inB; by_cases h1 : b ≤ a <;> by_cases h2 : a ≤ c <;> simp [h1, h2] <;> omega)

/-- What a closure over rows says: q i of row i, in whatever later world. -/
def ClosAt (P : Program) (w : World) (g : Nat) (lb : Array Value) (n : Nat) (arg : Nat → Value) (q : Nat → Bool) : Prop :=
  ∀ w', Below w.heap.size w w' → ∀ i, i < n → Calls P g (#[arg i] ++ lb) w' fun e w'' => e = .returned (.bool (q i)) ∧ Below w'.heap.size w' w''

set_option maxRecDepth 100000 in
set_option maxHeartbeats 800000 in
theorem idxTank (w : World) (A : Option Addr) (n c : Nat) (f : Nat → Nat → Value) (h : Sl w w.heap.size 4 A n f) (g : Nat) (lb : Array Value) (q : Nat → Bool)
    (eg : ∀ args w, (callFunc g args).run Tryz.prog w = .ok (.enter g args) w)
    (hq : ClosAt Tryz.prog w g lb n (fun i => .agg #[f i 0, f i 1, f i 2, f i 3]) q) :
    Calls Tryz.prog 172 #[.slice A n c, .func (.func g) #[] lb] w fun e w' => e = .returned (.int .i64 (idxN n q)) ∧ Below w.heap.size w w' := by
  have hn := h.1
  have HQ := Lib.hid hq; clear hq
  go_enter Tryz.func172, Tryz.ntmps172
  go_wp2_with fail
  go_loopw [8] (fun i wr => ∃ k : Nat, k ≤ n ∧ i = .int .i64 k ∧ Hid (∀ j, j < k → q j = false) ∧ Below w.heap.size w wr) (fun i _ => n - (intOf i).toNat)
  case atStart => exact ⟨0, Nat.zero_le _, rfl, Lib.hid fun j hj => absurd hj (by omega), Below.refl _ _⟩
  case round =>
    obtain ⟨k, hk, rfl, hl, hb⟩ := hrel
    by_cases hlt : k < n
    · obtain ⟨b, off, rfl, hB, c0, c1, c2, c3⟩ := (h.below hb).at4 hlt
      have hb2 := hb.size
      go_wp2_with fail
      refine (HQ.out wr hb k hlt).mono ?_
      rintro e w' ⟨rfl, hb'⟩
      have hbb := hb.trans (hb'.mono hb2)
      cases hqk : q k with
      | true =>
        have HK := Lib.hid hqk; clear hqk
        go_wp2_with fail
        go_ret
        exact ⟨ret_int (idxN_some hlt hl.out HK.out).symm, hbb⟩
      | false =>
        have HK := Lib.hid hqk; clear hqk
        go_wp2_with fail
        go_roundw
        case rel => exact ⟨k + 1, by omega, by go_num, Lib.hid fun j hj => if e : j = k then by subst e; exact HK.out else hl.out j (by omega), hbb⟩
        case measure => simp [intOf]; omega
    · go_wp2_with fail
      go_ret
      obtain rfl : k = n := by omega
      exact ⟨ret_int (idxN_none hl.out).symm, hb⟩

set_option maxHeartbeats 400000 in
theorem conTank (w : World) (A : Option Addr) (n c : Nat) (f : Nat → Nat → Value) (h : Sl w w.heap.size 4 A n f) (g : Nat) (lb : Array Value) (q : Nat → Bool)
    (eg : ∀ args w, (callFunc g args).run Tryz.prog w = .ok (.enter g args) w)
    (hq : ClosAt Tryz.prog w g lb n (fun i => .agg #[f i 0, f i 1, f i 2, f i 3]) q) :
    Calls Tryz.prog 156 #[.slice A n c, .func (.func g) #[] lb] w fun e w' => e = .returned (.bool (!(allN n fun i => !q i))) ∧ Below w.heap.size w w' := by
  have H := Lib.hid (idxTank w A n c f h g lb q eg hq); clear hq h eg
  have hi := Lib.hid (idxN_nonneg n q)
  go_enter Tryz.func156, Tryz.ntmps156
  go_wp2_with fail
  refine H.out.mono ?_
  rintro e w' ⟨rfl, hb⟩
  go_wp2_with fail
  go_ret
  exact ⟨ret_bool (by simpa using hi.out), hb⟩

set_option maxHeartbeats 400000 in
theorem negTank (w : World) (g : Nat) (lb : Array Value) (v0 v1 v2 v3 : Value) (r : Bool) (p : Nat) (eg : ∀ args w, (callFunc g args).run Tryz.prog w = .ok (.enter g args) w)
    (hp : w.cell? ⟨p, 0, none⟩ = some (.func (.func g) #[] lb))
    (hq : ∀ w', Below w.heap.size w w' → Calls Tryz.prog g (#[.agg #[v0, v1, v2, v3]] ++ lb) w' fun e w'' => e = .returned (.bool r) ∧ Below w'.heap.size w' w'') :
    Calls Tryz.prog 157 #[.agg #[v0, v1, v2, v3], .pointer (some ⟨p, 0, none⟩)] w fun e w' => e = .returned (.bool (!r)) ∧ Below w.heap.size w w' := by
  have HQ := Lib.hid hq; clear hq
  have hlt : p < w.heap.size := by
    rcases Nat.lt_or_ge p w.heap.size with h | h
    · exact h
    · simp [World.cell?, Array.getElem?_eq_none h] at hp
  go_enter Tryz.func157, Tryz.ntmps157
  go_wp2_with fail
  refine (HQ.out _ ((Below.refl _ _).alloc (Nat.le_refl _) _)).mono ?_
  rintro e w' ⟨rfl, hb⟩
  go_wp2_with fail
  go_ret
  exact ⟨ret_bool rfl, ((Below.refl _ _).alloc (Nat.le_refl _) _).trans (hb.mono (by simp))⟩

set_option maxHeartbeats 400000 in
theorem allTank (w : World) (A : Option Addr) (n c : Nat) (f : Nat → Nat → Value) (h : Sl w w.heap.size 4 A n f) (g : Nat) (lb : Array Value) (q : Nat → Bool)
    (eg : ∀ args w, (callFunc g args).run Tryz.prog w = .ok (.enter g args) w)
    (hq : ClosAt Tryz.prog w g lb n (fun i => .agg #[f i 0, f i 1, f i 2, f i 3]) q) :
    Calls Tryz.prog 124 #[.slice A n c, .func (.func g) #[] lb] w fun e w' => e = .returned (.bool (allN n q)) ∧ Below w.heap.size w w' := by
  have hb0 : ∀ o, Below w.heap.size w (w.alloc o) := fun o => (Below.refl _ _).alloc (Nat.le_refl _) _
  have HC : Hid (∀ t, Calls Tryz.prog 156 #[.slice A n c, .func (.func 157) #[] #[.pointer (some ⟨w.heap.size, 0, none⟩)]] (w.alloc (.cells #[.func (.func g) #[] lb] t))
      fun e w' => e = .returned (.bool (!(allN n fun i => !!q i))) ∧ Below (w.alloc (.cells #[.func (.func g) #[] lb] t)).heap.size (w.alloc (.cells #[.func (.func g) #[] lb] t)) w') := Lib.hid fun t => by
    refine conTank _ A n c f ((h.below (hb0 _)).mono (by simp)) 157 _ (fun i => !q i) (fun args w => by kernel_rfl) ?_
    intro w' hw' i hi
    refine negTank w' g lb _ _ _ _ (q i) _ eg ?_ (fun w'' hw'' => hq w'' ((hb0 _).trans ((hw'.mono (by simp)).trans (hw''.mono (by have := hw'.size; simp at this; omega)))) i hi)
    rw [hw'.cell (p := ⟨w.heap.size, 0, none⟩) (by simp)]
    simp
  clear hq h eg
  go_enter Tryz.func124, Tryz.ntmps124
  go_wp2_with fail
  refine (HC.out _).mono ?_
  rintro e w' ⟨rfl, hb⟩
  go_wp2_with fail
  go_ret
  exact ⟨ret_bool (by simp), (hb0 _).trans (hb.mono (by simp))⟩

set_option maxRecDepth 100000 in
set_option maxHeartbeats 800000 in
theorem idxValve (w : World) (A : Option Addr) (n c : Nat) (f : Nat → Nat → Value) (h : Sl w w.heap.size 3 A n f) (g : Nat) (lb : Array Value) (q : Nat → Bool)
    (eg : ∀ args w, (callFunc g args).run Tryz.prog w = .ok (.enter g args) w)
    (hq : ClosAt Tryz.prog w g lb n (fun i => .agg #[f i 0, f i 1, f i 2]) q) :
    Calls Tryz.prog 173 #[.slice A n c, .func (.func g) #[] lb] w fun e w' => e = .returned (.int .i64 (idxN n q)) ∧ Below w.heap.size w w' := by
  have hn := h.1
  have HQ := Lib.hid hq; clear hq
  go_enter Tryz.func173, Tryz.ntmps173
  go_wp2_with fail
  go_loopw [8] (fun i wr => ∃ k : Nat, k ≤ n ∧ i = .int .i64 k ∧ Hid (∀ j, j < k → q j = false) ∧ Below w.heap.size w wr) (fun i _ => n - (intOf i).toNat)
  case atStart => exact ⟨0, Nat.zero_le _, rfl, Lib.hid fun j hj => absurd hj (by omega), Below.refl _ _⟩
  case round =>
    obtain ⟨k, hk, rfl, hl, hb⟩ := hrel
    by_cases hlt : k < n
    · obtain ⟨b, off, rfl, hB, c0, c1, c2⟩ := (h.below hb).at3 hlt
      have hb2 := hb.size
      go_wp2_with fail
      refine (HQ.out wr hb k hlt).mono ?_
      rintro e w' ⟨rfl, hb'⟩
      have hbb := hb.trans (hb'.mono hb2)
      cases hqk : q k with
      | true =>
        have HK := Lib.hid hqk; clear hqk
        go_wp2_with fail
        go_ret
        exact ⟨ret_int (idxN_some hlt hl.out HK.out).symm, hbb⟩
      | false =>
        have HK := Lib.hid hqk; clear hqk
        go_wp2_with fail
        go_roundw
        case rel => exact ⟨k + 1, by omega, by go_num, Lib.hid fun j hj => if e : j = k then by subst e; exact HK.out else hl.out j (by omega), hbb⟩
        case measure => simp [intOf]; omega
    · go_wp2_with fail
      go_ret
      obtain rfl : k = n := by omega
      exact ⟨ret_int (idxN_none hl.out).symm, hb⟩

set_option maxHeartbeats 400000 in
theorem conValve (w : World) (A : Option Addr) (n c : Nat) (f : Nat → Nat → Value) (h : Sl w w.heap.size 3 A n f) (g : Nat) (lb : Array Value) (q : Nat → Bool)
    (eg : ∀ args w, (callFunc g args).run Tryz.prog w = .ok (.enter g args) w)
    (hq : ClosAt Tryz.prog w g lb n (fun i => .agg #[f i 0, f i 1, f i 2]) q) :
    Calls Tryz.prog 158 #[.slice A n c, .func (.func g) #[] lb] w fun e w' => e = .returned (.bool (!(allN n fun i => !q i))) ∧ Below w.heap.size w w' := by
  have H := Lib.hid (idxValve w A n c f h g lb q eg hq); clear hq h eg
  have hi := Lib.hid (idxN_nonneg n q)
  go_enter Tryz.func158, Tryz.ntmps158
  go_wp2_with fail
  refine H.out.mono ?_
  rintro e w' ⟨rfl, hb⟩
  go_wp2_with fail
  go_ret
  exact ⟨ret_bool (by simpa using hi.out), hb⟩

set_option maxHeartbeats 400000 in
theorem negValve (w : World) (g : Nat) (lb : Array Value) (v0 v1 v2 : Value) (r : Bool) (p : Nat) (eg : ∀ args w, (callFunc g args).run Tryz.prog w = .ok (.enter g args) w)
    (hp : w.cell? ⟨p, 0, none⟩ = some (.func (.func g) #[] lb))
    (hq : ∀ w', Below w.heap.size w w' → Calls Tryz.prog g (#[.agg #[v0, v1, v2]] ++ lb) w' fun e w'' => e = .returned (.bool r) ∧ Below w'.heap.size w' w'') :
    Calls Tryz.prog 159 #[.agg #[v0, v1, v2], .pointer (some ⟨p, 0, none⟩)] w fun e w' => e = .returned (.bool (!r)) ∧ Below w.heap.size w w' := by
  have HQ := Lib.hid hq; clear hq
  have hlt : p < w.heap.size := by
    rcases Nat.lt_or_ge p w.heap.size with h | h
    · exact h
    · simp [World.cell?, Array.getElem?_eq_none h] at hp
  go_enter Tryz.func159, Tryz.ntmps159
  go_wp2_with fail
  refine (HQ.out _ ((Below.refl _ _).alloc (Nat.le_refl _) _)).mono ?_
  rintro e w' ⟨rfl, hb⟩
  go_wp2_with fail
  go_ret
  exact ⟨ret_bool rfl, ((Below.refl _ _).alloc (Nat.le_refl _) _).trans (hb.mono (by simp))⟩

set_option maxHeartbeats 400000 in
theorem allValve (w : World) (A : Option Addr) (n c : Nat) (f : Nat → Nat → Value) (h : Sl w w.heap.size 3 A n f) (g : Nat) (lb : Array Value) (q : Nat → Bool)
    (eg : ∀ args w, (callFunc g args).run Tryz.prog w = .ok (.enter g args) w)
    (hq : ClosAt Tryz.prog w g lb n (fun i => .agg #[f i 0, f i 1, f i 2]) q) :
    Calls Tryz.prog 126 #[.slice A n c, .func (.func g) #[] lb] w fun e w' => e = .returned (.bool (allN n q)) ∧ Below w.heap.size w w' := by
  have hb0 : ∀ o, Below w.heap.size w (w.alloc o) := fun o => (Below.refl _ _).alloc (Nat.le_refl _) _
  have HC : Hid (∀ t, Calls Tryz.prog 158 #[.slice A n c, .func (.func 159) #[] #[.pointer (some ⟨w.heap.size, 0, none⟩)]] (w.alloc (.cells #[.func (.func g) #[] lb] t))
      fun e w' => e = .returned (.bool (!(allN n fun i => !!q i))) ∧ Below (w.alloc (.cells #[.func (.func g) #[] lb] t)).heap.size (w.alloc (.cells #[.func (.func g) #[] lb] t)) w') := Lib.hid fun t => by
    refine conValve _ A n c f ((h.below (hb0 _)).mono (by simp)) 159 _ (fun i => !q i) (fun args w => by kernel_rfl) ?_
    intro w' hw' i hi
    refine negValve w' g lb _ _ _ (q i) _ eg ?_ (fun w'' hw'' => hq w'' ((hb0 _).trans ((hw'.mono (by simp)).trans (hw''.mono (by have := hw'.size; simp at this; omega)))) i hi)
    rw [hw'.cell (p := ⟨w.heap.size, 0, none⟩) (by simp)]
    simp
  clear hq h eg
  go_enter Tryz.func126, Tryz.ntmps126
  go_wp2_with fail
  refine (HC.out _).mono ?_
  rintro e w' ⟨rfl, hb⟩
  go_wp2_with fail
  go_ret
  exact ⟨ret_bool (by simp), (hb0 _).trans (hb.mono (by simp))⟩

set_option maxRecDepth 100000 in
set_option maxHeartbeats 800000 in
theorem idxLine (w : World) (A : Option Addr) (n c : Nat) (f : Nat → Nat → Value) (h : Sl w w.heap.size 5 A n f) (g : Nat) (lb : Array Value) (q : Nat → Bool)
    (eg : ∀ args w, (callFunc g args).run Tryz.prog w = .ok (.enter g args) w)
    (hq : ClosAt Tryz.prog w g lb n (fun i => .agg #[f i 0, f i 1, f i 2, f i 3, f i 4]) q) :
    Calls Tryz.prog 174 #[.slice A n c, .func (.func g) #[] lb] w fun e w' => e = .returned (.int .i64 (idxN n q)) ∧ Below w.heap.size w w' := by
  have hn := h.1
  have HQ := Lib.hid hq; clear hq
  go_enter Tryz.func174, Tryz.ntmps174
  go_wp2_with fail
  go_loopw [8] (fun i wr => ∃ k : Nat, k ≤ n ∧ i = .int .i64 k ∧ Hid (∀ j, j < k → q j = false) ∧ Below w.heap.size w wr) (fun i _ => n - (intOf i).toNat)
  case atStart => exact ⟨0, Nat.zero_le _, rfl, Lib.hid fun j hj => absurd hj (by omega), Below.refl _ _⟩
  case round =>
    obtain ⟨k, hk, rfl, hl, hb⟩ := hrel
    by_cases hlt : k < n
    · obtain ⟨b, off, rfl, hB, c0, c1, c2, c3, c4⟩ := (h.below hb).at5 hlt
      have hb2 := hb.size
      go_wp2_with fail
      refine (HQ.out wr hb k hlt).mono ?_
      rintro e w' ⟨rfl, hb'⟩
      have hbb := hb.trans (hb'.mono hb2)
      cases hqk : q k with
      | true =>
        have HK := Lib.hid hqk; clear hqk
        go_wp2_with fail
        go_ret
        exact ⟨ret_int (idxN_some hlt hl.out HK.out).symm, hbb⟩
      | false =>
        have HK := Lib.hid hqk; clear hqk
        go_wp2_with fail
        go_roundw
        case rel => exact ⟨k + 1, by omega, by go_num, Lib.hid fun j hj => if e : j = k then by subst e; exact HK.out else hl.out j (by omega), hbb⟩
        case measure => simp [intOf]; omega
    · go_wp2_with fail
      go_ret
      obtain rfl : k = n := by omega
      exact ⟨ret_int (idxN_none hl.out).symm, hb⟩

set_option maxHeartbeats 400000 in
theorem conLine (w : World) (A : Option Addr) (n c : Nat) (f : Nat → Nat → Value) (h : Sl w w.heap.size 5 A n f) (g : Nat) (lb : Array Value) (q : Nat → Bool)
    (eg : ∀ args w, (callFunc g args).run Tryz.prog w = .ok (.enter g args) w)
    (hq : ClosAt Tryz.prog w g lb n (fun i => .agg #[f i 0, f i 1, f i 2, f i 3, f i 4]) q) :
    Calls Tryz.prog 160 #[.slice A n c, .func (.func g) #[] lb] w fun e w' => e = .returned (.bool (!(allN n fun i => !q i))) ∧ Below w.heap.size w w' := by
  have H := Lib.hid (idxLine w A n c f h g lb q eg hq); clear hq h eg
  have hi := Lib.hid (idxN_nonneg n q)
  go_enter Tryz.func160, Tryz.ntmps160
  go_wp2_with fail
  refine H.out.mono ?_
  rintro e w' ⟨rfl, hb⟩
  go_wp2_with fail
  go_ret
  exact ⟨ret_bool (by simpa using hi.out), hb⟩

set_option maxHeartbeats 400000 in
theorem negLine (w : World) (g : Nat) (lb : Array Value) (v0 v1 v2 v3 v4 : Value) (r : Bool) (p : Nat) (eg : ∀ args w, (callFunc g args).run Tryz.prog w = .ok (.enter g args) w)
    (hp : w.cell? ⟨p, 0, none⟩ = some (.func (.func g) #[] lb))
    (hq : ∀ w', Below w.heap.size w w' → Calls Tryz.prog g (#[.agg #[v0, v1, v2, v3, v4]] ++ lb) w' fun e w'' => e = .returned (.bool r) ∧ Below w'.heap.size w' w'') :
    Calls Tryz.prog 161 #[.agg #[v0, v1, v2, v3, v4], .pointer (some ⟨p, 0, none⟩)] w fun e w' => e = .returned (.bool (!r)) ∧ Below w.heap.size w w' := by
  have HQ := Lib.hid hq; clear hq
  have hlt : p < w.heap.size := by
    rcases Nat.lt_or_ge p w.heap.size with h | h
    · exact h
    · simp [World.cell?, Array.getElem?_eq_none h] at hp
  go_enter Tryz.func161, Tryz.ntmps161
  go_wp2_with fail
  refine (HQ.out _ ((Below.refl _ _).alloc (Nat.le_refl _) _)).mono ?_
  rintro e w' ⟨rfl, hb⟩
  go_wp2_with fail
  go_ret
  exact ⟨ret_bool rfl, ((Below.refl _ _).alloc (Nat.le_refl _) _).trans (hb.mono (by simp))⟩

set_option maxHeartbeats 400000 in
theorem allLine (w : World) (A : Option Addr) (n c : Nat) (f : Nat → Nat → Value) (h : Sl w w.heap.size 5 A n f) (g : Nat) (lb : Array Value) (q : Nat → Bool)
    (eg : ∀ args w, (callFunc g args).run Tryz.prog w = .ok (.enter g args) w)
    (hq : ClosAt Tryz.prog w g lb n (fun i => .agg #[f i 0, f i 1, f i 2, f i 3, f i 4]) q) :
    Calls Tryz.prog 130 #[.slice A n c, .func (.func g) #[] lb] w fun e w' => e = .returned (.bool (allN n q)) ∧ Below w.heap.size w w' := by
  have hb0 : ∀ o, Below w.heap.size w (w.alloc o) := fun o => (Below.refl _ _).alloc (Nat.le_refl _) _
  have HC : Hid (∀ t, Calls Tryz.prog 160 #[.slice A n c, .func (.func 161) #[] #[.pointer (some ⟨w.heap.size, 0, none⟩)]] (w.alloc (.cells #[.func (.func g) #[] lb] t))
      fun e w' => e = .returned (.bool (!(allN n fun i => !!q i))) ∧ Below (w.alloc (.cells #[.func (.func g) #[] lb] t)).heap.size (w.alloc (.cells #[.func (.func g) #[] lb] t)) w') := Lib.hid fun t => by
    refine conLine _ A n c f ((h.below (hb0 _)).mono (by simp)) 161 _ (fun i => !q i) (fun args w => by kernel_rfl) ?_
    intro w' hw' i hi
    refine negLine w' g lb _ _ _ _ _ (q i) _ eg ?_ (fun w'' hw'' => hq w'' ((hb0 _).trans ((hw'.mono (by simp)).trans (hw''.mono (by have := hw'.size; simp at this; omega)))) i hi)
    rw [hw'.cell (p := ⟨w.heap.size, 0, none⟩) (by simp)]
    simp
  clear hq h eg
  go_enter Tryz.func130, Tryz.ntmps130
  go_wp2_with fail
  refine (HC.out _).mono ?_
  rintro e w' ⟨rfl, hb⟩
  go_wp2_with fail
  go_ret
  exact ⟨ret_bool (by simp), (hb0 _).trans (hb.mono (by simp))⟩

set_option maxRecDepth 100000 in
set_option maxHeartbeats 800000 in
theorem idxLit (w : World) (A : Option Addr) (n c : Nat) (f : Nat → Nat → Value) (h : Sl w w.heap.size 2 A n f) (g : Nat) (lb : Array Value) (q : Nat → Bool)
    (eg : ∀ args w, (callFunc g args).run Tryz.prog w = .ok (.enter g args) w)
    (hq : ClosAt Tryz.prog w g lb n (fun i => .agg #[f i 0, f i 1]) q) :
    Calls Tryz.prog 169 #[.slice A n c, .func (.func g) #[] lb] w fun e w' => e = .returned (.int .i64 (idxN n q)) ∧ Below w.heap.size w w' := by
  have hn := h.1
  have HQ := Lib.hid hq; clear hq
  go_enter Tryz.func169, Tryz.ntmps169
  go_wp2_with fail
  go_loopw [8] (fun i wr => ∃ k : Nat, k ≤ n ∧ i = .int .i64 k ∧ Hid (∀ j, j < k → q j = false) ∧ Below w.heap.size w wr) (fun i _ => n - (intOf i).toNat)
  case atStart => exact ⟨0, Nat.zero_le _, rfl, Lib.hid fun j hj => absurd hj (by omega), Below.refl _ _⟩
  case round =>
    obtain ⟨k, hk, rfl, hl, hb⟩ := hrel
    by_cases hlt : k < n
    · obtain ⟨b, off, rfl, hB, c0, c1⟩ := (h.below hb).at2 hlt
      have hb2 := hb.size
      go_wp2_with fail
      refine (HQ.out wr hb k hlt).mono ?_
      rintro e w' ⟨rfl, hb'⟩
      have hbb := hb.trans (hb'.mono hb2)
      cases hqk : q k with
      | true =>
        have HK := Lib.hid hqk; clear hqk
        go_wp2_with fail
        go_ret
        exact ⟨ret_int (idxN_some hlt hl.out HK.out).symm, hbb⟩
      | false =>
        have HK := Lib.hid hqk; clear hqk
        go_wp2_with fail
        go_roundw
        case rel => exact ⟨k + 1, by omega, by go_num, Lib.hid fun j hj => if e : j = k then by subst e; exact HK.out else hl.out j (by omega), hbb⟩
        case measure => simp [intOf]; omega
    · go_wp2_with fail
      go_ret
      obtain rfl : k = n := by omega
      exact ⟨ret_int (idxN_none hl.out).symm, hb⟩

set_option maxHeartbeats 400000 in
theorem conLit (w : World) (A : Option Addr) (n c : Nat) (f : Nat → Nat → Value) (h : Sl w w.heap.size 2 A n f) (g : Nat) (lb : Array Value) (q : Nat → Bool)
    (eg : ∀ args w, (callFunc g args).run Tryz.prog w = .ok (.enter g args) w)
    (hq : ClosAt Tryz.prog w g lb n (fun i => .agg #[f i 0, f i 1]) q) :
    Calls Tryz.prog 145 #[.slice A n c, .func (.func g) #[] lb] w fun e w' => e = .returned (.bool (!(allN n fun i => !q i))) ∧ Below w.heap.size w w' := by
  have H := Lib.hid (idxLit w A n c f h g lb q eg hq); clear hq h eg
  have hi := Lib.hid (idxN_nonneg n q)
  go_enter Tryz.func145, Tryz.ntmps145
  go_wp2_with fail
  refine H.out.mono ?_
  rintro e w' ⟨rfl, hb⟩
  go_wp2_with fail
  go_ret
  exact ⟨ret_bool (by simpa using hi.out), hb⟩

set_option maxHeartbeats 400000 in
theorem negLit (w : World) (g : Nat) (lb : Array Value) (v0 v1 : Value) (r : Bool) (p : Nat) (eg : ∀ args w, (callFunc g args).run Tryz.prog w = .ok (.enter g args) w)
    (hp : w.cell? ⟨p, 0, none⟩ = some (.func (.func g) #[] lb))
    (hq : ∀ w', Below w.heap.size w w' → Calls Tryz.prog g (#[.agg #[v0, v1]] ++ lb) w' fun e w'' => e = .returned (.bool r) ∧ Below w'.heap.size w' w'') :
    Calls Tryz.prog 146 #[.agg #[v0, v1], .pointer (some ⟨p, 0, none⟩)] w fun e w' => e = .returned (.bool (!r)) ∧ Below w.heap.size w w' := by
  have HQ := Lib.hid hq; clear hq
  have hlt : p < w.heap.size := by
    rcases Nat.lt_or_ge p w.heap.size with h | h
    · exact h
    · simp [World.cell?, Array.getElem?_eq_none h] at hp
  go_enter Tryz.func146, Tryz.ntmps146
  go_wp2_with fail
  refine (HQ.out _ ((Below.refl _ _).alloc (Nat.le_refl _) _)).mono ?_
  rintro e w' ⟨rfl, hb⟩
  go_wp2_with fail
  go_ret
  exact ⟨ret_bool rfl, ((Below.refl _ _).alloc (Nat.le_refl _) _).trans (hb.mono (by simp))⟩

set_option maxHeartbeats 400000 in
theorem allLit (w : World) (A : Option Addr) (n c : Nat) (f : Nat → Nat → Value) (h : Sl w w.heap.size 2 A n f) (g : Nat) (lb : Array Value) (q : Nat → Bool)
    (eg : ∀ args w, (callFunc g args).run Tryz.prog w = .ok (.enter g args) w)
    (hq : ClosAt Tryz.prog w g lb n (fun i => .agg #[f i 0, f i 1]) q) :
    Calls Tryz.prog 85 #[.slice A n c, .func (.func g) #[] lb] w fun e w' => e = .returned (.bool (allN n q)) ∧ Below w.heap.size w w' := by
  have hb0 : ∀ o, Below w.heap.size w (w.alloc o) := fun o => (Below.refl _ _).alloc (Nat.le_refl _) _
  have HC : Hid (∀ t, Calls Tryz.prog 145 #[.slice A n c, .func (.func 146) #[] #[.pointer (some ⟨w.heap.size, 0, none⟩)]] (w.alloc (.cells #[.func (.func g) #[] lb] t))
      fun e w' => e = .returned (.bool (!(allN n fun i => !!q i))) ∧ Below (w.alloc (.cells #[.func (.func g) #[] lb] t)).heap.size (w.alloc (.cells #[.func (.func g) #[] lb] t)) w') := Lib.hid fun t => by
    refine conLit _ A n c f ((h.below (hb0 _)).mono (by simp)) 146 _ (fun i => !q i) (fun args w => by kernel_rfl) ?_
    intro w' hw' i hi
    refine negLit w' g lb _ _ (q i) _ eg ?_ (fun w'' hw'' => hq w'' ((hb0 _).trans ((hw'.mono (by simp)).trans (hw''.mono (by have := hw'.size; simp at this; omega)))) i hi)
    rw [hw'.cell (p := ⟨w.heap.size, 0, none⟩) (by simp)]
    simp
  clear hq h eg
  go_enter Tryz.func85, Tryz.ntmps85
  go_wp2_with fail
  refine (HC.out _).mono ?_
  rintro e w' ⟨rfl, hb⟩
  go_wp2_with fail
  go_ret
  exact ⟨ret_bool (by simp), (hb0 _).trans (hb.mono (by simp))⟩

set_option maxRecDepth 100000 in
set_option maxHeartbeats 800000 in
theorem idxLits (w : World) (A : Option Addr) (n c : Nat) (f : Nat → Nat → Value) (h : Sl w w.heap.size 1 A n f) (g : Nat) (lb : Array Value) (q : Nat → Bool)
    (eg : ∀ args w, (callFunc g args).run Tryz.prog w = .ok (.enter g args) w)
    (hq : ClosAt Tryz.prog w g lb n (fun i => f i 0) q) :
    Calls Tryz.prog 164 #[.slice A n c, .func (.func g) #[] lb] w fun e w' => e = .returned (.int .i64 (idxN n q)) ∧ Below w.heap.size w w' := by
  have hn := h.1
  have HQ := Lib.hid hq; clear hq
  go_enter Tryz.func164, Tryz.ntmps164
  go_wp2_with fail
  go_loopw [8] (fun i wr => ∃ k : Nat, k ≤ n ∧ i = .int .i64 k ∧ Hid (∀ j, j < k → q j = false) ∧ Below w.heap.size w wr) (fun i _ => n - (intOf i).toNat)
  case atStart => exact ⟨0, Nat.zero_le _, rfl, Lib.hid fun j hj => absurd hj (by omega), Below.refl _ _⟩
  case round =>
    obtain ⟨k, hk, rfl, hl, hb⟩ := hrel
    by_cases hlt : k < n
    · obtain ⟨b, off, rfl, hB, c0⟩ := (h.below hb).at1 hlt
      have hb2 := hb.size
      go_wp2_with fail
      refine (HQ.out wr hb k hlt).mono ?_
      rintro e w' ⟨rfl, hb'⟩
      have hbb := hb.trans (hb'.mono hb2)
      cases hqk : q k with
      | true =>
        have HK := Lib.hid hqk; clear hqk
        go_wp2_with fail
        go_ret
        exact ⟨ret_int (idxN_some hlt hl.out HK.out).symm, hbb⟩
      | false =>
        have HK := Lib.hid hqk; clear hqk
        go_wp2_with fail
        go_roundw
        case rel => exact ⟨k + 1, by omega, by go_num, Lib.hid fun j hj => if e : j = k then by subst e; exact HK.out else hl.out j (by omega), hbb⟩
        case measure => simp [intOf]; omega
    · go_wp2_with fail
      go_ret
      obtain rfl : k = n := by omega
      exact ⟨ret_int (idxN_none hl.out).symm, hb⟩

set_option maxHeartbeats 400000 in
theorem conLits (w : World) (A : Option Addr) (n c : Nat) (f : Nat → Nat → Value) (h : Sl w w.heap.size 1 A n f) (g : Nat) (lb : Array Value) (q : Nat → Bool)
    (eg : ∀ args w, (callFunc g args).run Tryz.prog w = .ok (.enter g args) w)
    (hq : ClosAt Tryz.prog w g lb n (fun i => f i 0) q) :
    Calls Tryz.prog 133 #[.slice A n c, .func (.func g) #[] lb] w fun e w' => e = .returned (.bool (!(allN n fun i => !q i))) ∧ Below w.heap.size w w' := by
  have H := Lib.hid (idxLits w A n c f h g lb q eg hq); clear hq h eg
  have hi := Lib.hid (idxN_nonneg n q)
  go_enter Tryz.func133, Tryz.ntmps133
  go_wp2_with fail
  refine H.out.mono ?_
  rintro e w' ⟨rfl, hb⟩
  go_wp2_with fail
  go_ret
  exact ⟨ret_bool (by simpa using hi.out), hb⟩

set_option maxHeartbeats 400000 in
theorem negLits (w : World) (g : Nat) (lb : Array Value) (v0 : Value) (r : Bool) (p : Nat) (eg : ∀ args w, (callFunc g args).run Tryz.prog w = .ok (.enter g args) w)
    (hp : w.cell? ⟨p, 0, none⟩ = some (.func (.func g) #[] lb))
    (hq : ∀ w', Below w.heap.size w w' → Calls Tryz.prog g (#[v0] ++ lb) w' fun e w'' => e = .returned (.bool r) ∧ Below w'.heap.size w' w'') :
    Calls Tryz.prog 134 #[v0, .pointer (some ⟨p, 0, none⟩)] w fun e w' => e = .returned (.bool (!r)) ∧ Below w.heap.size w w' := by
  have HQ := Lib.hid hq; clear hq
  have hlt : p < w.heap.size := by
    rcases Nat.lt_or_ge p w.heap.size with h | h
    · exact h
    · simp [World.cell?, Array.getElem?_eq_none h] at hp
  go_enter Tryz.func134, Tryz.ntmps134
  go_wp2_with fail
  refine (HQ.out _ (Below.refl _ _)).mono ?_
  rintro e w' ⟨rfl, hb⟩
  go_wp2_with fail
  go_ret
  exact ⟨ret_bool rfl, (Below.refl _ _).trans (hb.mono (by simp))⟩

set_option maxHeartbeats 400000 in
theorem allLits (w : World) (A : Option Addr) (n c : Nat) (f : Nat → Nat → Value) (h : Sl w w.heap.size 1 A n f) (g : Nat) (lb : Array Value) (q : Nat → Bool)
    (eg : ∀ args w, (callFunc g args).run Tryz.prog w = .ok (.enter g args) w)
    (hq : ClosAt Tryz.prog w g lb n (fun i => f i 0) q) :
    Calls Tryz.prog 65 #[.slice A n c, .func (.func g) #[] lb] w fun e w' => e = .returned (.bool (allN n q)) ∧ Below w.heap.size w w' := by
  have hb0 : ∀ o, Below w.heap.size w (w.alloc o) := fun o => (Below.refl _ _).alloc (Nat.le_refl _) _
  have HC : Hid (∀ t, Calls Tryz.prog 133 #[.slice A n c, .func (.func 134) #[] #[.pointer (some ⟨w.heap.size, 0, none⟩)]] (w.alloc (.cells #[.func (.func g) #[] lb] t))
      fun e w' => e = .returned (.bool (!(allN n fun i => !!q i))) ∧ Below (w.alloc (.cells #[.func (.func g) #[] lb] t)).heap.size (w.alloc (.cells #[.func (.func g) #[] lb] t)) w') := Lib.hid fun t => by
    refine conLits _ A n c f ((h.below (hb0 _)).mono (by simp)) 134 _ (fun i => !q i) (fun args w => by kernel_rfl) ?_
    intro w' hw' i hi
    refine negLits w' g lb _  (q i) _ eg ?_ (fun w'' hw'' => hq w'' ((hb0 _).trans ((hw'.mono (by simp)).trans (hw''.mono (by have := hw'.size; simp at this; omega)))) i hi)
    rw [hw'.cell (p := ⟨w.heap.size, 0, none⟩) (by simp)]
    simp
  clear hq h eg
  go_enter Tryz.func65, Tryz.ntmps65
  go_wp2_with fail
  refine (HC.out _).mono ?_
  rintro e w' ⟨rfl, hb⟩
  go_wp2_with fail
  go_ret
  exact ⟨ret_bool (by simp), (hb0 _).trans (hb.mono (by simp))⟩

set_option maxRecDepth 100000 in
set_option maxHeartbeats 800000 in
theorem idxInt (w : World) (A : Option Addr) (n c : Nat) (f : Nat → Nat → Value) (h : Sl w w.heap.size 1 A n f) (g : Nat) (lb : Array Value) (q : Nat → Bool)
    (eg : ∀ args w, (callFunc g args).run Tryz.prog w = .ok (.enter g args) w)
    (hq : ClosAt Tryz.prog w g lb n (fun i => f i 0) q) :
    Calls Tryz.prog 175 #[.slice A n c, .func (.func g) #[] lb] w fun e w' => e = .returned (.int .i64 (idxN n q)) ∧ Below w.heap.size w w' := by
  have hn := h.1
  have HQ := Lib.hid hq; clear hq
  go_enter Tryz.func175, Tryz.ntmps175
  go_wp2_with fail
  go_loopw [8] (fun i wr => ∃ k : Nat, k ≤ n ∧ i = .int .i64 k ∧ Hid (∀ j, j < k → q j = false) ∧ Below w.heap.size w wr) (fun i _ => n - (intOf i).toNat)
  case atStart => exact ⟨0, Nat.zero_le _, rfl, Lib.hid fun j hj => absurd hj (by omega), Below.refl _ _⟩
  case round =>
    obtain ⟨k, hk, rfl, hl, hb⟩ := hrel
    by_cases hlt : k < n
    · obtain ⟨b, off, rfl, hB, c0⟩ := (h.below hb).at1 hlt
      have hb2 := hb.size
      go_wp2_with fail
      refine (HQ.out wr hb k hlt).mono ?_
      rintro e w' ⟨rfl, hb'⟩
      have hbb := hb.trans (hb'.mono hb2)
      cases hqk : q k with
      | true =>
        have HK := Lib.hid hqk; clear hqk
        go_wp2_with fail
        go_ret
        exact ⟨ret_int (idxN_some hlt hl.out HK.out).symm, hbb⟩
      | false =>
        have HK := Lib.hid hqk; clear hqk
        go_wp2_with fail
        go_roundw
        case rel => exact ⟨k + 1, by omega, by go_num, Lib.hid fun j hj => if e : j = k then by subst e; exact HK.out else hl.out j (by omega), hbb⟩
        case measure => simp [intOf]; omega
    · go_wp2_with fail
      go_ret
      obtain rfl : k = n := by omega
      exact ⟨ret_int (idxN_none hl.out).symm, hb⟩

set_option maxHeartbeats 400000 in
theorem conInt (w : World) (A : Option Addr) (n c : Nat) (f : Nat → Nat → Value) (h : Sl w w.heap.size 1 A n f) (g : Nat) (lb : Array Value) (q : Nat → Bool)
    (eg : ∀ args w, (callFunc g args).run Tryz.prog w = .ok (.enter g args) w)
    (hq : ClosAt Tryz.prog w g lb n (fun i => f i 0) q) :
    Calls Tryz.prog 162 #[.slice A n c, .func (.func g) #[] lb] w fun e w' => e = .returned (.bool (!(allN n fun i => !q i))) ∧ Below w.heap.size w w' := by
  have H := Lib.hid (idxInt w A n c f h g lb q eg hq); clear hq h eg
  have hi := Lib.hid (idxN_nonneg n q)
  go_enter Tryz.func162, Tryz.ntmps162
  go_wp2_with fail
  refine H.out.mono ?_
  rintro e w' ⟨rfl, hb⟩
  go_wp2_with fail
  go_ret
  exact ⟨ret_bool (by simpa using hi.out), hb⟩

set_option maxHeartbeats 400000 in
theorem negInt (w : World) (g : Nat) (lb : Array Value) (v0 : Value) (r : Bool) (p : Nat) (eg : ∀ args w, (callFunc g args).run Tryz.prog w = .ok (.enter g args) w)
    (hp : w.cell? ⟨p, 0, none⟩ = some (.func (.func g) #[] lb))
    (hq : ∀ w', Below w.heap.size w w' → Calls Tryz.prog g (#[v0] ++ lb) w' fun e w'' => e = .returned (.bool r) ∧ Below w'.heap.size w' w'') :
    Calls Tryz.prog 163 #[v0, .pointer (some ⟨p, 0, none⟩)] w fun e w' => e = .returned (.bool (!r)) ∧ Below w.heap.size w w' := by
  have HQ := Lib.hid hq; clear hq
  have hlt : p < w.heap.size := by
    rcases Nat.lt_or_ge p w.heap.size with h | h
    · exact h
    · simp [World.cell?, Array.getElem?_eq_none h] at hp
  go_enter Tryz.func163, Tryz.ntmps163
  go_wp2_with fail
  refine (HQ.out _ (Below.refl _ _)).mono ?_
  rintro e w' ⟨rfl, hb⟩
  go_wp2_with fail
  go_ret
  exact ⟨ret_bool rfl, (Below.refl _ _).trans (hb.mono (by simp))⟩

set_option maxHeartbeats 400000 in
theorem allInt (w : World) (A : Option Addr) (n c : Nat) (f : Nat → Nat → Value) (h : Sl w w.heap.size 1 A n f) (g : Nat) (lb : Array Value) (q : Nat → Bool)
    (eg : ∀ args w, (callFunc g args).run Tryz.prog w = .ok (.enter g args) w)
    (hq : ClosAt Tryz.prog w g lb n (fun i => f i 0) q) :
    Calls Tryz.prog 132 #[.slice A n c, .func (.func g) #[] lb] w fun e w' => e = .returned (.bool (allN n q)) ∧ Below w.heap.size w w' := by
  have hb0 : ∀ o, Below w.heap.size w (w.alloc o) := fun o => (Below.refl _ _).alloc (Nat.le_refl _) _
  have HC : Hid (∀ t, Calls Tryz.prog 162 #[.slice A n c, .func (.func 163) #[] #[.pointer (some ⟨w.heap.size, 0, none⟩)]] (w.alloc (.cells #[.func (.func g) #[] lb] t))
      fun e w' => e = .returned (.bool (!(allN n fun i => !!q i))) ∧ Below (w.alloc (.cells #[.func (.func g) #[] lb] t)).heap.size (w.alloc (.cells #[.func (.func g) #[] lb] t)) w') := Lib.hid fun t => by
    refine conInt _ A n c f ((h.below (hb0 _)).mono (by simp)) 163 _ (fun i => !q i) (fun args w => by kernel_rfl) ?_
    intro w' hw' i hi
    refine negInt w' g lb _  (q i) _ eg ?_ (fun w'' hw'' => hq w'' ((hb0 _).trans ((hw'.mono (by simp)).trans (hw''.mono (by have := hw'.size; simp at this; omega)))) i hi)
    rw [hw'.cell (p := ⟨w.heap.size, 0, none⟩) (by simp)]
    simp
  clear hq h eg
  go_enter Tryz.func132, Tryz.ntmps132
  go_wp2_with fail
  refine (HC.out _).mono ?_
  rintro e w' ⟨rfl, hb⟩
  go_wp2_with fail
  go_ret
  exact ⟨ret_bool (by simp), (hb0 _).trans (hb.mono (by simp))⟩

set_option maxRecDepth 100000 in
set_option maxHeartbeats 800000 in
theorem idxNeed (w : World) (A : Option Addr) (n c : Nat) (f : Nat → Nat → Value) (h : Sl w w.heap.size 4 A n f) (g : Nat) (lb : Array Value) (q : Nat → Bool)
    (eg : ∀ args w, (callFunc g args).run Tryz.prog w = .ok (.enter g args) w)
    (hq : ClosAt Tryz.prog w g lb n (fun i => .agg #[f i 0, f i 1, f i 2, f i 3]) q) :
    Calls Tryz.prog 167 #[.slice A n c, .func (.func g) #[] lb] w fun e w' => e = .returned (.int .i64 (idxN n q)) ∧ Below w.heap.size w w' := by
  have hn := h.1
  have HQ := Lib.hid hq; clear hq
  go_enter Tryz.func167, Tryz.ntmps167
  go_wp2_with fail
  go_loopw [8] (fun i wr => ∃ k : Nat, k ≤ n ∧ i = .int .i64 k ∧ Hid (∀ j, j < k → q j = false) ∧ Below w.heap.size w wr) (fun i _ => n - (intOf i).toNat)
  case atStart => exact ⟨0, Nat.zero_le _, rfl, Lib.hid fun j hj => absurd hj (by omega), Below.refl _ _⟩
  case round =>
    obtain ⟨k, hk, rfl, hl, hb⟩ := hrel
    by_cases hlt : k < n
    · obtain ⟨b, off, rfl, hB, c0, c1, c2, c3⟩ := (h.below hb).at4 hlt
      have hb2 := hb.size
      go_wp2_with fail
      refine (HQ.out wr hb k hlt).mono ?_
      rintro e w' ⟨rfl, hb'⟩
      have hbb := hb.trans (hb'.mono hb2)
      cases hqk : q k with
      | true =>
        have HK := Lib.hid hqk; clear hqk
        go_wp2_with fail
        go_ret
        exact ⟨ret_int (idxN_some hlt hl.out HK.out).symm, hbb⟩
      | false =>
        have HK := Lib.hid hqk; clear hqk
        go_wp2_with fail
        go_roundw
        case rel => exact ⟨k + 1, by omega, by go_num, Lib.hid fun j hj => if e : j = k then by subst e; exact HK.out else hl.out j (by omega), hbb⟩
        case measure => simp [intOf]; omega
    · go_wp2_with fail
      go_ret
      obtain rfl : k = n := by omega
      exact ⟨ret_int (idxN_none hl.out).symm, hb⟩

set_option maxHeartbeats 400000 in
theorem conNeed (w : World) (A : Option Addr) (n c : Nat) (f : Nat → Nat → Value) (h : Sl w w.heap.size 4 A n f) (g : Nat) (lb : Array Value) (q : Nat → Bool)
    (eg : ∀ args w, (callFunc g args).run Tryz.prog w = .ok (.enter g args) w)
    (hq : ClosAt Tryz.prog w g lb n (fun i => .agg #[f i 0, f i 1, f i 2, f i 3]) q) :
    Calls Tryz.prog 139 #[.slice A n c, .func (.func g) #[] lb] w fun e w' => e = .returned (.bool (!(allN n fun i => !q i))) ∧ Below w.heap.size w w' := by
  have H := Lib.hid (idxNeed w A n c f h g lb q eg hq); clear hq h eg
  have hi := Lib.hid (idxN_nonneg n q)
  go_enter Tryz.func139, Tryz.ntmps139
  go_wp2_with fail
  refine H.out.mono ?_
  rintro e w' ⟨rfl, hb⟩
  go_wp2_with fail
  go_ret
  exact ⟨ret_bool (by simpa using hi.out), hb⟩

set_option maxHeartbeats 400000 in
theorem negNeed (w : World) (g : Nat) (lb : Array Value) (v0 v1 v2 v3 : Value) (r : Bool) (p : Nat) (eg : ∀ args w, (callFunc g args).run Tryz.prog w = .ok (.enter g args) w)
    (hp : w.cell? ⟨p, 0, none⟩ = some (.func (.func g) #[] lb))
    (hq : ∀ w', Below w.heap.size w w' → Calls Tryz.prog g (#[.agg #[v0, v1, v2, v3]] ++ lb) w' fun e w'' => e = .returned (.bool r) ∧ Below w'.heap.size w' w'') :
    Calls Tryz.prog 140 #[.agg #[v0, v1, v2, v3], .pointer (some ⟨p, 0, none⟩)] w fun e w' => e = .returned (.bool (!r)) ∧ Below w.heap.size w w' := by
  have HQ := Lib.hid hq; clear hq
  have hlt : p < w.heap.size := by
    rcases Nat.lt_or_ge p w.heap.size with h | h
    · exact h
    · simp [World.cell?, Array.getElem?_eq_none h] at hp
  go_enter Tryz.func140, Tryz.ntmps140
  go_wp2_with fail
  refine (HQ.out _ ((Below.refl _ _).alloc (Nat.le_refl _) _)).mono ?_
  rintro e w' ⟨rfl, hb⟩
  go_wp2_with fail
  go_ret
  exact ⟨ret_bool rfl, ((Below.refl _ _).alloc (Nat.le_refl _) _).trans (hb.mono (by simp))⟩

set_option maxHeartbeats 400000 in
theorem allNeed (w : World) (A : Option Addr) (n c : Nat) (f : Nat → Nat → Value) (h : Sl w w.heap.size 4 A n f) (g : Nat) (lb : Array Value) (q : Nat → Bool)
    (eg : ∀ args w, (callFunc g args).run Tryz.prog w = .ok (.enter g args) w)
    (hq : ClosAt Tryz.prog w g lb n (fun i => .agg #[f i 0, f i 1, f i 2, f i 3]) q) :
    Calls Tryz.prog 70 #[.slice A n c, .func (.func g) #[] lb] w fun e w' => e = .returned (.bool (allN n q)) ∧ Below w.heap.size w w' := by
  have hb0 : ∀ o, Below w.heap.size w (w.alloc o) := fun o => (Below.refl _ _).alloc (Nat.le_refl _) _
  have HC : Hid (∀ t, Calls Tryz.prog 139 #[.slice A n c, .func (.func 140) #[] #[.pointer (some ⟨w.heap.size, 0, none⟩)]] (w.alloc (.cells #[.func (.func g) #[] lb] t))
      fun e w' => e = .returned (.bool (!(allN n fun i => !!q i))) ∧ Below (w.alloc (.cells #[.func (.func g) #[] lb] t)).heap.size (w.alloc (.cells #[.func (.func g) #[] lb] t)) w') := Lib.hid fun t => by
    refine conNeed _ A n c f ((h.below (hb0 _)).mono (by simp)) 140 _ (fun i => !q i) (fun args w => by kernel_rfl) ?_
    intro w' hw' i hi
    refine negNeed w' g lb _ _ _ _ (q i) _ eg ?_ (fun w'' hw'' => hq w'' ((hb0 _).trans ((hw'.mono (by simp)).trans (hw''.mono (by have := hw'.size; simp at this; omega)))) i hi)
    rw [hw'.cell (p := ⟨w.heap.size, 0, none⟩) (by simp)]
    simp
  clear hq h eg
  go_enter Tryz.func70, Tryz.ntmps70
  go_wp2_with fail
  refine (HC.out _).mono ?_
  rintro e w' ⟨rfl, hb⟩
  go_wp2_with fail
  go_ret
  exact ⟨ret_bool (by simp), (hb0 _).trans (hb.mono (by simp))⟩

set_option maxRecDepth 100000 in
set_option maxHeartbeats 800000 in
theorem idxRed (w : World) (A : Option Addr) (n c : Nat) (f : Nat → Nat → Value) (h : Sl w w.heap.size 5 A n f) (g : Nat) (lb : Array Value) (q : Nat → Bool)
    (eg : ∀ args w, (callFunc g args).run Tryz.prog w = .ok (.enter g args) w)
    (hq : ClosAt Tryz.prog w g lb n (fun i => .agg #[f i 0, f i 1, f i 2, f i 3, f i 4]) q) :
    Calls Tryz.prog 168 #[.slice A n c, .func (.func g) #[] lb] w fun e w' => e = .returned (.int .i64 (idxN n q)) ∧ Below w.heap.size w w' := by
  have hn := h.1
  have HQ := Lib.hid hq; clear hq
  go_enter Tryz.func168, Tryz.ntmps168
  go_wp2_with fail
  go_loopw [8] (fun i wr => ∃ k : Nat, k ≤ n ∧ i = .int .i64 k ∧ Hid (∀ j, j < k → q j = false) ∧ Below w.heap.size w wr) (fun i _ => n - (intOf i).toNat)
  case atStart => exact ⟨0, Nat.zero_le _, rfl, Lib.hid fun j hj => absurd hj (by omega), Below.refl _ _⟩
  case round =>
    obtain ⟨k, hk, rfl, hl, hb⟩ := hrel
    by_cases hlt : k < n
    · obtain ⟨b, off, rfl, hB, c0, c1, c2, c3, c4⟩ := (h.below hb).at5 hlt
      have hb2 := hb.size
      go_wp2_with fail
      refine (HQ.out wr hb k hlt).mono ?_
      rintro e w' ⟨rfl, hb'⟩
      have hbb := hb.trans (hb'.mono hb2)
      cases hqk : q k with
      | true =>
        have HK := Lib.hid hqk; clear hqk
        go_wp2_with fail
        go_ret
        exact ⟨ret_int (idxN_some hlt hl.out HK.out).symm, hbb⟩
      | false =>
        have HK := Lib.hid hqk; clear hqk
        go_wp2_with fail
        go_roundw
        case rel => exact ⟨k + 1, by omega, by go_num, Lib.hid fun j hj => if e : j = k then by subst e; exact HK.out else hl.out j (by omega), hbb⟩
        case measure => simp [intOf]; omega
    · go_wp2_with fail
      go_ret
      obtain rfl : k = n := by omega
      exact ⟨ret_int (idxN_none hl.out).symm, hb⟩

set_option maxHeartbeats 400000 in
theorem conRed (w : World) (A : Option Addr) (n c : Nat) (f : Nat → Nat → Value) (h : Sl w w.heap.size 5 A n f) (g : Nat) (lb : Array Value) (q : Nat → Bool)
    (eg : ∀ args w, (callFunc g args).run Tryz.prog w = .ok (.enter g args) w)
    (hq : ClosAt Tryz.prog w g lb n (fun i => .agg #[f i 0, f i 1, f i 2, f i 3, f i 4]) q) :
    Calls Tryz.prog 141 #[.slice A n c, .func (.func g) #[] lb] w fun e w' => e = .returned (.bool (!(allN n fun i => !q i))) ∧ Below w.heap.size w w' := by
  have H := Lib.hid (idxRed w A n c f h g lb q eg hq); clear hq h eg
  have hi := Lib.hid (idxN_nonneg n q)
  go_enter Tryz.func141, Tryz.ntmps141
  go_wp2_with fail
  refine H.out.mono ?_
  rintro e w' ⟨rfl, hb⟩
  go_wp2_with fail
  go_ret
  exact ⟨ret_bool (by simpa using hi.out), hb⟩

set_option maxHeartbeats 400000 in
theorem negRed (w : World) (g : Nat) (lb : Array Value) (v0 v1 v2 v3 v4 : Value) (r : Bool) (p : Nat) (eg : ∀ args w, (callFunc g args).run Tryz.prog w = .ok (.enter g args) w)
    (hp : w.cell? ⟨p, 0, none⟩ = some (.func (.func g) #[] lb))
    (hq : ∀ w', Below w.heap.size w w' → Calls Tryz.prog g (#[.agg #[v0, v1, v2, v3, v4]] ++ lb) w' fun e w'' => e = .returned (.bool r) ∧ Below w'.heap.size w' w'') :
    Calls Tryz.prog 142 #[.agg #[v0, v1, v2, v3, v4], .pointer (some ⟨p, 0, none⟩)] w fun e w' => e = .returned (.bool (!r)) ∧ Below w.heap.size w w' := by
  have HQ := Lib.hid hq; clear hq
  have hlt : p < w.heap.size := by
    rcases Nat.lt_or_ge p w.heap.size with h | h
    · exact h
    · simp [World.cell?, Array.getElem?_eq_none h] at hp
  go_enter Tryz.func142, Tryz.ntmps142
  go_wp2_with fail
  refine (HQ.out _ ((Below.refl _ _).alloc (Nat.le_refl _) _)).mono ?_
  rintro e w' ⟨rfl, hb⟩
  go_wp2_with fail
  go_ret
  exact ⟨ret_bool rfl, ((Below.refl _ _).alloc (Nat.le_refl _) _).trans (hb.mono (by simp))⟩

set_option maxHeartbeats 400000 in
theorem allRed (w : World) (A : Option Addr) (n c : Nat) (f : Nat → Nat → Value) (h : Sl w w.heap.size 5 A n f) (g : Nat) (lb : Array Value) (q : Nat → Bool)
    (eg : ∀ args w, (callFunc g args).run Tryz.prog w = .ok (.enter g args) w)
    (hq : ClosAt Tryz.prog w g lb n (fun i => .agg #[f i 0, f i 1, f i 2, f i 3, f i 4]) q) :
    Calls Tryz.prog 73 #[.slice A n c, .func (.func g) #[] lb] w fun e w' => e = .returned (.bool (allN n q)) ∧ Below w.heap.size w w' := by
  have hb0 : ∀ o, Below w.heap.size w (w.alloc o) := fun o => (Below.refl _ _).alloc (Nat.le_refl _) _
  have HC : Hid (∀ t, Calls Tryz.prog 141 #[.slice A n c, .func (.func 142) #[] #[.pointer (some ⟨w.heap.size, 0, none⟩)]] (w.alloc (.cells #[.func (.func g) #[] lb] t))
      fun e w' => e = .returned (.bool (!(allN n fun i => !!q i))) ∧ Below (w.alloc (.cells #[.func (.func g) #[] lb] t)).heap.size (w.alloc (.cells #[.func (.func g) #[] lb] t)) w') := Lib.hid fun t => by
    refine conRed _ A n c f ((h.below (hb0 _)).mono (by simp)) 142 _ (fun i => !q i) (fun args w => by kernel_rfl) ?_
    intro w' hw' i hi
    refine negRed w' g lb _ _ _ _ _ (q i) _ eg ?_ (fun w'' hw'' => hq w'' ((hb0 _).trans ((hw'.mono (by simp)).trans (hw''.mono (by have := hw'.size; simp at this; omega)))) i hi)
    rw [hw'.cell (p := ⟨w.heap.size, 0, none⟩) (by simp)]
    simp
  clear hq h eg
  go_enter Tryz.func73, Tryz.ntmps73
  go_wp2_with fail
  refine (HC.out _).mono ?_
  rintro e w' ⟨rfl, hb⟩
  go_wp2_with fail
  go_ret
  exact ⟨ret_bool (by simp), (hb0 _).trans (hb.mono (by simp))⟩

set_option maxRecDepth 100000 in
set_option maxHeartbeats 800000 in
theorem idxOrd (w : World) (A : Option Addr) (n c : Nat) (f : Nat → Nat → Value) (h : Sl w w.heap.size 2 A n f) (g : Nat) (lb : Array Value) (q : Nat → Bool)
    (eg : ∀ args w, (callFunc g args).run Tryz.prog w = .ok (.enter g args) w)
    (hq : ClosAt Tryz.prog w g lb n (fun i => .agg #[f i 0, f i 1]) q) :
    Calls Tryz.prog 176 #[.slice A n c, .func (.func g) #[] lb] w fun e w' => e = .returned (.int .i64 (idxN n q)) ∧ Below w.heap.size w w' := by
  have hn := h.1
  have HQ := Lib.hid hq; clear hq
  go_enter Tryz.func176, Tryz.ntmps176
  go_wp2_with fail
  go_loopw [8] (fun i wr => ∃ k : Nat, k ≤ n ∧ i = .int .i64 k ∧ Hid (∀ j, j < k → q j = false) ∧ Below w.heap.size w wr) (fun i _ => n - (intOf i).toNat)
  case atStart => exact ⟨0, Nat.zero_le _, rfl, Lib.hid fun j hj => absurd hj (by omega), Below.refl _ _⟩
  case round =>
    obtain ⟨k, hk, rfl, hl, hb⟩ := hrel
    by_cases hlt : k < n
    · obtain ⟨b, off, rfl, hB, c0, c1⟩ := (h.below hb).at2 hlt
      have hb2 := hb.size
      go_wp2_with fail
      refine (HQ.out wr hb k hlt).mono ?_
      rintro e w' ⟨rfl, hb'⟩
      have hbb := hb.trans (hb'.mono hb2)
      cases hqk : q k with
      | true =>
        have HK := Lib.hid hqk; clear hqk
        go_wp2_with fail
        go_ret
        exact ⟨ret_int (idxN_some hlt hl.out HK.out).symm, hbb⟩
      | false =>
        have HK := Lib.hid hqk; clear hqk
        go_wp2_with fail
        go_roundw
        case rel => exact ⟨k + 1, by omega, by go_num, Lib.hid fun j hj => if e : j = k then by subst e; exact HK.out else hl.out j (by omega), hbb⟩
        case measure => simp [intOf]; omega
    · go_wp2_with fail
      go_ret
      obtain rfl : k = n := by omega
      exact ⟨ret_int (idxN_none hl.out).symm, hb⟩

set_option maxHeartbeats 400000 in
theorem conOrd (w : World) (A : Option Addr) (n c : Nat) (f : Nat → Nat → Value) (h : Sl w w.heap.size 2 A n f) (g : Nat) (lb : Array Value) (q : Nat → Bool)
    (eg : ∀ args w, (callFunc g args).run Tryz.prog w = .ok (.enter g args) w)
    (hq : ClosAt Tryz.prog w g lb n (fun i => .agg #[f i 0, f i 1]) q) :
    Calls Tryz.prog 165 #[.slice A n c, .func (.func g) #[] lb] w fun e w' => e = .returned (.bool (!(allN n fun i => !q i))) ∧ Below w.heap.size w w' := by
  have H := Lib.hid (idxOrd w A n c f h g lb q eg hq); clear hq h eg
  have hi := Lib.hid (idxN_nonneg n q)
  go_enter Tryz.func165, Tryz.ntmps165
  go_wp2_with fail
  refine H.out.mono ?_
  rintro e w' ⟨rfl, hb⟩
  go_wp2_with fail
  go_ret
  exact ⟨ret_bool (by simpa using hi.out), hb⟩

set_option maxHeartbeats 400000 in
theorem negOrd (w : World) (g : Nat) (lb : Array Value) (v0 v1 : Value) (r : Bool) (p : Nat) (eg : ∀ args w, (callFunc g args).run Tryz.prog w = .ok (.enter g args) w)
    (hp : w.cell? ⟨p, 0, none⟩ = some (.func (.func g) #[] lb))
    (hq : ∀ w', Below w.heap.size w w' → Calls Tryz.prog g (#[.agg #[v0, v1]] ++ lb) w' fun e w'' => e = .returned (.bool r) ∧ Below w'.heap.size w' w'') :
    Calls Tryz.prog 166 #[.agg #[v0, v1], .pointer (some ⟨p, 0, none⟩)] w fun e w' => e = .returned (.bool (!r)) ∧ Below w.heap.size w w' := by
  have HQ := Lib.hid hq; clear hq
  have hlt : p < w.heap.size := by
    rcases Nat.lt_or_ge p w.heap.size with h | h
    · exact h
    · simp [World.cell?, Array.getElem?_eq_none h] at hp
  go_enter Tryz.func166, Tryz.ntmps166
  go_wp2_with fail
  refine (HQ.out _ ((Below.refl _ _).alloc (Nat.le_refl _) _)).mono ?_
  rintro e w' ⟨rfl, hb⟩
  go_wp2_with fail
  go_ret
  exact ⟨ret_bool rfl, ((Below.refl _ _).alloc (Nat.le_refl _) _).trans (hb.mono (by simp))⟩

set_option maxHeartbeats 400000 in
theorem allOrd (w : World) (A : Option Addr) (n c : Nat) (f : Nat → Nat → Value) (h : Sl w w.heap.size 2 A n f) (g : Nat) (lb : Array Value) (q : Nat → Bool)
    (eg : ∀ args w, (callFunc g args).run Tryz.prog w = .ok (.enter g args) w)
    (hq : ClosAt Tryz.prog w g lb n (fun i => .agg #[f i 0, f i 1]) q) :
    Calls Tryz.prog 137 #[.slice A n c, .func (.func g) #[] lb] w fun e w' => e = .returned (.bool (allN n q)) ∧ Below w.heap.size w w' := by
  have hb0 : ∀ o, Below w.heap.size w (w.alloc o) := fun o => (Below.refl _ _).alloc (Nat.le_refl _) _
  have HC : Hid (∀ t, Calls Tryz.prog 165 #[.slice A n c, .func (.func 166) #[] #[.pointer (some ⟨w.heap.size, 0, none⟩)]] (w.alloc (.cells #[.func (.func g) #[] lb] t))
      fun e w' => e = .returned (.bool (!(allN n fun i => !!q i))) ∧ Below (w.alloc (.cells #[.func (.func g) #[] lb] t)).heap.size (w.alloc (.cells #[.func (.func g) #[] lb] t)) w') := Lib.hid fun t => by
    refine conOrd _ A n c f ((h.below (hb0 _)).mono (by simp)) 166 _ (fun i => !q i) (fun args w => by kernel_rfl) ?_
    intro w' hw' i hi
    refine negOrd w' g lb _ _ (q i) _ eg ?_ (fun w'' hw'' => hq w'' ((hb0 _).trans ((hw'.mono (by simp)).trans (hw''.mono (by have := hw'.size; simp at this; omega)))) i hi)
    rw [hw'.cell (p := ⟨w.heap.size, 0, none⟩) (by simp)]
    simp
  clear hq h eg
  go_enter Tryz.func137, Tryz.ntmps137
  go_wp2_with fail
  refine (HC.out _).mono ?_
  rintro e w' ⟨rfl, hb⟩
  go_wp2_with fail
  go_ret
  exact ⟨ret_bool (by simp), (hb0 _).trans (hb.mono (by simp))⟩

set_option maxRecDepth 100000 in
set_option maxHeartbeats 800000 in
theorem idxDis (w : World) (A : Option Addr) (n c : Nat) (f : Nat → Nat → Value) (h : Sl w w.heap.size 4 A n f) (g : Nat) (lb : Array Value) (q : Nat → Bool)
    (eg : ∀ args w, (callFunc g args).run Tryz.prog w = .ok (.enter g args) w)
    (hq : ClosAt Tryz.prog w g lb n (fun i => .agg #[f i 0, f i 1, f i 2, f i 3]) q) :
    Calls Tryz.prog 177 #[.slice A n c, .func (.func g) #[] lb] w fun e w' => e = .returned (.int .i64 (idxN n q)) ∧ Below w.heap.size w w' := by
  have hn := h.1
  have HQ := Lib.hid hq; clear hq
  go_enter Tryz.func177, Tryz.ntmps177
  go_wp2_with fail
  go_loopw [8] (fun i wr => ∃ k : Nat, k ≤ n ∧ i = .int .i64 k ∧ Hid (∀ j, j < k → q j = false) ∧ Below w.heap.size w wr) (fun i _ => n - (intOf i).toNat)
  case atStart => exact ⟨0, Nat.zero_le _, rfl, Lib.hid fun j hj => absurd hj (by omega), Below.refl _ _⟩
  case round =>
    obtain ⟨k, hk, rfl, hl, hb⟩ := hrel
    by_cases hlt : k < n
    · obtain ⟨b, off, rfl, hB, c0, c1, c2, c3⟩ := (h.below hb).at4 hlt
      have hb2 := hb.size
      go_wp2_with fail
      refine (HQ.out wr hb k hlt).mono ?_
      rintro e w' ⟨rfl, hb'⟩
      have hbb := hb.trans (hb'.mono hb2)
      cases hqk : q k with
      | true =>
        have HK := Lib.hid hqk; clear hqk
        go_wp2_with fail
        go_ret
        exact ⟨ret_int (idxN_some hlt hl.out HK.out).symm, hbb⟩
      | false =>
        have HK := Lib.hid hqk; clear hqk
        go_wp2_with fail
        go_roundw
        case rel => exact ⟨k + 1, by omega, by go_num, Lib.hid fun j hj => if e : j = k then by subst e; exact HK.out else hl.out j (by omega), hbb⟩
        case measure => simp [intOf]; omega
    · go_wp2_with fail
      go_ret
      obtain rfl : k = n := by omega
      exact ⟨ret_int (idxN_none hl.out).symm, hb⟩

set_option maxHeartbeats 400000 in
theorem conDis (w : World) (A : Option Addr) (n c : Nat) (f : Nat → Nat → Value) (h : Sl w w.heap.size 4 A n f) (g : Nat) (lb : Array Value) (q : Nat → Bool)
    (eg : ∀ args w, (callFunc g args).run Tryz.prog w = .ok (.enter g args) w)
    (hq : ClosAt Tryz.prog w g lb n (fun i => .agg #[f i 0, f i 1, f i 2, f i 3]) q) :
    Calls Tryz.prog 170 #[.slice A n c, .func (.func g) #[] lb] w fun e w' => e = .returned (.bool (!(allN n fun i => !q i))) ∧ Below w.heap.size w w' := by
  have H := Lib.hid (idxDis w A n c f h g lb q eg hq); clear hq h eg
  have hi := Lib.hid (idxN_nonneg n q)
  go_enter Tryz.func170, Tryz.ntmps170
  go_wp2_with fail
  refine H.out.mono ?_
  rintro e w' ⟨rfl, hb⟩
  go_wp2_with fail
  go_ret
  exact ⟨ret_bool (by simpa using hi.out), hb⟩

set_option maxHeartbeats 400000 in
theorem negDis (w : World) (g : Nat) (lb : Array Value) (v0 v1 v2 v3 : Value) (r : Bool) (p : Nat) (eg : ∀ args w, (callFunc g args).run Tryz.prog w = .ok (.enter g args) w)
    (hp : w.cell? ⟨p, 0, none⟩ = some (.func (.func g) #[] lb))
    (hq : ∀ w', Below w.heap.size w w' → Calls Tryz.prog g (#[.agg #[v0, v1, v2, v3]] ++ lb) w' fun e w'' => e = .returned (.bool r) ∧ Below w'.heap.size w' w'') :
    Calls Tryz.prog 171 #[.agg #[v0, v1, v2, v3], .pointer (some ⟨p, 0, none⟩)] w fun e w' => e = .returned (.bool (!r)) ∧ Below w.heap.size w w' := by
  have HQ := Lib.hid hq; clear hq
  have hlt : p < w.heap.size := by
    rcases Nat.lt_or_ge p w.heap.size with h | h
    · exact h
    · simp [World.cell?, Array.getElem?_eq_none h] at hp
  go_enter Tryz.func171, Tryz.ntmps171
  go_wp2_with fail
  refine (HQ.out _ ((Below.refl _ _).alloc (Nat.le_refl _) _)).mono ?_
  rintro e w' ⟨rfl, hb⟩
  go_wp2_with fail
  go_ret
  exact ⟨ret_bool rfl, ((Below.refl _ _).alloc (Nat.le_refl _) _).trans (hb.mono (by simp))⟩

set_option maxHeartbeats 400000 in
theorem allDis (w : World) (A : Option Addr) (n c : Nat) (f : Nat → Nat → Value) (h : Sl w w.heap.size 4 A n f) (g : Nat) (lb : Array Value) (q : Nat → Bool)
    (eg : ∀ args w, (callFunc g args).run Tryz.prog w = .ok (.enter g args) w)
    (hq : ClosAt Tryz.prog w g lb n (fun i => .agg #[f i 0, f i 1, f i 2, f i 3]) q) :
    Calls Tryz.prog 148 #[.slice A n c, .func (.func g) #[] lb] w fun e w' => e = .returned (.bool (allN n q)) ∧ Below w.heap.size w w' := by
  have hb0 : ∀ o, Below w.heap.size w (w.alloc o) := fun o => (Below.refl _ _).alloc (Nat.le_refl _) _
  have HC : Hid (∀ t, Calls Tryz.prog 170 #[.slice A n c, .func (.func 171) #[] #[.pointer (some ⟨w.heap.size, 0, none⟩)]] (w.alloc (.cells #[.func (.func g) #[] lb] t))
      fun e w' => e = .returned (.bool (!(allN n fun i => !!q i))) ∧ Below (w.alloc (.cells #[.func (.func g) #[] lb] t)).heap.size (w.alloc (.cells #[.func (.func g) #[] lb] t)) w') := Lib.hid fun t => by
    refine conDis _ A n c f ((h.below (hb0 _)).mono (by simp)) 171 _ (fun i => !q i) (fun args w => by kernel_rfl) ?_
    intro w' hw' i hi
    refine negDis w' g lb _ _ _ _ (q i) _ eg ?_ (fun w'' hw'' => hq w'' ((hb0 _).trans ((hw'.mono (by simp)).trans (hw''.mono (by have := hw'.size; simp at this; omega)))) i hi)
    rw [hw'.cell (p := ⟨w.heap.size, 0, none⟩) (by simp)]
    simp
  clear hq h eg
  go_enter Tryz.func148, Tryz.ntmps148
  go_wp2_with fail
  refine (HC.out _).mono ?_
  rintro e w' ⟨rfl, hb⟩
  go_wp2_with fail
  go_ret
  exact ⟨ret_bool (by simp), (hb0 _).trans (hb.mono (by simp))⟩
end Go.Proofs.YtogobjmmgjfjjaaGreat
/- What is proved: a map from strings to bools that a call makes, as a list of its keys: looking up, storing a new key. Conditions: the map's block holds just these keys, each with true. -/
namespace Go.Proofs.YtogobjmmgjfjjaaGreat
open Go.RowKit

theorem beq_bytes (s x : ByteArray) : (s == x) = decide (s = x) := by
  show ByteArray.beq s x = _
  unfold ByteArray.beq
  by_cases h : s = x
  · subst h; simp
  · have : s.data ≠ x.data := fun e => h (ByteArray.ext e)
    simp [h, this]
theorem run_getObj_map1 {P : Program} {w : World} {r : Nat} {es : Array MapEntry} {clock : Nat} (hb : w.heap[r]? = some (.map es clock)) : (getObj r).run P w = .ok (.map es clock) w := by
  simp [getObj, Sem.run, hb]
theorem run_setObj_map1 {P : Program} {w : World} {r : Nat} {es es' : Array MapEntry} {clock clock' : Nat} (hb : w.heap[r]? = some (.map es clock)) : (setObj r (.map es' clock')).run P w = .ok () { w with heap := w.heap.setIfInBounds r (.map es' clock') } := by
  simp [setObj, Sem.run, hb]

/-- Block b is a map whose keys are l, each with true. -/
def SetS (w : World) (b : Nat) (l : List ByteArray) : Prop :=
  ∃ arr clock, w.heap[b]? = some (.map arr clock) ∧ arr.toList.map (fun e => (e.key, e.val)) = l.map fun s => (Value.string s, Value.bool true)

theorem SetS.made (w : World) : SetS (w.alloc (.map #[] 0)) w.heap.size [] := ⟨#[], 0, by rw [heap_alloc_new], rfl⟩
theorem SetS.keep {w w' : World} {b : Nat} {l : List ByteArray} (h : SetS w b l) (hk : w'.heap[b]? = w.heap[b]?) : SetS w' b l := by
  obtain ⟨arr, clock, h1, h2⟩ := h
  exact ⟨arr, clock, hk.trans h1, h2⟩
theorem SetS.lt {w : World} {b : Nat} {l : List ByteArray} (h : SetS w b l) : b < w.heap.size := by
  obtain ⟨arr, clock, h1, h2⟩ := h
  rcases Nat.lt_or_ge b w.heap.size with h | h
  · exact h
  · simp [Array.getElem?_eq_none h] at h1
theorem SetS.alloc {w : World} {b : Nat} {l : List ByteArray} (h : SetS w b l) (o : Obj) : SetS (w.alloc o) b l := h.keep (Below.heap_alloc w o b h.lt)

theorem findNow_keys (s : ByteArray) : ∀ (es : List MapEntry) (l : List ByteArray) (i : Nat), es.map (fun e => (e.key, e.val)) = l.map (fun s => (Value.string s, Value.bool true)) →
    (s ∉ l → Instr.findNow .string (.string s) es i = some none) ∧ (s ∈ l → ∃ j, Instr.findNow .string (.string s) es i = some (some (j, .bool true)))
  | [], [], i, _ => ⟨fun _ => rfl, fun h => by cases h⟩
  | [], _ :: _, _, h => by simp at h
  | _ :: _, [], _, h => by simp at h
  | e :: es, x :: l, i, h => by
    simp only [List.map_cons, List.cons.injEq, Prod.mk.injEq] at h
    obtain ⟨⟨hk, hv⟩, ht⟩ := h
    obtain ⟨h1, h2⟩ := findNow_keys s es l (i + 1) ht
    unfold Instr.findNow
    by_cases hs : s = x
    · subst hs
      simp [hk, Instr.sameNow, hv, beq_bytes]
    · have hb : (s == x) = false := by rw [beq_bytes]; simpa using hs
      simp only [hk, Instr.sameNow, hb]
      refine ⟨fun hm => h1 (fun hc => hm (List.mem_cons_of_mem _ hc)), fun hm => h2 ?_⟩
      rcases List.mem_cons.1 hm with h | h
      · exact absurd h hs
      · exact h

section
variable {P : Program} {t k e : TypeId} (ht : P.underlying t = some (.map k e)) (hk : P.underlying k = some .string)

theorem run_checkKey_string (hk : P.underlying k = some .string) (em : Bool) (s : ByteArray) (w : World) : (Instr.checkKey em 10000 k (.string s)).run P w = .ok () w := by
  rw [show (10000 : Nat) = 9999 + 1 from rfl, Instr.checkKey]
  simp [run_underlying hk]

theorem SetS.lookup {w : World} {b : Nat} {l : List ByteArray} (h : SetS w b l) (ht : P.underlying t = some (.map k e)) (hk : P.underlying k = some .string)
    (hz : (zeroValue e).run P w = .ok (.bool false) w) (s : ByteArray) : (Instr.lookup t (.map (some b)) (.string s) false).run P w = .ok (.bool (l.any fun x => decide (x = s))) w := by
  obtain ⟨arr, clock, h1, h2⟩ := h
  obtain ⟨f1, f2⟩ := findNow_keys s arr.toList l 0 h2
  have g := run_getObj_map1 (P := P) h1
  by_cases hs : s ∈ l
  · obtain ⟨j, hj⟩ := f2 hs
    have : (l.any fun x => decide (x = s)) = true := by simpa using hs
    rw [this]
    simp [Instr.lookup, run_underlying ht, run_checkKey_string hk, Instr.findKey, run_underlying hk, hj, g]
  · have hj := f1 hs
    have : (l.any fun x => decide (x = s)) = false := by rw [List.any_eq_false]; intro x hx; simp; rintro rfl; exact hs hx
    rw [this]
    simp [Instr.lookup, run_underlying ht, run_checkKey_string hk, Instr.findKey, run_underlying hk, hj, g, hz]

theorem SetS.update {w : World} {b : Nat} {l : List ByteArray} (h : SetS w b l) (ht : P.underlying t = some (.map k e)) (hk : P.underlying k = some .string)
    (s : ByteArray) (hs : s ∉ l) : ∃ w', (Instr.mapUpdate t (.map (some b)) (.string s) (.bool true)).run P w = .ok () w' ∧ SetS w' b (l ++ [s]) ∧ w'.heap.size = w.heap.size ∧ ∀ B, B ≤ b → Below B w w' := by
  have hlt := h.lt
  obtain ⟨arr, clock, h1, h2⟩ := h
  obtain ⟨f1, _⟩ := findNow_keys s arr.toList l 0 h2
  have hj := f1 hs
  refine ⟨{ w with heap := w.heap.setIfInBounds b (.map (arr.push { key := .string s, val := .bool true, born := clock }) (clock + 1)) }, ?_, ?_, ?_, ?_⟩
  · simp [Instr.mapUpdate, run_underlying ht, run_checkKey_string hk, Instr.findKey, run_underlying hk, hj, run_getObj_map1 h1, run_setObj_map1 h1]
  · exact ⟨arr.push { key := .string s, val := .bool true, born := clock }, clock + 1, by simp [hlt], by simp [h2]⟩
  · simp
  · intro B hB
    refine ⟨rfl, rfl, rfl, by simp, fun i hi => ?_⟩
    simp only [Array.getElem?_setIfInBounds]
    rw [if_neg (by omega)]
end
end Go.Proofs.YtogobjmmgjfjjaaGreat
/- What is proved: nothing of Go: the plain data of a plant, and how it lies in memory. -/
namespace Go.Proofs.YtogobjmmgjfjjaaGreat
open Go.RowKit

structure TankD where
  name : ByteArray
  room : Int
  least : Int
  limit : Int
structure ValveD where
  name : ByteArray
  travel : Int
  opn : Bool
structure LineD where
  src : Int
  dst : Int
  flow : Int
  gas : Bool
  valves : List Int
structure LitD where
  valve : Int
  opn : Bool
structure PlantD where
  tanks : List TankD
  valves : List ValveD
  lines : List LineD
  never : List (List LitD)
def tank0 : TankD := ⟨ByteArray.empty, 0, 0, 0⟩
def valve0 : ValveD := ⟨ByteArray.empty, 0, false⟩
def line0 : LineD := ⟨0, 0, 0, false, []⟩
def lit0 : LitD := ⟨0, false⟩
def PlantD.tank (p : PlantD) (i : Nat) : TankD := p.tanks.getD i tank0
def PlantD.valve (p : PlantD) (i : Nat) : ValveD := p.valves.getD i valve0
def PlantD.line (p : PlantD) (i : Nat) : LineD := p.lines.getD i line0
def PlantD.nev (p : PlantD) (i : Nat) : List LitD := p.never.getD i []

def tankC (t : TankD) : Nat → Value
  | 0 => .string t.name
  | 1 => .int .i64 t.room
  | 2 => .int .i64 t.least
  | _ => .int .i64 t.limit
def valveC (t : ValveD) : Nat → Value
  | 0 => .string t.name
  | 1 => .int .i64 t.travel
  | _ => .bool t.opn
def litC (l : LitD) : Nat → Value
  | 0 => .int .i64 l.valve
  | _ => .bool l.opn
def lineC (A : Option Addr) (c : Nat) (l : LineD) : Nat → Value
  | 0 => .int .i64 l.src
  | 1 => .int .i64 l.dst
  | 2 => .int .i64 l.flow
  | 3 => .bool l.gas
  | _ => .slice A l.valves.length c

/-- Where the parts of a plant lie. -/
structure PV where
  tA : Option Addr
  tc : Nat
  vA : Option Addr
  vc : Nat
  lA : Option Addr
  lc : Nat
  nA : Option Addr
  nc : Nat
  iA : Nat → Option Addr
  ic : Nat → Nat
  jA : Nat → Option Addr
  jc : Nat → Nat

/-- The literals l lie at A. -/
def LitsAt (w : World) (B : Nat) (A : Option Addr) (l : List LitD) : Prop := Sl w B 2 A l.length fun i => litC (l.getD i lit0)
def IntsAt (w : World) (B : Nat) (A : Option Addr) (l : List Int) : Prop := Sl w B 1 A l.length fun i _ => .int .i64 (l.getD i 0)

structure PlantAt (w : World) (B : Nat) (x : PV) (p : PlantD) : Prop where
  tanks : Sl w B 4 x.tA p.tanks.length fun i => tankC (p.tank i)
  valves : Sl w B 3 x.vA p.valves.length fun i => valveC (p.valve i)
  lines : Sl w B 5 x.lA p.lines.length fun i => lineC (x.iA i) (x.ic i) (p.line i)
  lv : ∀ i, i < p.lines.length → IntsAt w B (x.iA i) (p.line i).valves
  never : Sl w B 1 x.nA p.never.length fun i _ => .slice (x.jA i) (p.nev i).length (x.jc i)
  nv : ∀ i, i < p.never.length → LitsAt w B (x.jA i) (p.nev i)
  room : p.tanks.length * 16 ≤ 140737488355328 ∧ p.valves.length * 16 ≤ 140737488355328

theorem PlantAt.below {w w' : World} {B : Nat} {x : PV} {p : PlantD} (h : PlantAt w B x p) (hb : Below B w w') : PlantAt w' B x p :=
  ⟨h.tanks.below hb, h.valves.below hb, h.lines.below hb, fun i hi => (h.lv i hi).below hb, h.never.below hb, fun i hi => (h.nv i hi).below hb, h.room⟩
theorem PlantAt.mono {w : World} {B B' : Nat} {x : PV} {p : PlantD} (h : PlantAt w B x p) (hb : B ≤ B') : PlantAt w B' x p :=
  ⟨h.tanks.mono hb, h.valves.mono hb, h.lines.mono hb, fun i hi => (h.lv i hi).mono hb, h.never.mono hb, fun i hi => (h.nv i hi).mono hb, h.room⟩

/-! What the program computes of a plant. -/
def apartB (n : Nat) (s : Nat → ByteArray) (most : Int) : Bool :=
  (allN n fun i => inB (s i).size 1 32 && allN i fun j => !decide (s j = s i)) && inB n 1 most
def tankOk (t : TankD) : Bool := inB t.room 1 1073741824 && inB t.least 1 1073741824 && inB t.limit 0 1073741824
def valveOk (v : ValveD) : Bool := inB v.travel 1 8
def lineOk (nt nv : Nat) (l : LineD) : Bool :=
  inB l.src (-1) (nt - 1) && inB l.dst (-1) (nt - 1) && !decide (l.src = l.dst) && inB l.flow 1 1073741824 && inB l.valves.length 1 4 && allN l.valves.length fun i => inB (l.valves.getD i 0) 0 (nv - 1)
def litsOk (nv : Nat) (l : List LitD) (most : Int) : Bool := inB l.length 1 most && allN l.length fun i => inB (l.getD i lit0).valve 0 (nv - 1)
def tankedB (p : PlantD) : Bool := apartB p.tanks.length (fun i => (p.tank i).name) 16 && allN p.tanks.length fun i => tankOk (p.tank i)
def valvedB (p : PlantD) : Bool := apartB p.valves.length (fun i => (p.valve i).name) 12 && allN p.valves.length fun i => valveOk (p.valve i)
def linedB (p : PlantD) : Bool := decide ((p.lines.length : Int) ≤ 32) && allN p.lines.length fun i => lineOk p.tanks.length p.valves.length (p.line i)

/-- Where a valve is, and whether it is wanted open. -/
structure SpotD where
  place : Int
  opn : Bool
def SpotD.zero : SpotD := ⟨0, false⟩
/-- All twelve. -/
abbrev Spots := Nat → SpotD
def firstB (p : PlantD) : Spots := fun i => if i < p.valves.length ∧ (p.valve i).opn then ⟨(p.valve i).travel, true⟩ else SpotD.zero
def holdsB (p : PlantD) (s : Spots) (l : LitD) : Bool :=
  if l.opn then decide (0 < (s l.valve.toNat).place) else decide ((s l.valve.toNat).place < (p.valve l.valve.toNat).travel)
def mayB (p : PlantD) (s : Spots) (l : LitD) : Bool := ((s l.valve.toNat).opn == l.opn) || holdsB p s l
def safeB (p : PlantD) (s : Spots) : Bool := allN p.never.length fun i => !(allN (p.nev i).length fun k => mayB p s ((p.nev i).getD k lit0))
def plantB (p : PlantD) : Bool :=
  tankedB p && valvedB p && linedB p && decide ((p.never.length : Int) ≤ 32) && (allN p.never.length fun i => litsOk p.valves.length (p.nev i) 4) && safeB p (firstB p)
end Go.Proofs.YtogobjmmgjfjjaaGreat
/- What is proved: contracts of engine.apart, engine.tanked, engine.valved. Conditions: the slices lie in memory as the plain data say. -/
namespace Go.Proofs.YtogobjmmgjfjjaaGreat
open Go.RowKit

theorem zero_bool (w : World) : (zeroValue 4).run Tryz.prog w = .ok (.bool false) w := by kernel_rfl

set_option maxRecDepth 100000 in
set_option maxHeartbeats 1000000 in
theorem apart_any (w : World) (A : Option Addr) (n c : Nat) (s : Nat → ByteArray) (most : Int) (h : Sl w w.heap.size 1 A n fun i _ => .string (s i)) :
    Calls Tryz.prog 123 #[.slice A n c, .int .i64 most] w fun e w' => e = .returned (.bool (apartB n s most)) ∧ Below w.heap.size w w' := by
  have hn := h.1
  have hmm := @run_makeMap Tryz.prog
  go_enter Tryz.func123, Tryz.ntmps123
  go_wp2_with fail
  go_loopw [11] (fun i wr => ∃ k : Nat, k ≤ n ∧ i = .int .i64 k ∧ Hid (∀ i, i < k → inB (s i).size 1 32 = true ∧ ∀ j, j < i → s j ≠ s i) ∧ Below w.heap.size w wr ∧ SetS wr w.heap.size ((List.range k).map s)) (fun i _ => n - (intOf i).toNat)
  case atStart => exact ⟨0, Nat.zero_le _, rfl, Lib.hid fun j hj => absurd hj (by omega), (Below.refl _ _).alloc (Nat.le_refl _) _, SetS.made w⟩
  case round =>
    obtain ⟨k, hk, rfl, hl, hb, hs⟩ := hrel
    by_cases hlt : k < n
    · obtain ⟨b, off, rfl, hB, c0⟩ := (h.below hb).at1 hlt
      have hlook := hs.lookup (P := Tryz.prog) Tryz.underlying225 Tryz.underlying9 (zero_bool wr) (s k)
      by_cases h1 : inB (s k).size 1 32 = true
      · by_cases h2 : s k ∈ (List.range k).map s
        · have ha : (((List.range k).map s).any fun x => decide (x = s k)) = true := by rw [List.any_eq_true]; exact ⟨_, h2, by simp⟩
          rw [ha] at hlook
          have Hf : Hid (apartB n s most = false) := Lib.hid (by
            have : (allN n fun i => inB (s i).size 1 32 && allN i fun j => !decide (s j = s i)) = false := by
              unfold allN; rw [List.all_eq_false]
              simp only [List.mem_map, List.mem_range] at h2
              obtain ⟨j, hj, he⟩ := h2
              refine ⟨k, by simpa using hlt, ?_⟩
              simp only [Bool.and_eq_true, h1, true_and, List.all_eq_true, List.mem_range]
              intro hc; have := hc j hj; simp [he] at this
            unfold apartB; rw [this]; rfl)
          clear ha h2 hl hs
          go_wp2_with (go_at_call 69; refine (within_any _ _ _ _).mono ?_; rintro e w' ⟨rfl, rfl⟩)
          go_ret
          exact ⟨ret_bool Hf.out.symm, hb⟩
        · have ha : (((List.range k).map s).any fun x => decide (x = s k)) = false := by rw [List.any_eq_false]; intro x hx; simp; rintro rfl; exact h2 hx
          rw [ha] at hlook
          obtain ⟨w2, hupd, hs2, hz2, hb2⟩ := hs.update (P := Tryz.prog) Tryz.underlying225 Tryz.underlying9 (s k) h2
          have hb3 := hb2 w.heap.size (Nat.le_refl _)
          clear ha hs hb2
          have Hn := Lib.hid h2; clear h2
          go_wp2_with (go_at_call 69; refine (within_any _ _ _ _).mono ?_; rintro e w' ⟨rfl, rfl⟩)
          go_roundw
          case rel =>
            refine ⟨k + 1, by omega, by go_num, Lib.hid fun i hi => ?_, hb.trans hb3, ?_⟩
            · by_cases e : i = k
              · subst e
                refine ⟨h1, fun j hj he => Hn.out ?_⟩
                rw [← he]; exact List.mem_map.2 ⟨j, by simpa using hj, rfl⟩
              · exact hl.out i (by omega)
            · rw [List.range_succ, List.map_append]; exact hs2
          case measure => simp [intOf]; omega
      · have h1' : inB (s k).size 1 32 = false := by simpa using h1
        have Hf : Hid (apartB n s most = false) := Lib.hid (by
          have : (allN n fun i => inB (s i).size 1 32 && allN i fun j => !decide (s j = s i)) = false := by
            unfold allN; rw [List.all_eq_false]
            exact ⟨k, by simpa using hlt, by simp [h1']⟩
          unfold apartB; rw [this]; rfl)
        clear h1 hl hs
        go_wp2_with (go_at_call 69; refine (within_any _ _ _ _).mono ?_; rintro e w' ⟨rfl, rfl⟩)
        go_ret
        exact ⟨ret_bool Hf.out.symm, hb⟩
    · obtain rfl : k = n := by omega
      have Hf : Hid (apartB k s most = inB k 1 most) := Lib.hid (by
        have : (allN k fun i => inB (s i).size 1 32 && allN i fun j => !decide (s j = s i)) = true := by
          unfold allN; rw [List.all_eq_true]
          intro i hi
          have := hl.out i (by simpa using hi)
          simp only [Bool.and_eq_true, this.1, true_and, List.all_eq_true, List.mem_range]
          intro j hj; simpa using this.2 j hj
        unfold apartB; rw [this]; rfl)
      clear hl
      go_wp2_with (go_at_call 69; refine (within_any _ _ _ _).mono ?_; rintro e w' ⟨rfl, rfl⟩)
      go_ret
      exact ⟨ret_bool Hf.out.symm, hb⟩
end Go.Proofs.YtogobjmmgjfjjaaGreat
/- What is proved: contracts of engine.tanked, engine.valved. Conditions: the plant lies in memory as the plain data say. -/
namespace Go.Proofs.YtogobjmmgjfjjaaGreat
open Go.RowKit

def pval (x : PV) (p : PlantD) : Value := .agg #[.slice x.tA p.tanks.length x.tc, .slice x.vA p.valves.length x.vc, .slice x.lA p.lines.length x.lc, .slice x.nA p.never.length x.nc]
theorem info_string : (Tryz.prog.info? 9).map (fun i => (i.zero, i.size, i.bytes)) = some (some (.string ByteArray.empty), 1, 16) := by kernel_rfl

set_option maxHeartbeats 400000 in
theorem tankOk_any (w : World) (t : TankD) :
    Calls Tryz.prog 125 #[.agg #[tankC t 0, tankC t 1, tankC t 2, tankC t 3]] w fun e w' => e = .returned (.bool (tankOk t)) ∧ Below w.heap.size w w' := by
  simp only [tankC]
  have hok : tankOk t = (inB t.room 1 1073741824 && inB t.least 1 1073741824 && inB t.limit 0 1073741824) := rfl
  have HOK := Lib.hid hok; clear hok
  have hb : ∀ o, Below w.heap.size w (w.alloc o) := fun o => (Below.refl _ _).alloc (Nat.le_refl _) _
  cases h1 : inB t.room 1 1073741824 <;> cases h2 : inB t.least 1 1073741824
  all_goals
    go_enter Tryz.func125, Tryz.ntmps125
    go_wp2_with (go_at_call 69; refine (within_any _ _ _ _).mono ?_; rintro e w' ⟨rfl, rfl⟩)
    go_ret
    exact ⟨ret_bool (by rw [HOK.out, h1]; simp [h2]), hb _⟩

set_option maxHeartbeats 400000 in
theorem valveOk_any (w : World) (t : ValveD) :
    Calls Tryz.prog 127 #[.agg #[valveC t 0, valveC t 1, valveC t 2]] w fun e w' => e = .returned (.bool (valveOk t)) ∧ Below w.heap.size w w' := by
  simp only [valveC]
  have hb : ∀ o, Below w.heap.size w (w.alloc o) := fun o => (Below.refl _ _).alloc (Nat.le_refl _) _
  go_enter Tryz.func127, Tryz.ntmps127
  go_wp2_with (go_at_call 69; refine (within_any _ _ _ _).mono ?_; rintro e w' ⟨rfl, rfl⟩)
  go_ret
  exact ⟨ret_bool rfl, hb _⟩

set_option maxRecDepth 100000 in
set_option maxHeartbeats 1000000 in
theorem tanked_any (w : World) (x : PV) (p : PlantD) (h : PlantAt w w.heap.size x p) :
    Calls Tryz.prog 62 #[pval x p] w fun e w' => e = .returned (.bool (tankedB p)) ∧ Below w.heap.size w w' := by
  obtain ⟨i0, hi, hz0, hz1, hz2⟩ := info_parts info_string
  obtain ⟨tA, tc, vA, vc, lA, lc, nA, nc, iA, ic, jA, jc⟩ := x
  have hsl : Sl w w.heap.size 4 tA p.tanks.length fun i => tankC (p.tank i) := h.tanks
  have hn := hsl.1
  have hroom := h.room.1
  clear h
  dsimp only [pval]
  go_enter Tryz.func62, Tryz.ntmps62
  go_wp2_with fail
  go_loopw [3, 9] (fun v i wr => ∃ k : Nat, k ≤ p.tanks.length ∧ i = .int .i64 k ∧ wr.ownsRow (w.heap.size + 1) 9 1 v k ((List.range k).map fun i => .string (p.tank i).name) ∧ Below (w.heap.size + 1) (w.alloc (.cells #[.slice tA p.tanks.length tc, .slice vA p.valves.length vc, .slice lA p.lines.length lc, .slice nA p.never.length nc] 27)) wr) (fun _ i _ => p.tanks.length - (intOf i).toNat)
  case atStart => exact ⟨0, Nat.zero_le _, rfl, World.ownsRow_nil _ _ _ _, Below.refl _ _⟩
  case round =>
    obtain ⟨k, hk, rfl, hown, hb⟩ := hrel
    have hbw : Below w.heap.size w wr := ((Below.refl _ _).alloc (Nat.le_refl _) _).trans (hb.mono (by omega))
    have hsz := hb.size
    simp only [World.size_alloc] at hsz
    by_cases hlt : k < p.tanks.length
    · obtain ⟨b, off, rfl, hB, c0, c1, c2, c3⟩ := (hsl.below hbw).at4 hlt
      simp only [tankC] at c0 c1 c2 c3
      go_wp2_with (first | (at_builtin; refine wpList_append_own _ rfl _ _ 203 rfl (w.heap.size + 1) 9 i0 (.string ByteArray.empty) 1 16 Tryz.underlying203 hi hz0 hz1 hz2 rfl (by decide) _ _ _ rfl ((hown.alloc _).alloc _) ⟨wr.heap.size + 1, 0, none⟩ 1 1 [.string (p.tank k).name] rfl rfl ?c1 ?c2 ?c3 ?c4 ?c5 ?_))
      case c1 => intro j u hj; match j, hj with | 0, hj => simp at hj; subst hj; simp [Addr.add]
      case c2 => intro u hu; simp at hu; subst hu; rfl
      case c3 => unfold maxLen; omega
      case c4 => omega
      case c5 => simp; omega
      intro v' w1 hown' hgrow _
      have hb1 : Below (w.heap.size + 1) wr w1 := (((Below.refl _ wr).alloc (by omega) _).alloc (by simp; omega) _).grown hgrow (by simp; omega) (fun g hg => (hown.lt g hg).1)
      clear hgrow hown
      go_wp2_with fail
      go_roundw
      case rel => exact ⟨k + 1, by omega, by go_num, by rw [List.range_succ, List.map_append]; exact hown', hb.trans hb1⟩
      case measure => simp [intOf]; omega
    · obtain rfl : k = p.tanks.length := by omega
      have hnames : ∃ A c, u3 = .slice A p.tanks.length c ∧ Sl wr wr.heap.size 1 A p.tanks.length fun i _ => .string (p.tank i).name := by
        rcases hown.2 with ⟨hv, h0⟩ | ⟨g, cap, cur, hv, hg, hh, _, _, _, _⟩
        · exact ⟨none, 0, by rw [hv, h0], by rw [h0]; exact Sl.nil _ _ _ _ _⟩
        · refine ⟨some ⟨g, 0, none⟩, cap, hv, hn, fun _ => ⟨g, 0, rfl, (hown.lt g (by rw [hv]; rfl)).2, fun i hi j hj => ?_⟩⟩
          have := hown.cells (g := g) (by rw [hv]; rfl) i (.string (p.tank i).name) (by simp [hi])
          obtain rfl : j = 0 := by omega
          simpa [Addr.add_lit] using this
      obtain ⟨A, cn, rfl, hsn⟩ := hnames
      have hap := apart_any wr A p.tanks.length cn (fun i => (p.tank i).name) 16 hsn
      have HAP := Lib.hid hap; clear hap hsn hown
      have hc0 : wr.cell? ⟨w.heap.size, 0, none⟩ = some (.slice tA p.tanks.length tc) := by rw [hb.cell (p := ⟨w.heap.size, 0, none⟩) (by simp)]; simp
      go_wp2_with fail
      refine HAP.out.mono ?_
      rintro e w1 ⟨rfl, hb1⟩
      have hc1 : w1.cell? ⟨w.heap.size, 0, none⟩ = some (.slice tA p.tanks.length tc) := by rw [hb1.cell (p := ⟨w.heap.size, 0, none⟩) (by simp; omega)]; exact hc0
      have hbw1 : Below w.heap.size w w1 := hbw.trans (hb1.mono (by omega))
      have hall := allTank w1 tA p.tanks.length tc _ ((hsl.below hbw1).mono hbw1.size) 125 #[] (fun i => tankOk (p.tank i)) (fun args w => by kernel_rfl) (fun w2 hw2 i hi => by
        have := tankOk_any w2 (p.tank i)
        simpa using this)
      have HALL := Lib.hid hall; clear hall hc0
      cases hq : apartB p.tanks.length (fun i => (p.tank i).name) 16 with
      | true =>
        have HQ := Lib.hid hq; clear hq
        go_wp2_with fail
        refine HALL.out.mono ?_
        rintro e w2 ⟨rfl, hb2⟩
        go_wp2_with fail
        go_ret
        exact ⟨ret_bool (by unfold tankedB; rw [HQ.out]; simp), hbw1.trans (hb2.mono hbw1.size)⟩
      | false =>
        have HQ := Lib.hid hq; clear hq
        go_wp2_with fail
        go_ret
        exact ⟨ret_bool (by unfold tankedB; rw [HQ.out]; simp), hbw1⟩

set_option maxRecDepth 100000 in
set_option maxHeartbeats 1000000 in
theorem valved_any (w : World) (x : PV) (p : PlantD) (h : PlantAt w w.heap.size x p) :
    Calls Tryz.prog 63 #[pval x p] w fun e w' => e = .returned (.bool (valvedB p)) ∧ Below w.heap.size w w' := by
  obtain ⟨i0, hi, hz0, hz1, hz2⟩ := info_parts info_string
  obtain ⟨tA, tc, vA, vc, lA, lc, nA, nc, iA, ic, jA, jc⟩ := x
  have hsl : Sl w w.heap.size 3 vA p.valves.length fun i => valveC (p.valve i) := h.valves
  have hn := hsl.1
  have hroom := h.room.2
  clear h
  dsimp only [pval]
  go_enter Tryz.func63, Tryz.ntmps63
  go_wp2_with fail
  go_loopw [3, 9] (fun v i wr => ∃ k : Nat, k ≤ p.valves.length ∧ i = .int .i64 k ∧ wr.ownsRow (w.heap.size + 1) 9 1 v k ((List.range k).map fun i => .string (p.valve i).name) ∧ Below (w.heap.size + 1) (w.alloc (.cells #[.slice tA p.tanks.length tc, .slice vA p.valves.length vc, .slice lA p.lines.length lc, .slice nA p.never.length nc] 27)) wr) (fun _ i _ => p.valves.length - (intOf i).toNat)
  case atStart => exact ⟨0, Nat.zero_le _, rfl, World.ownsRow_nil _ _ _ _, Below.refl _ _⟩
  case round =>
    obtain ⟨k, hk, rfl, hown, hb⟩ := hrel
    have hbw : Below w.heap.size w wr := ((Below.refl _ _).alloc (Nat.le_refl _) _).trans (hb.mono (by omega))
    have hsz := hb.size
    simp only [World.size_alloc] at hsz
    by_cases hlt : k < p.valves.length
    · obtain ⟨b, off, rfl, hB, c0, c1, c2⟩ := (hsl.below hbw).at3 hlt
      simp only [valveC] at c0 c1 c2
      go_wp2_with (first | (at_builtin; refine wpList_append_own _ rfl _ _ 203 rfl (w.heap.size + 1) 9 i0 (.string ByteArray.empty) 1 16 Tryz.underlying203 hi hz0 hz1 hz2 rfl (by decide) _ _ _ rfl ((hown.alloc _).alloc _) ⟨wr.heap.size + 1, 0, none⟩ 1 1 [.string (p.valve k).name] rfl rfl ?c1 ?c2 ?c3 ?c4 ?c5 ?_))
      case c1 => intro j u hj; match j, hj with | 0, hj => simp at hj; subst hj; simp [Addr.add]
      case c2 => intro u hu; simp at hu; subst hu; rfl
      case c3 => unfold maxLen; omega
      case c4 => omega
      case c5 => simp; omega
      intro v' w1 hown' hgrow _
      have hb1 : Below (w.heap.size + 1) wr w1 := (((Below.refl _ wr).alloc (by omega) _).alloc (by simp; omega) _).grown hgrow (by simp; omega) (fun g hg => (hown.lt g hg).1)
      clear hgrow hown
      go_wp2_with fail
      go_roundw
      case rel => exact ⟨k + 1, by omega, by go_num, by rw [List.range_succ, List.map_append]; exact hown', hb.trans hb1⟩
      case measure => simp [intOf]; omega
    · obtain rfl : k = p.valves.length := by omega
      have hnames : ∃ A c, u3 = .slice A p.valves.length c ∧ Sl wr wr.heap.size 1 A p.valves.length fun i _ => .string (p.valve i).name := by
        rcases hown.2 with ⟨hv, h0⟩ | ⟨g, cap, cur, hv, hg, hh, _, _, _, _⟩
        · exact ⟨none, 0, by rw [hv, h0], by rw [h0]; exact Sl.nil _ _ _ _ _⟩
        · refine ⟨some ⟨g, 0, none⟩, cap, hv, hn, fun _ => ⟨g, 0, rfl, (hown.lt g (by rw [hv]; rfl)).2, fun i hi j hj => ?_⟩⟩
          have := hown.cells (g := g) (by rw [hv]; rfl) i (.string (p.valve i).name) (by simp [hi])
          obtain rfl : j = 0 := by omega
          simpa [Addr.add_lit] using this
      obtain ⟨A, cn, rfl, hsn⟩ := hnames
      have hap := apart_any wr A p.valves.length cn (fun i => (p.valve i).name) 12 hsn
      have HAP := Lib.hid hap; clear hap hsn hown
      have hc0 : wr.cell? ⟨w.heap.size, 1, none⟩ = some (.slice vA p.valves.length vc) := by rw [hb.cell (p := ⟨w.heap.size, 1, none⟩) (by simp)]; simp
      go_wp2_with fail
      refine HAP.out.mono ?_
      rintro e w1 ⟨rfl, hb1⟩
      have hc1 : w1.cell? ⟨w.heap.size, 1, none⟩ = some (.slice vA p.valves.length vc) := by rw [hb1.cell (p := ⟨w.heap.size, 1, none⟩) (by simp; omega)]; exact hc0
      have hbw1 : Below w.heap.size w w1 := hbw.trans (hb1.mono (by omega))
      have hall := allValve w1 vA p.valves.length vc _ ((hsl.below hbw1).mono hbw1.size) 127 #[] (fun i => valveOk (p.valve i)) (fun args w => by kernel_rfl) (fun w2 hw2 i hi => by
        have := valveOk_any w2 (p.valve i)
        simpa using this)
      have HALL := Lib.hid hall; clear hall hc0
      cases hq : apartB p.valves.length (fun i => (p.valve i).name) 12 with
      | true =>
        have HQ := Lib.hid hq; clear hq
        go_wp2_with fail
        refine HALL.out.mono ?_
        rintro e w2 ⟨rfl, hb2⟩
        go_wp2_with fail
        go_ret
        exact ⟨ret_bool (by unfold valvedB; rw [HQ.out]; simp), hbw1.trans (hb2.mono hbw1.size)⟩
      | false =>
        have HQ := Lib.hid hq; clear hq
        go_wp2_with fail
        go_ret
        exact ⟨ret_bool (by unfold valvedB; rw [HQ.out]; simp), hbw1⟩
end Go.Proofs.YtogobjmmgjfjjaaGreat
/- What is proved: contracts of engine.lined, engine.literals and their closures. Conditions: the plant lies in memory as the plain data say. -/
namespace Go.Proofs.YtogobjmmgjfjjaaGreat
open Go.RowKit

set_option maxHeartbeats 400000 in
theorem end_any (w : World) (t : Int) (bp n c : Nat) (A : Option Addr) (hn : n ≤ 9223372036854775807) (hp : w.cell? ⟨bp, 0, none⟩ = some (.slice A n c)) :
    Calls Tryz.prog 128 #[.int .i64 t, .pointer (some ⟨bp, 0, none⟩)] w fun e w' => e = .returned (.bool (inB t (-1) (n - 1))) ∧ w = w' := by
  go_enter Tryz.func128, Tryz.ntmps128
  go_wp2_with (go_at_call 69; refine (within_any _ _ _ _).mono ?_; rintro e w' ⟨rfl, rfl⟩)
  go_ret
  exact ⟨rfl, rfl⟩
set_option maxHeartbeats 400000 in
theorem valveIn_any (w : World) (t : Int) (bp n c : Nat) (A : Option Addr) (hn : n ≤ 9223372036854775807) (hp : w.cell? ⟨bp, 1, none⟩ = some (.slice A n c)) :
    Calls Tryz.prog 129 #[.int .i64 t, .pointer (some ⟨bp, 0, none⟩)] w fun e w' => e = .returned (.bool (inB t 0 (n - 1))) ∧ w = w' := by
  go_enter Tryz.func129, Tryz.ntmps129
  go_wp2_with (go_at_call 69; refine (within_any _ _ _ _).mono ?_; rintro e w' ⟨rfl, rfl⟩)
  go_ret
  exact ⟨rfl, rfl⟩
set_option maxHeartbeats 400000 in
theorem litIn_any (w : World) (l : LitD) (bp n c : Nat) (A : Option Addr) (hn : n ≤ 9223372036854775807) (hlt : bp < w.heap.size) (hp : w.cell? ⟨bp, 1, none⟩ = some (.slice A n c)) :
    Calls Tryz.prog 114 #[.agg #[litC l 0, litC l 1], .pointer (some ⟨bp, 0, none⟩)] w fun e w' => e = .returned (.bool (inB l.valve 0 (n - 1))) ∧ Below w.heap.size w w' := by
  simp only [litC]
  go_enter Tryz.func114, Tryz.ntmps114
  go_wp2_with (go_at_call 69; refine (within_any _ _ _ _).mono ?_; rintro e w' ⟨rfl, rfl⟩)
  go_ret
  exact ⟨rfl, (Below.refl _ _).alloc (Nat.le_refl _) _⟩

set_option maxRecDepth 100000 in
set_option maxHeartbeats 1000000 in
theorem lineOk_any (w : World) (A : Option Addr) (c : Nat) (l : LineD) (hl : IntsAt w w.heap.size A l.valves) (bp be bv nt tc nv vc : Nat) (tA vA : Option Addr) (hnt : nt ≤ 9223372036854775807) (hnv : nv ≤ 9223372036854775807)
    (hp : bp < w.heap.size) (he : be < w.heap.size) (hv : bv < w.heap.size)
    (c0 : w.cell? ⟨bp, 0, none⟩ = some (.slice tA nt tc)) (c1 : w.cell? ⟨bp, 1, none⟩ = some (.slice vA nv vc))
    (ce : w.cell? ⟨be, 0, none⟩ = some (.func (.func 128) #[] #[.pointer (some ⟨bp, 0, none⟩)]))
    (cv : w.cell? ⟨bv, 0, none⟩ = some (.func (.func 129) #[] #[.pointer (some ⟨bp, 0, none⟩)])) :
    Calls Tryz.prog 131 #[.agg #[lineC A c l 0, lineC A c l 1, lineC A c l 2, lineC A c l 3, lineC A c l 4], .pointer (some ⟨be, 0, none⟩), .pointer (some ⟨bv, 0, none⟩)] w
      fun e w' => e = .returned (.bool (lineOk nt nv l)) ∧ Below w.heap.size w w' := by
  simp only [lineC]
  have hb : ∀ o, Below w.heap.size w (w.alloc o) := fun o => (Below.refl _ _).alloc (Nat.le_refl _) _
  have hin : ∀ o, IntsAt (w.alloc o) (w.alloc o).heap.size A l.valves := fun o => Sl.mono (Sl.below hl (hb o)) (by simp)
  have HALL : Hid (∀ o, Calls Tryz.prog 132 #[.slice A l.valves.length c, .func (.func 129) #[] #[.pointer (some ⟨bp, 0, none⟩)]] (w.alloc o)
      fun e w' => e = .returned (.bool (allN l.valves.length fun i => inB (l.valves.getD i 0) 0 (nv - 1))) ∧ Below (w.alloc o).heap.size (w.alloc o) w') := Lib.hid fun o => by
    refine allInt (w.alloc o) A l.valves.length c _ (hin o) 129 _ (fun i => inB (l.valves.getD i 0) 0 (nv - 1)) (fun args w => by kernel_rfl) ?_
    intro w' hw' i hi
    refine (valveIn_any w' (l.valves.getD i 0) bp nv vc vA hnv ?_).mono ?_
    · rw [hw'.cell (p := ⟨bp, 1, none⟩) (by simp; omega), (hb o).cell (p := ⟨bp, 1, none⟩) hp]; exact c1
    · rintro e w'' ⟨he, rfl⟩; exact ⟨he, Below.refl _ _⟩
  have HEND : Hid (∀ o t, Calls Tryz.prog 128 #[.int .i64 t, .pointer (some ⟨bp, 0, none⟩)] (w.alloc o) fun e w' => e = .returned (.bool (inB t (-1) (nt - 1))) ∧ w.alloc o = w') := Lib.hid fun o t =>
    end_any _ _ bp nt tc tA hnt (by rw [(hb o).cell (p := ⟨bp, 0, none⟩) hp]; exact c0)
  have hn := hl.1
  have hok : lineOk nt nv l = (inB l.src (-1) (nt - 1) && inB l.dst (-1) (nt - 1) && !decide (l.src = l.dst) && inB l.flow 1 1073741824 && inB l.valves.length 1 4 && allN l.valves.length fun i => inB (l.valves.getD i 0) 0 (nv - 1)) := rfl
  have HOK := Lib.hid hok; clear hok hl hin
  cases h1 : inB l.src (-1) (nt - 1) with
  | false =>
    go_enter Tryz.func131, Tryz.ntmps131
    go_wp2_with (first | (go_at_call 128; refine (HEND.out _ _).mono ?_; rintro e w' ⟨rfl, rfl⟩) | (go_at_call 69; refine (within_any _ _ _ _).mono ?_; rintro e w' ⟨rfl, rfl⟩) | (go_at_call 132; refine (HALL.out _).mono ?_; rintro e w' ⟨rfl, hb'⟩))
    go_ret
    exact ⟨ret_bool (by rw [HOK.out]; simp [h1]), hb _⟩
  | true =>
  cases h2 : inB l.dst (-1) (nt - 1) with
  | false =>
    go_enter Tryz.func131, Tryz.ntmps131
    go_wp2_with (first | (go_at_call 128; refine (HEND.out _ _).mono ?_; rintro e w' ⟨rfl, rfl⟩) | (go_at_call 69; refine (within_any _ _ _ _).mono ?_; rintro e w' ⟨rfl, rfl⟩) | (go_at_call 132; refine (HALL.out _).mono ?_; rintro e w' ⟨rfl, hb'⟩))
    go_ret
    exact ⟨ret_bool (by rw [HOK.out]; simp [h1, h2]), hb _⟩
  | true =>
  by_cases h3 : l.src = l.dst
  · have h3' : (l.src != l.dst) = false := by simp [h3]
    have H3 := Lib.hid h3; clear h3
    go_enter Tryz.func131, Tryz.ntmps131
    go_wp2_with (first | (go_at_call 128; refine (HEND.out _ _).mono ?_; rintro e w' ⟨rfl, rfl⟩) | (go_at_call 69; refine (within_any _ _ _ _).mono ?_; rintro e w' ⟨rfl, rfl⟩) | (go_at_call 132; refine (HALL.out _).mono ?_; rintro e w' ⟨rfl, hb'⟩))
    go_ret
    exact ⟨ret_bool (by rw [HOK.out]; simp [h2, H3.out]), hb _⟩
  · have h3' : (l.src != l.dst) = true := by simp [h3]
    have H3 := Lib.hid h3; clear h3
    cases h4 : inB l.flow 1 1073741824 with
    | false =>
      go_enter Tryz.func131, Tryz.ntmps131
      go_wp2_with (first | (go_at_call 128; refine (HEND.out _ _).mono ?_; rintro e w' ⟨rfl, rfl⟩) | (go_at_call 69; refine (within_any _ _ _ _).mono ?_; rintro e w' ⟨rfl, rfl⟩) | (go_at_call 132; refine (HALL.out _).mono ?_; rintro e w' ⟨rfl, hb'⟩))
      go_ret
      exact ⟨ret_bool (by rw [HOK.out]; simp [h1, h2, H3.out, h4]), hb _⟩
    | true =>
    cases h5 : inB l.valves.length 1 4 with
    | false =>
      go_enter Tryz.func131, Tryz.ntmps131
      go_wp2_with (first | (go_at_call 128; refine (HEND.out _ _).mono ?_; rintro e w' ⟨rfl, rfl⟩) | (go_at_call 69; refine (within_any _ _ _ _).mono ?_; rintro e w' ⟨rfl, rfl⟩) | (go_at_call 132; refine (HALL.out _).mono ?_; rintro e w' ⟨rfl, hb'⟩))
      go_ret
      exact ⟨ret_bool (by rw [HOK.out]; simp [h1, h2, H3.out, h4, h5]), hb _⟩
    | true =>
      go_enter Tryz.func131, Tryz.ntmps131
      go_wp2_with (first | (go_at_call 128; refine (HEND.out _ _).mono ?_; rintro e w' ⟨rfl, rfl⟩) | (go_at_call 69; refine (within_any _ _ _ _).mono ?_; rintro e w' ⟨rfl, rfl⟩) | (go_at_call 132; refine (HALL.out _).mono ?_; rintro e w' ⟨rfl, hb'⟩))
      go_ret
      exact ⟨ret_bool (by rw [HOK.out]; simp [h1, h2, H3.out, h4, h5]), (hb _).trans (hb'.mono (by simp))⟩

end Go.Proofs.YtogobjmmgjfjjaaGreat
/- What is proved: contracts of engine.lined, engine.literals. Conditions: the plant lies in memory as the plain data say. -/
namespace Go.Proofs.YtogobjmmgjfjjaaGreat
open Go.RowKit

set_option maxRecDepth 100000 in
set_option maxHeartbeats 1000000 in
theorem lined_any (w : World) (x : PV) (p : PlantD) (h : PlantAt w w.heap.size x p) :
    Calls Tryz.prog 64 #[pval x p] w fun e w' => e = .returned (.bool (linedB p)) ∧ Below w.heap.size w w' := by
  have h0 := h
  obtain ⟨tA, tc, vA, vc, lA, lc, nA, nc, iA, ic, jA, jc⟩ := x
  have hnl : p.lines.length ≤ 9223372036854775807 := h.lines.1
  have hnt : p.tanks.length ≤ 9223372036854775807 := h.tanks.1
  have hnv : p.valves.length ≤ 9223372036854775807 := h.valves.1
  dsimp only [pval]
  let w1 := w.alloc (.cells #[.slice tA p.tanks.length tc, .slice vA p.valves.length vc, .slice lA p.lines.length lc, .slice nA p.never.length nc] 27)
  let w2 := w1.alloc (.cells #[.func (.func 128) #[] #[.pointer (some ⟨w.heap.size, 0, none⟩)]] 209)
  let w3 := w2.alloc (.cells #[.func (.func 129) #[] #[.pointer (some ⟨w.heap.size, 0, none⟩)]] 209)
  have hb : Below w.heap.size w w3 := (((Below.refl _ _).alloc (Nat.le_refl _) _).alloc (by simp) _).alloc (by simp; omega) _
  have hs3 : w3.heap.size = w.heap.size + 3 := by simp [w3, w2, w1]
  have HALL : Hid (Calls Tryz.prog 130 #[.slice lA p.lines.length lc, .func (.func 131) #[] #[.pointer (some ⟨w.heap.size + 1, 0, none⟩), .pointer (some ⟨w.heap.size + 2, 0, none⟩)]] w3
      fun e w' => e = .returned (.bool (allN p.lines.length fun i => lineOk p.tanks.length p.valves.length (p.line i))) ∧ Below w3.heap.size w3 w') := Lib.hid (by
    refine allLine w3 lA p.lines.length lc _ ((h0.lines.below hb).mono (by omega)) 131 _ (fun i => lineOk p.tanks.length p.valves.length (p.line i)) (fun args w => by kernel_rfl) ?_
    intro w' hw' i hi
    have hs := hw'.size
    have cell : ∀ b o, b < w.heap.size + 3 → w'.cell? ⟨b, o, none⟩ = w3.cell? ⟨b, o, none⟩ := fun b o hbo => hw'.cell (p := ⟨b, o, none⟩) (by simp; omega)
    exact lineOk_any w' (iA i) (ic i) (p.line i) ((Sl.below (Sl.below (h0.lv i hi) hb) (hw'.mono (by omega))).mono (by omega)) w.heap.size (w.heap.size + 1) (w.heap.size + 2) _ tc _ vc tA vA hnt hnv (by omega) (by omega) (by omega)
      (by rw [cell _ _ (by omega)]; simp only [w3, w2, w1]; go_simp) (by rw [cell _ _ (by omega)]; simp only [w3, w2, w1]; go_simp) (by rw [cell _ _ (by omega)]; simp only [w3, w2, w1]; go_simp) (by rw [cell _ _ (by omega)]; simp only [w3, w2, w1]; go_simp))
  clear h h0
  have HB := Lib.hid hb; clear hb
  have HS := Lib.hid hs3; clear hs3
  cases h1 : decide ((p.lines.length : Int) ≤ 32) with
  | false =>
    go_enter Tryz.func64, Tryz.ntmps64
    go_wp2_with fail
    go_ret
    exact ⟨ret_bool (by unfold linedB; rw [h1]; simp), HB.out⟩
  | true =>
    go_enter Tryz.func64, Tryz.ntmps64
    go_wp2_with fail
    refine HALL.out.mono ?_
    rintro e w' ⟨rfl, hb'⟩
    go_wp2_with fail
    go_ret
    exact ⟨ret_bool (by unfold linedB; rw [h1]; simp), HB.out.trans (hb'.mono (by rw [HS.out]; omega))⟩

set_option maxHeartbeats 1000000 in
theorem literals_any (w : World) (x : PV) (p : PlantD) (h : PlantAt w w.heap.size x p) (A : Option Addr) (c : Nat) (l : List LitD) (hl : LitsAt w w.heap.size A l) (most : Int) :
    Calls Tryz.prog 47 #[pval x p, .slice A l.length c, .int .i64 most] w fun e w' => e = .returned (.bool (litsOk p.valves.length l most)) ∧ Below w.heap.size w w' := by
  obtain ⟨tA, tc, vA, vc, lA, lc, nA, nc, iA, ic, jA, jc⟩ := x
  have hnv : p.valves.length ≤ 9223372036854775807 := h.valves.1
  have hnl := hl.1
  dsimp only [pval]
  let w1 := w.alloc (.cells #[.slice tA p.tanks.length tc, .slice vA p.valves.length vc, .slice lA p.lines.length lc, .slice nA p.never.length nc] 27)
  have hb : Below w.heap.size w w1 := (Below.refl _ _).alloc (Nat.le_refl _) _
  have HALL : Hid (Calls Tryz.prog 85 #[.slice A l.length c, .func (.func 114) #[] #[.pointer (some ⟨w.heap.size, 0, none⟩)]] w1
      fun e w' => e = .returned (.bool (allN l.length fun i => inB (l.getD i lit0).valve 0 (p.valves.length - 1))) ∧ Below w1.heap.size w1 w') := Lib.hid (by
    refine allLit w1 A l.length c _ (Sl.mono (Sl.below hl hb) (by simp [w1])) 114 _ (fun i => inB (l.getD i lit0).valve 0 (p.valves.length - 1)) (fun args w => by kernel_rfl) ?_
    intro w' hw' i hi
    have hs := hw'.size
    simp only [w1, World.size_alloc] at hs
    refine litIn_any w' (l.getD i lit0) w.heap.size p.valves.length vc vA hnv (by omega) ?_
    rw [hw'.cell (p := ⟨w.heap.size, 1, none⟩) (by simp [w1])]; simp [w1])
  clear h hl
  have HB := Lib.hid hb; clear hb
  cases h1 : inB l.length 1 most with
  | false =>
    go_enter Tryz.func47, Tryz.ntmps47
    go_wp2_with (go_at_call 69; refine (within_any _ _ _ _).mono ?_; rintro e w' ⟨rfl, rfl⟩)
    go_ret
    exact ⟨ret_bool (by unfold litsOk; rw [h1]; simp), HB.out⟩
  | true =>
    go_enter Tryz.func47, Tryz.ntmps47
    go_wp2_with (go_at_call 69; refine (within_any _ _ _ _).mono ?_; rintro e w' ⟨rfl, rfl⟩)
    refine HALL.out.mono ?_
    rintro e w' ⟨rfl, hb'⟩
    go_wp2_with fail
    go_ret
    exact ⟨ret_bool (by unfold litsOk; rw [h1]; simp), HB.out.trans (hb'.mono (by simp [w1]))⟩
end Go.Proofs.YtogobjmmgjfjjaaGreat
/- What is proved: laws for a load, a store and a result of several cells, at a block that is known whole. Conditions: those that each law states. -/
namespace Go.Proofs.YtogobjmmgjfjjaaGreat
open Go.RowKit

/-- Block g is just the cells cs, of type t, none frozen. -/
def Bk (w : World) (g : Nat) (t : TypeId) (cs : Array Value) : Prop := w.heap[g]? = some (.cells cs t (0, 0))

section
variable {w w' : World} {g : Nat} {t : TypeId} {cs : Array Value}
theorem Bk.lt (h : Bk w g t cs) : g < w.heap.size := by
  rcases Nat.lt_or_ge g w.heap.size with h1 | h1
  · exact h1
  · unfold Bk at h; rw [Array.getElem?_eq_none h1] at h; cases h
theorem Bk.cell (h : Bk w g t cs) (i : Nat) : w.cell? ⟨g, i, none⟩ = cs[i]? := cell_of_row w g i cs t (0, 0) h
theorem Bk.free (h : Bk w g t cs) (i : Nat) : w.frozen? ⟨g, i, none⟩ = false := by unfold Bk at h; simp [World.frozen?, h]
theorem Bk.new (w : World) (t : TypeId) (cs : Array Value) : Bk (w.alloc (.cells cs t)) w.heap.size t cs := heap_alloc_new w _
theorem Bk.newAt (w : World) (t : TypeId) (cs : Array Value) (n : Nat) (hn : n = w.heap.size) : Bk (w.alloc (.cells cs t)) n t cs := by subst hn; exact Bk.new w t cs
theorem Bk.alloc (h : Bk w g t cs) (o : Obj) : Bk (w.alloc o) g t cs := (Below.heap_alloc w o g h.lt).trans h
theorem Bk.set (h : Bk w g t cs) (i : Nat) (u : Value) : Bk (w.setCell ⟨g, i, none⟩ u) g t (cs.setIfInBounds i u) := by
  unfold Bk at h ⊢
  simp [World.setCell, Array.getElem?_modify, h]
theorem Bk.far (h : Bk w g t cs) {p : Addr} (hp : g ≠ p.block) (u : Value) : Bk (w.setCell p u) g t cs := (Below.heap_setCell w p u g hp).trans h
theorem Bk.below {B : Nat} (h : Bk w g t cs) (hb : Below B w w') (hg : g < B) : Bk w' g t cs := (hb.block g hg).trans h
theorem Bk.drewN (h : Bk w g t cs) (n : Nat) : Bk (w.drewN n) g t cs := h
end

/-- cs with S written over it from place o on. -/
def splA (cs : Array Value) (o : Nat) : List Value → Array Value
  | [] => cs
  | u :: S => splA (cs.setIfInBounds o u) (o + 1) S
theorem splA_size (S : List Value) : ∀ (cs : Array Value) (o : Nat), (splA cs o S).size = cs.size := by
  induction S with
  | nil => intro cs o; rfl
  | cons u S ih => intro cs o; simp [splA, ih]
theorem splA_get (S : List Value) : ∀ (cs : Array Value) (o i : Nat), o + S.length ≤ cs.size → (splA cs o S)[i]? = if o ≤ i ∧ i < o + S.length then S[i - o]? else cs[i]? := by
  induction S with
  | nil => intro cs o i _; simp [splA]; intro h1 h2; omega
  | cons u S ih =>
    intro cs o i h
    simp only [List.length_cons] at h
    rw [splA, ih _ _ _ (by simp; omega)]
    simp only [List.length_cons, Array.getElem?_setIfInBounds]
    by_cases h1 : o + 1 ≤ i ∧ i < o + 1 + S.length
    · rw [if_pos h1, if_pos (by omega), show i - o = (i - (o + 1)) + 1 from by omega, List.getElem?_cons_succ]
    · rw [if_neg h1]
      by_cases h2 : i = o
      · subst h2; rw [if_pos rfl, if_pos (by omega), if_pos (by omega)]; simp
      · rw [if_neg (by omega), if_neg (by omega)]

/-- w' is w but that block g has turned. -/
structure Only (g : Nat) (w w' : World) : Prop where
  os : w'.os = w.os
  tape : w'.tape = w.tape
  output : w'.output = w.output
  size : w'.heap.size = w.heap.size
  block : ∀ k, k ≠ g → w'.heap[k]? = w.heap[k]?
theorem Only.refl (g : Nat) (w : World) : Only g w w := ⟨rfl, rfl, rfl, rfl, fun _ _ => rfl⟩
theorem Only.trans {g : Nat} {a b c : World} (h : Only g a b) (k : Only g b c) : Only g a c :=
  ⟨k.os.trans h.os, k.tape.trans h.tape, k.output.trans h.output, k.size.trans h.size, fun i hi => (k.block i hi).trans (h.block i hi)⟩
theorem Only.setCell (w : World) (g i : Nat) (u : Value) : Only g w (w.setCell ⟨g, i, none⟩ u) := ⟨rfl, rfl, rfl, by simp, fun k hk => Below.heap_setCell w _ u k hk⟩
theorem Only.below {g B : Nat} {w w' : World} (h : Only g w w') (hB : B ≤ g) : Below B w w' := ⟨h.os, h.tape, h.output, by rw [h.size]; exact Nat.le_refl _, fun k hk => h.block k (by omega)⟩
theorem Bk.only {w w' : World} {g g' : Nat} {t : TypeId} {cs : Array Value} (h : Bk w g t cs) (ho : Only g' w w') (hne : g ≠ g') : Bk w' g t cs := (ho.block g hne).trans h

section
variable {P : Program}
theorem run_storeCells_row (t : TypeId) (g : Nat) : ∀ (S : List Value) (w : World) (cs : Array Value) (o i : Nat), Bk w g t cs → o + i + S.length ≤ cs.size → (∀ u ∈ S, u.oneCell' = true) →
    ∃ w', (storeCells ⟨g, o, none⟩ S i).run P w = .ok () w' ∧ Bk w' g t (splA cs (o + i) S) ∧ Only g w w'
  | [], w, cs, o, i, h, _, _ => ⟨w, by simp [storeCells], h, Only.refl g w⟩
  | u :: S, w, cs, o, i, h, hl, h1 => by
    simp only [List.length_cons] at hl
    have hc : (w.cell? ⟨g, o + i, none⟩).isSome = true := by rw [h.cell]; simp; omega
    have hst : (store ⟨g, o + i, none⟩ u).run P w = .ok () (w.setCell ⟨g, o + i, none⟩ u) := by
      have hu := h1 u (List.mem_cons_self ..)
      obtain ⟨x, hx⟩ := Option.isSome_iff_exists.1 hc
      have hf := h.free (o + i)
      unfold store
      cases u <;> simp_all [Sem.run, Value.oneCell']
    obtain ⟨w', r1, r2, r3⟩ := run_storeCells_row t g S (w.setCell ⟨g, o + i, none⟩ u) (cs.setIfInBounds (o + i) u) o (i + 1) (h.set _ _) (by simp; omega) (fun x hx => h1 x (List.mem_cons_of_mem _ hx))
    refine ⟨w', ?_, ?_, (Only.setCell w g (o + i) u).trans r3⟩
    · simp only [storeCells, Sem.run_bind, Addr.add_lit, hst, Result.andThen_ok]
      exact r1
    · rw [splA]; exact r2

theorem run_loadVar_at (w : World) (g o : Nat) (ty : TypeId) (S : Array Value) (d : TypeDesc) (hc : ∀ j u, S[j]? = some u → w.cell? ⟨g, o + j, none⟩ = some u)
    (hu : P.underlying ty = some d) (hd : (match d with | .struct _ | .array _ _ => true | _ => false) = true) (hi : (P.info? ty).map (·.size) = some S.size) :
    (loadVar ty ⟨g, o, none⟩).run P w = .ok (.agg S) w := by
  have hl : (loadCells ⟨g, o, none⟩ S.toList.length).run P w = .ok S.toList.toArray w :=
    run_loadCells_list (P := P) w ⟨g, o, none⟩ S.toList (fun j v hv => by
      rw [Addr.add_lit]
      exact hc j v (by simpa using hv))
  cases hq : P.info? ty with
  | none => simp [hq] at hi
  | some i =>
    have hs : i.size = S.size := by simpa [hq] using hi
    have hagg : (isAgg ty).run P w = .ok true w := by
      unfold isAgg
      rw [Sem.run_bind, run_underlying hu w]
      cases d <;> simp_all
    simp only [Array.length_toList, Array.toArray_toList] at hl
    simp [loadVar, Sem.run_bind, hagg, sizeOf, typeInfo, hq, hs, hl]

theorem run_storeVar_at (w : World) (g o : Nat) (t ty : TypeId) (cs S : Array Value) (h : Bk w g t cs) (hl : o + S.size ≤ cs.size) (h1 : ∀ u ∈ S.toList, u.oneCell' = true) (hi : (P.info? ty).map (·.size) = some S.size) :
    ∃ w', (storeVar ty ⟨g, o, none⟩ (.agg S)).run P w = .ok () w' ∧ Bk w' g t (splA cs o S.toList) ∧ Only g w w' := by
  obtain ⟨w', r1, r2, r3⟩ := run_storeCells_row (P := P) t g S.toList w cs o 0 h (by simpa using hl) h1
  refine ⟨w', ?_, by simpa using r2, r3⟩
  cases hq : P.info? ty with
  | none => simp [hq] at hi
  | some i =>
    have hs : i.size = S.size := by simpa [hq] using hi
    simp [storeVar, Sem.run_bind, Value.cells, sizeOf, typeInfo, hq, hs, r1]

/-- A load of several cells. -/
theorem wpLoadAt {ops : Array Oper} {rest : List Oper} {o : Oper} {a : Act} {w : World} {Q : Exit → Act → World → Prop} (hgd : o.guard = none) (ty : TypeId) (x : Operand) (ho : o.op = .load ty x)
    (g off : Nat) (hx : a.eval x = .pointer (some ⟨g, off, none⟩)) (S : Array Value) (d : TypeDesc) (hc : ∀ j u, S[j]? = some u → w.cell? ⟨g, off + j, none⟩ = some u)
    (hu : P.underlying ty = some d) (hd : (match d with | .struct _ | .array _ _ => true | _ => false) = true) (hi : (P.info? ty).map (·.size) = some S.size)
    (h : wpList P ops Q rest (a.put o.dst (.agg S)) w) : wpList P ops Q (o :: rest) a w :=
  wpList_plain hgd fun _ hK => by
    unfold Oper.wp execOp
    simp only [ho, hx, Instr.loadAt, Instr.sureAddr, Sem.run_bind, Sem.run_pure, Result.andThen_ok, run_loadVar_at w g off ty S d hc hu hd hi]
    exact hK _ _ h

/-- A store of several cells into a block that is known whole. -/
theorem wpStoreAt {ops : Array Oper} {rest : List Oper} {o : Oper} {a : Act} {w : World} {Q : Exit → Act → World → Prop} (hgd : o.guard = none) (hdst : o.dst = none) (ty : TypeId) (x y : Operand) (ho : o.op = .store ty x y)
    (g off : Nat) (hx : a.eval x = .pointer (some ⟨g, off, none⟩)) (S : Array Value) (hy : a.eval y = .agg S) (t : TypeId) (cs : Array Value) (hb : Bk w g t cs)
    (hl : off + S.size ≤ cs.size) (h1 : ∀ u ∈ S.toList, u.oneCell' = true) (hi : (P.info? ty).map (·.size) = some S.size)
    (h : ∀ w', Bk w' g t (splA cs off S.toList) → Only g w w' → wpList P ops Q rest a w') : wpList P ops Q (o :: rest) a w :=
  wpList_plain hgd fun _ hK => by
    obtain ⟨w', r1, r2, r3⟩ := run_storeVar_at (P := P) w g off t ty cs S hb hl h1 hi
    unfold Oper.wp execOp
    simp only [ho, hx, hy, Instr.storeAt, Instr.sureAddr, Sem.run_bind, Sem.run_pure, Result.andThen_ok, r1]
    have := hK _ _ (h w' r2 r3)
    simpa [Oper.upon, hdst, Act.put] using this

theorem results_cellS {fn : Func} {p : Tmp} {ty : TypeId} (h : fn.results = #[.cell p ty]) (tmps : Array Value) (w : World) (g : Nat) (t : TypeId) (cs : Array Value) (d : TypeDesc)
    (hp : tmps.getD p undef = .pointer (some ⟨g, 0, none⟩)) (hg : Bk w g t cs)
    (hu : P.underlying ty = some d) (hd : (match d with | .struct _ | .array _ _ => true | _ => false) = true) (hi : (P.info? ty).map (·.size) = some cs.size) :
    (results fn tmps).run P w = .ok (.agg cs) w := results_cell_row h tmps w g t cs (0, 0) d hp hg hu hd hi
theorem results_cellS_tmp {fn : Func} {p u : Tmp} {ty : TypeId} (h : fn.results = #[.cell p ty, .tmp u]) (tmps : Array Value) (w : World) (g : Nat) (t : TypeId) (cs : Array Value) (d : TypeDesc)
    (hp : tmps.getD p undef = .pointer (some ⟨g, 0, none⟩)) (hg : Bk w g t cs)
    (hu : P.underlying ty = some d) (hd : (match d with | .struct _ | .array _ _ => true | _ => false) = true) (hi : (P.info? ty).map (·.size) = some cs.size) :
    (results fn tmps).run P w = .ok (.tuple #[.agg cs, tmps.getD u undef]) w := by
  have hl := run_loadVar_at (P := P) w g 0 ty cs d (fun j v hj => by rw [Nat.zero_add, hg.cell]; exact hj) hu hd hi
  have hp' : tmps[p]?.getD undef = .pointer (some ⟨g, 0, none⟩) := by simpa using hp
  simp [results, h, hp', asAddr, hl]
end
end Go.Proofs.YtogobjmmgjfjjaaGreat
/- What is proved: contracts of engine.holds. Conditions: the plant lies in memory as the plain data say; the literal names a valve. -/
namespace Go.Proofs.YtogobjmmgjfjjaaGreat
open Go.RowKit

/-- The twelve spots, cell by cell. -/
def spotsA (s : Spots) : Array Value := #[.int .i8 (s 0).place, .bool (s 0).opn, .int .i8 (s 1).place, .bool (s 1).opn, .int .i8 (s 2).place, .bool (s 2).opn, .int .i8 (s 3).place, .bool (s 3).opn, .int .i8 (s 4).place, .bool (s 4).opn, .int .i8 (s 5).place, .bool (s 5).opn, .int .i8 (s 6).place, .bool (s 6).opn, .int .i8 (s 7).place, .bool (s 7).opn, .int .i8 (s 8).place, .bool (s 8).opn, .int .i8 (s 9).place, .bool (s 9).opn, .int .i8 (s 10).place, .bool (s 10).opn, .int .i8 (s 11).place, .bool (s 11).opn]
theorem spotsA_size (s : Spots) : (spotsA s).size = 24 := rfl
theorem spots_get (s : Spots) (i : Nat) (hi : i < 12) : (spotsA s)[i * 2]? = some (.int .i8 (s i).place) ∧ (spotsA s)[i * 2 + 1]? = some (.bool (s i).opn) := by
  match i, hi with
  | 0, _ => exact ⟨rfl, rfl⟩
  | 1, _ => exact ⟨rfl, rfl⟩
  | 2, _ => exact ⟨rfl, rfl⟩
  | 3, _ => exact ⟨rfl, rfl⟩
  | 4, _ => exact ⟨rfl, rfl⟩
  | 5, _ => exact ⟨rfl, rfl⟩
  | 6, _ => exact ⟨rfl, rfl⟩
  | 7, _ => exact ⟨rfl, rfl⟩
  | 8, _ => exact ⟨rfl, rfl⟩
  | 9, _ => exact ⟨rfl, rfl⟩
  | 10, _ => exact ⟨rfl, rfl⟩
  | 11, _ => exact ⟨rfl, rfl⟩
theorem spots_set (s : Spots) (i : Nat) (hi : i < 12) (x : SpotD) : ((spotsA s).setIfInBounds (i * 2) (.int .i8 x.place)).setIfInBounds (i * 2 + 1) (.bool x.opn) = spotsA fun k => if k = i then x else s k := by
  match i, hi with
  | 0, _ => rfl
  | 1, _ => rfl
  | 2, _ => rfl
  | 3, _ => rfl
  | 4, _ => rfl
  | 5, _ => rfl
  | 6, _ => rfl
  | 7, _ => rfl
  | 8, _ => rfl
  | 9, _ => rfl
  | 10, _ => rfl
  | 11, _ => rfl
theorem spots_opn (s : Spots) (i : Nat) (hi : i < 12) (b : Bool) : (spotsA s).setIfInBounds (i * 2 + 1) (.bool b) = spotsA fun k => if k = i then ⟨(s i).place, b⟩ else s k := by
  match i, hi with
  | 0, _ => rfl
  | 1, _ => rfl
  | 2, _ => rfl
  | 3, _ => rfl
  | 4, _ => rfl
  | 5, _ => rfl
  | 6, _ => rfl
  | 7, _ => rfl
  | 8, _ => rfl
  | 9, _ => rfl
  | 10, _ => rfl
  | 11, _ => rfl
theorem spots_place (s : Spots) (i : Nat) (hi : i < 12) (n : Int) : (spotsA s).setIfInBounds (i * 2) (.int .i8 n) = spotsA fun k => if k = i then ⟨n, (s i).opn⟩ else s k := by
  match i, hi with
  | 0, _ => rfl
  | 1, _ => rfl
  | 2, _ => rfl
  | 3, _ => rfl
  | 4, _ => rfl
  | 5, _ => rfl
  | 6, _ => rfl
  | 7, _ => rfl
  | 8, _ => rfl
  | 9, _ => rfl
  | 10, _ => rfl
  | 11, _ => rfl
theorem spotsA_one (s : Spots) : ∀ u ∈ (spotsA s).toList, u.oneCell' = true := by
  simp [spotsA, Value.oneCell']
theorem spotsA_congr {s s' : Spots} (h : ∀ i, i < 12 → s i = s' i) : spotsA s = spotsA s' := by
  simp only [spotsA]
  rw [h 0 (by omega), h 1 (by omega), h 2 (by omega), h 3 (by omega), h 4 (by omega), h 5 (by omega), h 6 (by omega), h 7 (by omega), h 8 (by omega), h 9 (by omega), h 10 (by omega), h 11 (by omega)]
theorem splA_all (cs S : Array Value) (h : S.size = cs.size) : splA cs 0 S.toList = S := by
  apply Array.ext_getElem?
  intro i
  rw [splA_get _ _ _ _ (by simp; omega)]
  by_cases hi : i < S.size
  · rw [if_pos (by simpa using hi)]; simp
  · rw [if_neg (by simpa using hi), Array.getElem?_eq_none (by omega), Array.getElem?_eq_none (by omega)]
theorem alloc_cell (w : World) (t : TypeId) (cs : Array Value) (j : Nat) : (w.alloc (.cells cs t)).cell? ⟨w.heap.size, j, none⟩ = cs[j]? := World.cell?_alloc_new _ _ _ _

set_option maxRecDepth 100000 in
set_option maxHeartbeats 1000000 in
theorem holds_any (w : World) (x : PV) (p : PlantD) (h : PlantAt w w.heap.size x p) (s : Spots) (v : Nat) (o : Bool) (hv : v < p.valves.length) (h12 : v < 12) (hs : ∀ i, -128 ≤ (s i).place ∧ (s i).place ≤ 127) :
    Calls Tryz.prog 87 #[pval x p, .agg (spotsA s), .agg #[.int .i64 v, .bool o]] w fun e w' => e = .returned (.bool (holdsB p s ⟨v, o⟩)) ∧ Below w.heap.size w w' := by
  obtain ⟨tA, tc, vA, vc, lA, lc, nA, nc, iA, ic, jA, jc⟩ := x
  have hsl : Sl w w.heap.size 3 vA p.valves.length fun i => valveC (p.valve i) := h.valves
  have hn := hsl.1
  have g := spots_get s v h12
  have hsv := hs v
  have hvi : (v : Int) < (p.valves.length : Int) := by omega
  have h12i : (v : Int) < (12 : Int) := by omega
  have h0i : (0 : Int) ≤ (v : Int) := by omega
  have hw : IntKind.i64.wrap (s v).place = (s v).place := IntWalk.i64_in _ (by omega)
  obtain ⟨b, off, rfl, hB, c0, c1, c2⟩ := hsl.at3 hv
  simp only [valveC] at c0 c1 c2
  have hB1 : b < w.heap.size + 1 := by omega
  have hB2 : b < w.heap.size + 1 + 1 := by omega
  have hz := spotsA_size s
  dsimp only [pval]
  clear h hsl c0 c2
  cases o with
  | true =>
    go_enter Tryz.func87, Tryz.ntmps87
    go_wp2
    go_ret
    exact ⟨ret_bool (by simp [holdsB]), (((Below.refl _ _).alloc (Nat.le_refl _) _).alloc (by simp) _).alloc (by simp; omega) _⟩
  | false =>
    go_enter Tryz.func87, Tryz.ntmps87
    go_wp2
    go_quiet (fail)
    go_wp2
    go_ret
    exact ⟨ret_bool (by simp [holdsB]), below_drewN ((((Below.refl _ _).alloc (Nat.le_refl _) _).alloc (by simp) _).alloc (by simp; omega) _) _⟩
end Go.Proofs.YtogobjmmgjfjjaaGreat
/- What is proved: a contract of engine.first. Conditions: the plant lies in memory as the plain data say; at most 12 valves, each with a travel that an int8 holds. -/
namespace Go.Proofs.YtogobjmmgjfjjaaGreat
open Go.RowKit

def zeroS : Spots := fun _ => SpotD.zero
def firstK (p : PlantD) (k : Nat) : Spots := fun i => if i < k ∧ (p.valve i).opn then ⟨(p.valve i).travel, true⟩ else SpotD.zero
theorem info_spots : (Tryz.prog.info? 105).map (·.size) = some 24 := by kernel_rfl
theorem und_spots : Tryz.prog.underlying 105 = some (.array 12 103) := by kernel_rfl
theorem info_spots_s (s : Spots) : (Tryz.prog.info? 105).map (·.size) = some (spotsA s).size := info_spots

def ValvesOk (p : PlantD) : Prop := p.valves.length ≤ 12 ∧ ∀ i, i < p.valves.length → 1 ≤ (p.valve i).travel ∧ (p.valve i).travel ≤ 8

theorem firstK_zero (p : PlantD) : firstK p 0 = zeroS := by funext i; simp [firstK, zeroS]
theorem firstK_all (p : PlantD) : firstK p p.valves.length = firstB p := rfl
theorem firstK_keep (p : PlantD) (k : Nat) (h : (p.valve k).opn = false) : firstK p (k + 1) = firstK p k := by
  funext i
  unfold firstK
  by_cases hi : i = k
  · subst hi; simp [h]
  · have : (i < k + 1) = (i < k) := by simp; omega
    simp [this]
theorem firstK_set (p : PlantD) (k : Nat) (h : (p.valve k).opn = true) : firstK p (k + 1) = fun i => if i = k then ⟨(p.valve k).travel, true⟩ else firstK p k i := by
  funext i
  unfold firstK
  by_cases hi : i = k
  · subst hi; simp [h]
  · have : (i < k + 1) = (i < k) := by simp; omega
    simp [this, hi]

set_option maxRecDepth 100000 in
set_option maxHeartbeats 1000000 in
theorem first_any (w : World) (x : PV) (p : PlantD) (h : PlantAt w w.heap.size x p) (hv : ValvesOk p) :
    Calls Tryz.prog 49 #[pval x p] w fun e w' => e = .returned (.agg (spotsA (firstB p))) ∧ Below w.heap.size w w' := by
  obtain ⟨tA, tc, vA, vc, lA, lc, nA, nc, iA, ic, jA, jc⟩ := x
  have hsl : Sl w w.heap.size 3 vA p.valves.length fun i => valveC (p.valve i) := h.valves
  have hn := hsl.1
  have hn12 := hv.1
  have hvt := Lib.hid hv.2
  clear hv h
  dsimp only [pval]
  go_enter Tryz.func49, Tryz.ntmps49
  go_wp2_with fail
  go_loopw [9] (fun i wr => ∃ k : Nat, k ≤ p.valves.length ∧ i = .int .i64 k ∧ Bk wr (w.heap.size + 1) 105 (spotsA zeroS) ∧ Bk wr (w.heap.size + 2) 105 (spotsA (firstK p k)) ∧ Below w.heap.size w wr) (fun i _ => p.valves.length - (intOf i).toNat)
  case atStart => exact ⟨0, Nat.zero_le _, rfl, (Bk.newAt _ _ (spotsA zeroS) _ (by simp)).alloc _, by rw [firstK_zero]; exact Bk.newAt _ _ (spotsA zeroS) _ (by simp), (((Below.refl _ _).alloc (Nat.le_refl _) _).alloc (by simp) _).alloc (by simp; omega) _⟩
  case round =>
    obtain ⟨k, hk, rfl, hb1, hb2, hb⟩ := hrel
    have hs2 := hb2.lt
    by_cases hlt : k < p.valves.length
    · obtain ⟨b, off, rfl, hB, c0, c1, c2⟩ := (hsl.below hb).at3 hlt
      simp only [valveC] at c0 c1 c2
      have ht := hvt.out k hlt
      have h12 : (k : Int) < 12 := by omega
      have hwr : IntKind.i8.wrap (p.valve k).travel = (p.valve k).travel := IntWalk.i8_in _ (by omega)
      have hB1 : b < wr.heap.size := by omega
      cases ho : (p.valve k).opn with
      | false =>
        have HO := Lib.hid ho; clear ho
        have hb1' := Lib.hid hb1
        have hb2' := Lib.hid hb2
        clear hb1 hb2
        rw [HO.out] at c2
        go_wp2_with fail
        go_roundw
        case rel => exact ⟨k + 1, by omega, by go_num, hb1'.out.alloc _, by rw [firstK_keep p k HO.out]; exact hb2'.out.alloc _, hb.alloc (by omega) _⟩
        case measure => simp [intOf]; omega
      | true =>
        have HO := Lib.hid ho; clear ho
        have hb1' := Lib.hid hb1
        have hb2' := Lib.hid hb2
        have g1 := spots_get (firstK p k) k (by omega)
        have e1 := (hb2.cell (k * 2)).trans g1.1
        have e2 := (hb2.cell (k * 2 + 1)).trans g1.2
        have f1 := hb2.free (k * 2)
        have f2 := hb2.free (k * 2 + 1)
        clear hb1 hb2 g1
        rw [HO.out] at c2
        go_wp2_with fail
        go_roundw
        case rel =>
          refine ⟨k + 1, by omega, by go_num, ((hb1'.out.far (p := ⟨_, _, none⟩) (by simp) _).far (p := ⟨_, _, none⟩) (by simp) _).alloc _, ?_, (((hb.setCell (p := ⟨_, _, none⟩) (by simp; omega) _).setCell (p := ⟨_, _, none⟩) (by simp; omega) _).alloc (by simp; omega) _)⟩
          rw [firstK_set p k HO.out, ← spots_set (firstK p k) k (by omega) ⟨(p.valve k).travel, true⟩]
          exact ((hb2'.out.set (k * 2) _).set (k * 2 + 1) _).alloc _
        case measure => simp [intOf]; omega
    · obtain rfl : k = p.valves.length := by omega
      rw [firstK_all] at hb2
      have hl1 := hb1.lt
      clear hvt
      go_wp2_with (first | (refine wpLoadAt rfl 105 _ rfl (w.heap.size + 1 + 1) 0 rfl (spotsA (firstB p)) _ (fun j u hj => by rw [hb2.cell]; simpa using hj) und_spots rfl (info_spots_s _) ?_) | (refine wpStoreAt rfl rfl 105 _ _ rfl (w.heap.size + 1) 0 rfl (spotsA (firstB p)) rfl 105 _ hb1 (by rw [spotsA_size, spotsA_size]; omega) (spotsA_one _) (info_spots_s _) ?_; intro w' hr ho))
      refine bodyPost_ret (v := .agg (spotsA (firstB p))) ?_ rfl ⟨rfl, hb.trans (ho.below (by omega))⟩
      rw [splA_all _ _ (by rw [spotsA_size, spotsA_size])] at hr
      exact results_cellS rfl _ _ _ _ _ _ rfl hr und_spots rfl (info_spots_s _)
end Go.Proofs.YtogobjmmgjfjjaaGreat
/- What is proved: a rule for a region whose order is drawn: what each operation leaves is stated once, and holds in whatever order they come up. Conditions: those that the rule states. -/
namespace Go.Proofs.YtogobjmmgjfjjaaGreat
open Go.RowKit

/-- Does this operation wait for operation j? -/
def afterB (o : Oper) (j : Nat) : Bool := o.after.toList.any fun e => Region.binds .any e && e.on == j
def afterI (l : List Oper) (i j : Nat) : Bool := match l[i]? with | some o => afterB o j | none => false
/-- Does operation i wait for j, at however many removes? -/
def ancB (l : List Oper) : Nat → Nat → Nat → Bool
  | 0, _, _ => false
  | n + 1, i, j => (List.range l.length).any fun k => afterI l i k && (k == j || ancB l n k j)
def maskV (o : Oper) (vs : Nat → Value) : Nat → Value := fun j => if afterB o j then vs j else undef
def vsOf (l : List Oper) (a : Act) : Nat → Value := fun j => match l[j]? with | some o => (match o.dst with | some d => a.tmps.getD d undef | none => undef) | none => undef
def putAll : List Oper → (Nat → Value) → Nat → Act → Act
  | [], _, _, a => a
  | o :: l, vs, i, a => putAll l vs (i + 1) (a.put o.dst (vs i))
/-- No slot is written twice; each operation waits for earlier ones alone; slots lie in the frame. -/
def regB (l : List Oper) (n : Nat) : Bool :=
  (List.range l.length).all fun i => match l[i]? with
    | none => true
    | some o => (o.after.toList.all fun e => !Region.binds .any e || decide (e.on < i)) && (match o.dst with
      | none => true
      | some d => decide (d < n) && (List.range i).all fun j => match l[j]? with | some o' => o'.dst != some d | none => true)
/-- Nobody who may have come up ahead of operation i writes slot t. -/
def keepB (l : List Oper) (i t : Nat) : Bool :=
  (List.range l.length).all fun j => match l[j]? with | some o => o.dst != some t || j == i || afterB o i | none => true

section
variable {l : List Oper} {n : Nat}
theorem regB_after (h : regB l n = true) {i : Nat} {o : Oper} (hi : l[i]? = some o) {e : Edge} (he : e ∈ o.after) (hb : Region.binds .any e = true) : e.on < i := by
  unfold regB at h
  rw [List.all_eq_true] at h
  have hlt := (List.getElem?_eq_some_iff.1 hi).1
  have h1 := h i (by simpa using hlt)
  simp only [hi, Bool.and_eq_true, List.all_eq_true, decide_eq_true_eq, Bool.or_eq_true, Bool.not_eq_true'] at h1
  exact (h1.1 e (Array.mem_toList_iff.2 he)).resolve_left (by rw [hb]; simp)
theorem regB_dst (h : regB l n = true) {i : Nat} {o : Oper} (hi : l[i]? = some o) {d : Nat} (hd : o.dst = some d) : d < n ∧ ∀ j o', j < i → l[j]? = some o' → o'.dst ≠ some d := by
  unfold regB at h
  rw [List.all_eq_true] at h
  have hlt := (List.getElem?_eq_some_iff.1 hi).1
  have h1 := h i (by simpa using hlt)
  simp only [hi, hd, Bool.and_eq_true, decide_eq_true_eq, List.all_eq_true, List.mem_range] at h1
  refine ⟨h1.2.1, fun j o' hj ho' => ?_⟩
  have := h1.2.2 j hj
  simp only [ho'] at this
  simpa using this
theorem regB_ne (h : regB l n = true) {i j : Nat} {o o' : Oper} (hi : l[i]? = some o) (hj : l[j]? = some o') {d : Nat} (hd : o.dst = some d) (hd' : o'.dst = some d) : i = j := by
  rcases Nat.lt_trichotomy i j with h1 | h1 | h1
  · exact absurd hd ((regB_dst h hj hd').2 i o h1 hi)
  · exact h1
  · exact absurd hd' ((regB_dst h hi hd).2 j o' h1 hj)

theorem afterB_lt (h : regB l n = true) {i j : Nat} {o : Oper} (hi : l[i]? = some o) (ha : afterB o j = true) : j < i := by
  unfold afterB at ha
  rw [List.any_eq_true] at ha
  obtain ⟨e, he, hh⟩ := ha
  simp only [Bool.and_eq_true, beq_iff_eq] at hh
  have := regB_after h hi (Array.mem_toList_iff.1 he) hh.1
  omega

theorem put_getD (a : Act) (d t : Nat) (v : Value) : (a.put (some d) v).tmps.getD t undef = if t = d ∧ d < a.tmps.size then v else a.tmps.getD t undef := by
  simp only [Act.put, Array.getD_eq_getD_getElem?, Array.getElem?_setIfInBounds]
  by_cases h1 : d = t
  · subst h1
    by_cases h2 : d < a.tmps.size
    · simp [h2]
    · simp [h2]
  · simp [h1, Ne.symm h1]
theorem put_size (a : Act) (d : Option Nat) (v : Value) : (a.put d v).tmps.size = a.tmps.size := by cases d <;> simp [Act.put]
theorem put_defers (a : Act) (d : Option Nat) (v : Value) : (a.put d v).defers = a.defers := by cases d <;> rfl

theorem vsOf_put (h : regB l n = true) {a : Act} {i : Nat} {o : Oper} (hi : l[i]? = some o) (v : Value) {k : Nat} (hk : k ≠ i) : vsOf l (a.put o.dst v) k = vsOf l a k := by
  unfold vsOf
  cases hlk : l[k]? with
  | none => rfl
  | some o' =>
    cases hd' : o'.dst with
    | none => simp only [hd']
    | some d' =>
      cases hd : o.dst with
      | none => rfl
      | some d =>
        simp only [hd']
        rw [put_getD, if_neg]
        rintro ⟨rfl, _⟩
        exact hk (regB_ne h hlk hi hd' hd)
theorem vsOf_put_same {a : Act} {i : Nat} {o : Oper} (hi : l[i]? = some o) (v : Value) (hv : o.dst = none → v = undef) (hd : ∀ d, o.dst = some d → d < a.tmps.size) : vsOf l (a.put o.dst v) i = v := by
  unfold vsOf
  simp only [hi]
  cases hd' : o.dst with
  | none => exact (hv hd').symm
  | some d =>
    simp only
    rw [put_getD, if_pos ⟨rfl, hd d hd'⟩]

theorem putAll_size (l : List Oper) : ∀ (vs : Nat → Value) (i : Nat) (a : Act), (putAll l vs i a).tmps.size = a.tmps.size ∧ (putAll l vs i a).defers = a.defers := by
  induction l with
  | nil => intro vs i a; exact ⟨rfl, rfl⟩
  | cons o l ih => intro vs i a; rw [putAll]; obtain ⟨h1, h2⟩ := ih vs (i + 1) (a.put o.dst (vs i)); exact ⟨h1.trans (put_size ..), h2.trans (put_defers ..)⟩
theorem putAll_other (l : List Oper) (t : Nat) : ∀ (vs : Nat → Value) (i : Nat) (a : Act), (∀ (j : Nat) (o : Oper), l[j]? = some o → o.dst ≠ some t) → (putAll l vs i a).tmps.getD t undef = a.tmps.getD t undef := by
  induction l with
  | nil => intro vs i a _; rfl
  | cons o l ih =>
    intro vs i a h
    rw [putAll, ih vs (i + 1) _ (fun j o' hj => h (j + 1) o' (by simpa using hj))]
    cases hd : o.dst with
    | none => rfl
    | some d => rw [put_getD, if_neg]; rintro ⟨rfl, _⟩; exact h 0 o rfl hd
theorem putAll_at (l : List Oper) (t : Nat) : ∀ (vs : Nat → Value) (i : Nat) (a : Act) (j : Nat) (o : Oper), l[j]? = some o → o.dst = some t → t < a.tmps.size → (∀ (j' : Nat) (o' : Oper), j < j' → l[j']? = some o' → o'.dst ≠ some t) →
    (putAll l vs i a).tmps.getD t undef = vs (i + j) := by
  induction l with
  | nil => intro vs i a j o h; simp at h
  | cons x l ih =>
    intro vs i a j o hj hd ht hl
    rw [putAll]
    cases j with
    | zero =>
      simp at hj; subst hj
      rw [putAll_other l t vs (i + 1) _ (fun j' o' hj' => hl (j' + 1) o' (by omega) (by simpa using hj')), hd, put_getD, if_pos ⟨rfl, ht⟩]; rfl
    | succ j =>
      rw [ih vs (i + 1) _ j o (by simpa using hj) hd (by rw [put_size]; exact ht) (fun j' o' h1 h2 => hl (j' + 1) o' (by omega) (by simpa using h2))]
      congr 1; omega

def updB (d : Nat → Bool) (i : Nat) : Nat → Bool := fun k => if k = i then true else d k
def updV (vs : Nat → Value) (i : Nat) (v : Value) : Nat → Value := fun k => if k = i then v else vs k
theorem anc_listed {listed : Nat → Bool} (hcl : ∀ i o, l[i]? = some o → listed i = true → ∀ j, afterB o j = true → listed j = true) :
    ∀ (m i j : Nat), listed i = true → ancB l m i j = true → listed j = true
  | 0, _, _, _, h => by simp [ancB] at h
  | m + 1, i, j, hi, h => by
    unfold ancB at h
    rw [List.any_eq_true] at h
    obtain ⟨k, _, hk⟩ := h
    simp only [Bool.and_eq_true, Bool.or_eq_true, beq_iff_eq] at hk
    obtain ⟨h1, h2⟩ := hk
    have hlk : listed k = true := by
      unfold afterI at h1
      cases hl : l[i]? with
      | none => simp [hl] at h1
      | some o => simp only [hl] at h1; exact hcl i o hl hi k h1
    rcases h2 with rfl | h2
    · exact hlk
    · exact anc_listed hcl m k j hlk h2
end

section
variable {P : Program} {l : List Oper} {Q : Exit → Act → World → Prop} {a0 : Act}

/-- **A REGION WHOSE ORDER IS DRAWN.** R i v d w: what operation i leaves: its value v, by the values d of those that it waits for, in the world w. E j w w': what operation j does to the world. J: what holds of the world throughout, by which operations are done and what they have left. -/
theorem wp_region_extJ {id : Nat} {w0 : World} (hm : P.follows .mixedOrders = true) (hB : regB l a0.tmps.size = true)
    (J : (Nat → Bool) → (Nat → Value) → World → Prop) (E : Nat → World → World → Prop) (R : Nat → Value → (Nat → Value) → World → Prop) (hJ : ∀ vs, J (fun _ => false) vs w0.drew)
    (hR : ∀ i j, i ≠ j → ancB l l.length i j = false → ∀ v d w w', R i v d w → E j w w' → R i v d w')
    (hstep : ∀ i o, l[i]? = some o → ∀ (a : Act) (w : World) (vs : Nat → Value) (dn : Nat → Bool), a.defers = a0.defers → a.tmps.size = a0.tmps.size → (∀ m, dn m = true → i ≠ m ∧ ancB l l.length m i = false) → (∀ j, afterB o j = true → dn j = true) → J dn vs w → (∀ t, keepB l i t = true → a.tmps.getD t undef = a0.tmps.getD t undef) →
      (∀ j oj d, afterB o j = true → l[j]? = some oj → oj.dst = some d → a.tmps.getD d undef = vs j) → (∀ j oj, afterB o j = true → l[j]? = some oj → R j (vs j) (maskV oj vs) w) →
      if Region.wanted o (yielded l.toArray a.tmps) then o.wp P a w (fun a' w' => ∃ v, (o.dst = none → v = undef) ∧ a' = a.put o.dst v ∧ J (updB dn i) (updV vs i v) w' ∧ E i w w' ∧ R i v (maskV o vs) w') Q else J (updB dn i) (updV vs i undef) w ∧ E i w w ∧ R i undef (maskV o vs) w)
    (hend : ∀ (vs : Nat → Value) (dn : Nat → Bool) (w : World), (∀ i, i < l.length → dn i = true) → J dn vs w → (∀ i o, l[i]? = some o → R i (vs i) (maskV o vs) w) → Q .normal (putAll l vs 0 a0) w) :
    (Code.region id l.toArray true).wp P Q a0 w0 := by
  refine wp_region_any hm ?_
  have key : ∀ (fuel : Nat) (listed : Array Bool) (a : Act) (w : World), listed.size = l.length → (listed.toList.filter (!·)).length ≤ fuel → a.defers = a0.defers → a.tmps.size = a0.tmps.size → J (fun k => listed.getD k false) (vsOf l a) w →
      (∀ t, (∀ (i : Nat) (o : Oper), l[i]? = some o → listed.getD i false = true → o.dst ≠ some t) → a.tmps.getD t undef = a0.tmps.getD t undef) →
      (∀ i o, l[i]? = some o → listed.getD i false = true → R i (vsOf l a i) (maskV o (vsOf l a)) w) →
      (∀ i o, l[i]? = some o → listed.getD i false = true → ∀ j, afterB o j = true → listed.getD j false = true) →
      wpAny P .any l.toArray Q fuel listed a w := by
    -- nothing is ready: all have come up
    have fin : ∀ (listed : Array Bool) (a : Act) (w : World), listed.size = l.length → Region.ready .any l.toArray listed = [] → a.defers = a0.defers → a.tmps.size = a0.tmps.size → J (fun k => listed.getD k false) (vsOf l a) w →
        (∀ t, (∀ (i : Nat) (o : Oper), l[i]? = some o → listed.getD i false = true → o.dst ≠ some t) → a.tmps.getD t undef = a0.tmps.getD t undef) →
        (∀ (i : Nat) (o : Oper), l[i]? = some o → listed.getD i false = true → R i (vsOf l a i) (maskV o (vsOf l a)) w) → Q .normal a w := by
      intro listed a w hs hr hd hz hj hk hRR
      have hall : ∀ m i, i < m → i < l.length → listed.getD i false = true := by
        intro m
        induction m with
        | zero => intro i h; omega
        | succ m ih =>
          intro i him hil
          cases hli : listed.getD i false with
          | true => rfl
          | false =>
            exfalso
            have hmem : i ∈ Region.ready .any l.toArray listed := by
              rw [mem_ready]
              refine ⟨?_, l[i], by simp [hil], fun e he hb => ?_⟩
              · have : i < listed.size := by omega
                simp [this] at hli ⊢; exact hli
              · have := regB_after hB (i := i) (o := l[i]) (by simp [hil]) he hb
                exact ih e.on (by omega) (by omega)
            rw [hr] at hmem; cases hmem
      have hall' : ∀ i o, l[i]? = some o → listed.getD i false = true := fun i o hi => hall (i + 1) i (by omega) (List.getElem?_eq_some_iff.1 hi).1
      have ha : a = putAll l (vsOf l a) 0 a0 := by
        obtain ⟨p1, p2⟩ := putAll_size l (vsOf l a) 0 a0
        have ht : a.tmps = (putAll l (vsOf l a) 0 a0).tmps := by
          apply Array.ext (by rw [p1, hz])
          intro t h1 h2
          have e1 : a.tmps[t] = a.tmps.getD t undef := by simp [h1]
          have e2 : (putAll l (vsOf l a) 0 a0).tmps[t] = (putAll l (vsOf l a) 0 a0).tmps.getD t undef := by simp [h2]
          rw [e1, e2]
          by_cases hex : ∃ (i : Nat) (o : Oper), l[i]? = some o ∧ o.dst = some t
          · obtain ⟨i, o, hi, hdt⟩ := hex
            rw [putAll_at l t (vsOf l a) 0 a0 i o hi hdt (by omega) (fun j' o' hlt hj' hdj => by have := regB_ne hB hi hj' hdt hdj; omega), Nat.zero_add]
            simp only [vsOf, hi, hdt]
          · rw [putAll_other l t _ _ _ (fun j o hj hd => hex ⟨j, o, hj, hd⟩)]
            exact hk t (fun i o hi _ hd => hex ⟨i, o, hi, hd⟩)
        cases a with
        | mk tm df =>
          simp only at ht hd
          generalize putAll l (vsOf l ⟨tm, df⟩) 0 a0 = b at ht p2
          cases b
          simp only at ht p2
          subst ht; rw [hd, ← p2]
      rw [ha]
      exact hend _ _ _ (fun i hi => hall (i + 1) i (by omega) hi) hj (fun i o hi => hRR i o hi (hall' i o hi))
    intro fuel
    induction fuel with
    | zero =>
      intro listed a w hs hf hd hz hj hk hRR hcl
      have hr : Region.ready .any l.toArray listed = [] := by
        cases hr : Region.ready .any l.toArray listed with
        | nil => rfl
        | cons i _ =>
          exfalso
          have hi : i ∈ Region.ready .any l.toArray listed := by rw [hr]; exact List.mem_cons_self ..
          obtain ⟨h0, o, ho, _⟩ := mem_ready.1 hi
          have hlt : i < listed.size := by
            rcases Nat.lt_or_ge i listed.size with h | h
            · exact h
            · simp [Array.getElem?_eq_none h] at h0
          have : false ∈ listed.toList := by
            simp [hlt] at h0
            rw [← h0]; simp
          have h1 : false ∈ listed.toList.filter (!·) := by simp [this]
          have := List.length_pos_of_mem h1
          omega
      exact ⟨hr, fin listed a w hs hr hd hz hj hk hRR⟩
    | succ fuel ih =>
      intro listed a w hs hf hd hz hj hk hRR hcl
      refine ⟨fun hr => fin listed a w hs hr hd hz hj hk hRR, fun i hi => ?_⟩
      obtain ⟨h0, o, ho, hpre⟩ := mem_ready.1 hi
      have hlt : i < listed.size := by
        rcases Nat.lt_or_ge i listed.size with h | h
        · exact h
        · simp [Array.getElem?_eq_none h] at h0
      have hio : l[i]? = some o := by simpa using ho
      have hi0 : listed.getD i false = false := by simp [hlt] at h0 ⊢; exact h0
      have hpre' : ∀ j, afterB o j = true → listed.getD j false = true := by
        intro j hja
        unfold afterB at hja
        rw [List.any_eq_true] at hja
        obtain ⟨e, he, hh⟩ := hja
        simp only [Bool.and_eq_true, beq_iff_eq] at hh
        rw [← hh.2]; exact hpre e (Array.mem_toList_iff.1 he) hh.1
      have hnew : ∀ k, (listed.setIfInBounds i true).getD k false = true ↔ (k = i ∨ listed.getD k false = true) := by
        intro k
        by_cases hki : k = i
        · subst hki; simp [hlt]
        · rw [getD_set_ne false (Ne.symm hki)]; simp [hki]
      have hcnt : ((listed.setIfInBounds i true).toList.filter (!·)).length ≤ fuel := by
        have : ∀ (L : List Bool) (i : Nat), L[i]? = some false → (L.filter (!·)).length = ((L.set i true).filter (!·)).length + 1 := by
          intro L
          induction L with
          | nil => intro i h; simp at h
          | cons b L ihL =>
            intro i h
            cases i with
            | zero => simp at h; subst h; simp
            | succ i =>
              simp at h
              have := ihL i h
              cases b <;> simp_all
        have h1 := this listed.toList i (by simp [hlt] at hi0; simp [hlt, hi0])
        rw [Array.toList_setIfInBounds]
        omega
      have cont : ∀ (v : Value) (w' : World), (o.dst = none → v = undef) → J (updB (fun k => listed.getD k false) i) (updV (vsOf l a) i v) w' → E i w w' → R i v (maskV o (vsOf l a)) w' →
          wpAny P .any l.toArray Q fuel (listed.setIfInBounds i true) (a.put o.dst v) w' := by
        intro v w' hv hj' he hr
        have hvk : ∀ k, k ≠ i → vsOf l (a.put o.dst v) k = vsOf l a k := fun k hk => vsOf_put hB hio v hk
        have hvi : vsOf l (a.put o.dst v) i = v := vsOf_put_same hio v hv (fun d hdd => by rw [hz]; exact (regB_dst hB hio hdd).1)
        refine ih _ _ _ (by simpa using hs) hcnt ((put_defers ..).trans hd) ((put_size ..).trans hz) (by
          have e1 : (fun k => (listed.setIfInBounds i true).getD k false) = updB (fun k => listed.getD k false) i := by
            funext k
            unfold updB
            by_cases hki : k = i
            · rw [if_pos hki]; exact (hnew k).2 (.inl hki)
            · rw [if_neg hki, getD_set_ne false (Ne.symm hki)]
          have e2 : vsOf l (a.put o.dst v) = updV (vsOf l a) i v := by
            funext k
            unfold updV
            by_cases hki : k = i
            · rw [if_pos hki, hki]; exact hvi
            · rw [if_neg hki]; exact hvk k hki
          rw [e1, e2]; exact hj') ?_ ?_ ?_
        · intro t ht
          have h1 : o.dst ≠ some t := ht i o hio ((hnew i).2 (.inl rfl))
          rw [← hk t (fun k ok hkk hlk => ht k ok hkk ((hnew k).2 (.inr hlk)))]
          cases hd' : o.dst with
          | none => rfl
          | some d => rw [put_getD, if_neg]; rintro ⟨rfl, _⟩; exact h1 hd'
        · intro k ok hkk hlk
          by_cases hki : k = i
          · subst hki
            rw [hio] at hkk; obtain rfl := Option.some.inj hkk
            have hmask : maskV o (vsOf l (a.put o.dst v)) = maskV o (vsOf l a) := by
              funext j
              unfold maskV
              by_cases hja : afterB o j = true
              · rw [if_pos hja, if_pos hja, hvk j (by have := afterB_lt hB hio hja; omega)]
              · rw [if_neg hja, if_neg hja]
            rw [hvi, hmask]; exact hr
          · have hlk' : listed.getD k false = true := ((hnew k).1 hlk).resolve_left hki
            have hmask : maskV ok (vsOf l (a.put o.dst v)) = maskV ok (vsOf l a) := by
              funext j
              unfold maskV
              by_cases hja : afterB ok j = true
              · have hlj := hcl k ok hkk hlk' j hja
                rw [if_pos hja, if_pos hja, hvk j (by rintro rfl; rw [hi0] at hlj; cases hlj)]
              · rw [if_neg hja, if_neg hja]
            rw [hvk k hki, hmask]
            refine hR k i hki ?_ _ _ w w' (hRR k ok hkk hlk') he
            cases hanc : ancB l l.length k i with
            | false => rfl
            | true =>
              have := anc_listed (listed := fun i => listed.getD i false) hcl l.length k i hlk' hanc
              rw [show listed.getD i false = true from this] at hi0; cases hi0
        · intro k ok hkk hlk j hja
          rw [hnew]
          by_cases hki : k = i
          · subst hki
            rw [hio] at hkk; obtain rfl := Option.some.inj hkk
            exact .inr (hpre' j hja)
          · exact .inr (hcl k ok hkk (((hnew k).1 hlk).resolve_left hki) j hja)
      have hst := hstep i o hio a w (vsOf l a) (fun k => listed.getD k false) hd hz (fun m hm => ⟨(by rintro rfl; rw [hi0] at hm; cases hm), by
          cases hanc : ancB l l.length m i with
          | false => rfl
          | true =>
            have := anc_listed (listed := fun i => listed.getD i false) hcl l.length m i hm hanc
            rw [show listed.getD i false = true from this] at hi0; cases hi0⟩) hpre' hj
        (fun t ht => hk t (fun k ok hkk hlk hdk => by
          unfold keepB at ht
          rw [List.all_eq_true] at ht
          have h1 := ht k (by simpa using (List.getElem?_eq_some_iff.1 hkk).1)
          simp only [hkk, Bool.or_eq_true, bne_iff_ne, ne_eq, beq_iff_eq] at h1
          rcases h1 with (h1 | h1) | h1
          · exact h1 hdk
          · subst h1; rw [hi0] at hlk; cases hlk
          · have := hcl k ok hkk hlk i h1
            rw [hi0] at this; cases this))
        (fun j oj d _ hjl hdj => by simp only [vsOf, hjl, hdj])
        (fun j oj hja hjl => hRR j oj hjl (hpre' j hja))
      unfold wpOp
      simp only [ho]
      by_cases hw : Region.wanted o (yielded l.toArray a.tmps) = true
      · rw [if_pos hw] at hst ⊢
        exact .inl (Oper.wp_mono (fun a' w' ⟨v, h1, h2, h3, h4, h5⟩ => by subst h2; exact cont v w' h1 h3 h4 h5) hst)
      · rw [if_neg hw] at hst ⊢
        exact cont undef w (fun _ => rfl) hst.1 hst.2.1 hst.2.2
  have h00 : ∀ k, (Array.replicate l.toArray.size false).getD k false = false := fun k => by
    by_cases h : k < l.length <;> simp [h]
  refine key l.toArray.size (Array.replicate l.toArray.size false) a0 _ (by simp) ?_ rfl rfl (by rw [show (fun k => (Array.replicate l.toArray.size false).getD k false) = fun _ => false from funext h00]; exact hJ _) (fun _ _ => rfl) ?_ ?_
  · refine Nat.le_trans (List.length_filter_le _ _) ?_
    simp
  · intro i o hi hl
    have h0 : (Array.replicate l.toArray.size false).getD i false = false := by
      by_cases h : i < l.length <;> simp [h]
    rw [h0] at hl; cases hl
  · intro i o hi hl
    have h0 : (Array.replicate l.toArray.size false).getD i false = false := by
      by_cases h : i < l.length <;> simp [h]
    rw [h0] at hl; cases hl

theorem wp_region_extM {id : Nat} {w0 : World} (hm : P.follows .mixedOrders = true) (hB : regB l a0.tmps.size = true)
    (m : Nat) (J : Bool → World → Prop) (E : Nat → World → World → Prop) (R : Nat → Value → (Nat → Value) → World → Prop) (hJ : J false w0.drew)
    (hR : ∀ i j, i ≠ j → ancB l l.length i j = false → ∀ v d w w', R i v d w → E j w w' → R i v d w')
    (hstep : ∀ i o, l[i]? = some o → ∀ (a : Act) (w : World) (vs : Nat → Value) (b : Bool), a.defers = a0.defers → a.tmps.size = a0.tmps.size → (b = true → i ≠ m ∧ ancB l l.length m i = false) → J b w → (∀ t, keepB l i t = true → a.tmps.getD t undef = a0.tmps.getD t undef) →
      (∀ j oj d, afterB o j = true → l[j]? = some oj → oj.dst = some d → a.tmps.getD d undef = vs j) → (∀ j oj, afterB o j = true → l[j]? = some oj → R j (vs j) (maskV oj vs) w) →
      if Region.wanted o (yielded l.toArray a.tmps) then o.wp P a w (fun a' w' => ∃ v, (o.dst = none → v = undef) ∧ a' = a.put o.dst v ∧ J (b || i == m) w' ∧ E i w w' ∧ R i v (maskV o vs) w') Q else J (b || i == m) w ∧ E i w w ∧ R i undef (maskV o vs) w)
    (hend : ∀ (vs : Nat → Value) (w : World), (m < l.length → J true w) → (∀ i o, l[i]? = some o → R i (vs i) (maskV o vs) w) → Q .normal (putAll l vs 0 a0) w) :
    (Code.region id l.toArray true).wp P Q a0 w0 := by
  refine wp_region_extJ hm hB (fun dn _ w => J (dn m) w) E R (fun _ => hJ) hR ?_ (fun vs dn w h1 h2 h3 => hend vs w (fun hl => by have := h1 m hl; simp only [this] at h2; exact h2) h3)
  intro i o hi a w vs dn h1 h2 h3 _ h5 h6 h7 h8
  have e : ∀ i, updB dn i m = (dn m || i == m) := fun i => by
    unfold updB
    by_cases h : m = i
    · subst h; simp
    · rw [if_neg h, show (i == m) = false from by rw [beq_eq_false_iff_ne]; exact Ne.symm h]; simp
  simp only [e]
  exact hstep i o hi a w vs (dn m) h1 h2 (h3 m) h5 h6 h7 h8

theorem wp_region_ext {id : Nat} {w0 : World} (hm : P.follows .mixedOrders = true) (hB : regB l a0.tmps.size = true)
    (J : World → Prop) (E : Nat → World → World → Prop) (R : Nat → Value → (Nat → Value) → World → Prop) (hJ : J w0.drew)
    (hR : ∀ i j, i ≠ j → ancB l l.length i j = false → ∀ v d w w', R i v d w → J w → E j w w' → R i v d w')
    (hstep : ∀ i o, l[i]? = some o → ∀ (a : Act) (w : World) (vs : Nat → Value), a.defers = a0.defers → a.tmps.size = a0.tmps.size → J w → (∀ t, keepB l i t = true → a.tmps.getD t undef = a0.tmps.getD t undef) →
      (∀ j oj d, afterB o j = true → l[j]? = some oj → oj.dst = some d → a.tmps.getD d undef = vs j) → (∀ j oj, afterB o j = true → l[j]? = some oj → R j (vs j) (maskV oj vs) w) →
      if Region.wanted o (yielded l.toArray a.tmps) then o.wp P a w (fun a' w' => ∃ v, (o.dst = none → v = undef) ∧ a' = a.put o.dst v ∧ J w' ∧ E i w w' ∧ R i v (maskV o vs) w') Q else E i w w ∧ R i undef (maskV o vs) w)
    (hend : ∀ (vs : Nat → Value) (w : World), J w → (∀ i o, l[i]? = some o → R i (vs i) (maskV o vs) w) → Q .normal (putAll l vs 0 a0) w) :
    (Code.region id l.toArray true).wp P Q a0 w0 := by
  refine wp_region_extJ hm hB (fun _ _ => J) (fun j w w' => J w ∧ E j w w') R (fun _ => hJ) (fun i j h1 h2 v d w w' h3 h4 => hR i j h1 h2 v d w w' h3 h4.1 h4.2) ?_ (fun vs dn w _ h2 h3 => hend vs w h2 h3)
  intro i o hi a w vs b h1 h2 _ _ h4 h5 h6 h7
  have := hstep i o hi a w vs h1 h2 h4 h5 h6 h7
  split at this
  · rename_i hw; rw [if_pos hw]; exact Oper.wp_mono (fun a' w' ⟨v, x1, x2, x3, x4, x5⟩ => ⟨v, x1, x2, x3, ⟨h4, x4⟩, x5⟩) this
  · rename_i hw; rw [if_neg hw]; exact ⟨h4, ⟨h4, this.1⟩, this.2⟩
end
end Go.Proofs.YtogobjmmgjfjjaaGreat
/- What is proved: the rule for a region whose order is drawn, operation by operation. Conditions: those that the rule states. -/
namespace Go.Proofs.YtogobjmmgjfjjaaGreat
open Go.RowKit

/-- What is owed for operation i, o: from a frame that holds what it waits for, it leaves what R says. -/
def StepOk (P : Program) (l : List Oper) (Q : Exit → Act → World → Prop) (a0 : Act) (J : World → Prop) (E : Nat → World → World → Prop) (R : Nat → Value → (Nat → Value) → World → Prop) (i : Nat) (o : Oper) : Prop :=
  ∀ (a : Act) (w : World) (vs : Nat → Value) (K : Act → World → Prop), J w → (∀ t, keepB l i t = true → a.tmps[t]?.getD undef = a0.tmps[t]?.getD undef) →
    (∀ j oj d, l[j]? = some oj → oj.dst = some d → afterB o j = true → a.tmps[d]?.getD undef = vs j ∧ R j (vs j) (maskV oj vs) w) →
    (∀ j oj, l[j]? = some oj → afterB o j = true → R j (vs j) (maskV oj vs) w) →
    (∀ v w', (o.dst = none → v = undef) → J w' → E i w w' → R i v (maskV o vs) w' → K (a.put o.dst v) w') →
    if Region.wanted o (yielded l.toArray a.tmps) then o.wp P a w K Q else K (a.put o.dst undef) w
def StepsOk (P : Program) (l : List Oper) (Q : Exit → Act → World → Prop) (a0 : Act) (J : World → Prop) (E : Nat → World → World → Prop) (R : Nat → Value → (Nat → Value) → World → Prop) : List Oper → Nat → Prop
  | [], _ => True
  | o :: rest, i => StepOk P l Q a0 J E R i o ∧ StepsOk P l Q a0 J E R rest (i + 1)

theorem StepsOk.at {P : Program} {l : List Oper} {Q : Exit → Act → World → Prop} {a0 : Act} {J : World → Prop} {E : Nat → World → World → Prop} {R : Nat → Value → (Nat → Value) → World → Prop} :
    ∀ (r : List Oper) (k : Nat), StepsOk P l Q a0 J E R r k → ∀ i o, r[i]? = some o → StepOk P l Q a0 J E R (k + i) o
  | [], _, _, i, o, h => by simp at h
  | x :: r, k, hs, 0, o, h => by simp at h; subst h; exact hs.1
  | x :: r, k, hs, i + 1, o, h => by
    have := StepsOk.at r (k + 1) hs.2 i o (by simpa using h)
    rwa [show k + (i + 1) = k + 1 + i from by omega]

theorem wp_region_steps {P : Program} {l : List Oper} {Q : Exit → Act → World → Prop} {a0 : Act} {id : Nat} {w0 : World} (hm : P.follows .mixedOrders = true) (hB : regB l a0.tmps.size = true)
    (J : World → Prop) (E : Nat → World → World → Prop) (R : Nat → Value → (Nat → Value) → World → Prop) (hJ : J w0.drew)
    (hR : ∀ i j, i ≠ j → ancB l l.length i j = false → ∀ v d w w', R i v d w → J w → E j w w' → R i v d w')
    (hs : StepsOk P l Q a0 J E R l 0)
    (hend : ∀ (vs : Nat → Value) (w : World), J w → (∀ i o, l[i]? = some o → R i (vs i) (maskV o vs) w) → Q .normal (putAll l vs 0 a0) w) :
    (Code.region id l.toArray true).wp P Q a0 w0 := by
  refine wp_region_ext hm hB J E R hJ hR ?_ hend
  intro i o hi a w vs _ hz hj hk hv hr
  have h := StepsOk.at l 0 hs i o hi
  rw [Nat.zero_add] at h
  have h1 := fun K hK => h a w vs K hj (fun t ht => by have := hk t ht; simpa using this) (fun j oj d h1 h2 h3 => ⟨by have := hv j oj d h3 h1 h2; simpa using this, hr j oj h3 h1⟩) (fun j oj h1 h3 => hr j oj h3 h1) hK
  have h2 := h1 (fun a' w' => ∃ v, (o.dst = none → v = undef) ∧ a' = a.put o.dst v ∧ J w' ∧ E i w w' ∧ R i v (maskV o vs) w') (fun v w' x1 x2 x3 x4 => ⟨v, x1, rfl, x2, x3, x4⟩)
  by_cases hw : Region.wanted o (yielded l.toArray a.tmps) = true
  · rw [if_pos hw] at h2 ⊢
    exact h2
  · rw [if_neg hw] at h2 ⊢
    obtain ⟨v, x1, x2, _, x3, x4⟩ := h2
    have hv' : v = undef := by
      cases hd : o.dst with
      | none => exact x1 hd
      | some d =>
        rw [hd] at x2
        have hlt := (regB_dst hB hi hd).1
        have := congrArg (fun b : Act => b.tmps.getD d undef) x2
        rw [put_getD, put_getD, if_pos ⟨rfl, by omega⟩, if_pos ⟨rfl, by omega⟩] at this
        exact this.symm
    subst hv'
    exact ⟨x3, x4⟩

theorem getD_bool {x : Option Value} {b : Bool} (h : x.getD undef = .bool b) : x = some (.bool b) := by
  cases x with
  | none => simp [undef] at h
  | some v => simp at h; rw [h]
theorem wanted_yes {l : List Oper} {a : Act} {o : Oper} (j : Nat) (want : Bool) (hg : o.guard = some (j, want)) {oj : Oper} {d : Nat} (hj : l[j]? = some oj) (hd : oj.dst = some d) (hv : a.tmps[d]?.getD undef = .bool want) :
    Region.wanted o (yielded l.toArray a.tmps) = true := by
  simp [Region.wanted, hg, yielded, hj, hd, getD_bool hv]
theorem wanted_no {l : List Oper} {a : Act} {o : Oper} (j : Nat) (want : Bool) (hg : o.guard = some (j, want)) {oj : Oper} {d : Nat} (hj : l[j]? = some oj) (hd : oj.dst = some d) (hv : a.tmps[d]?.getD undef = .bool (!want)) :
    ¬ Region.wanted o (yielded l.toArray a.tmps) = true := by
  cases want <;> simp [Region.wanted, hg, yielded, hj, hd, getD_bool hv]

/-! Operations, one by one: each law asks what its operands hold. -/
section
variable {P : Program} {o : Oper} {a : Act} {w : World} {K : Act → World → Prop} {Q : Exit → Act → World → Prop}
theorem wpo_move (x : Operand) (v : Value) (ho : o.op = .move x ∨ o.op = .assign x) (hx : a.eval x = v) (h : K (a.put o.dst v) w) : o.wp P a w K Q := by
  unfold Oper.wp execOp
  rcases ho with ho | ho <;> simp only [ho, hx, Sem.run_pure] <;> exact h
theorem wpo_loadS (ty : TypeId) (x : Operand) (ho : o.op = .load ty x)
    (g off : Nat) (hx : a.eval x = .pointer (some ⟨g, off, none⟩)) (S : Array Value) (d : TypeDesc) (hc : ∀ j u, S[j]? = some u → w.cell? ⟨g, off + j, none⟩ = some u)
    (hu : P.underlying ty = some d) (hd : (match d with | .struct _ | .array _ _ => true | _ => false) = true) (hi : (P.info? ty).map (·.size) = some S.size)
    (h : K (a.put o.dst (.agg S)) w) : o.wp P a w K Q := by
  unfold Oper.wp execOp
  simp only [ho, hx, Instr.loadAt, Instr.sureAddr, Sem.run_bind, Sem.run_pure, Result.andThen_ok, run_loadVar_at w g off ty S d hc hu hd hi]
  exact h
theorem wpo_storeS (ty : TypeId) (x y : Operand) (ho : o.op = .store ty x y) (hdst : o.dst = none)
    (g off : Nat) (hx : a.eval x = .pointer (some ⟨g, off, none⟩)) (S : Array Value) (hy : a.eval y = .agg S) (t : TypeId) (cs : Array Value) (hb : Bk w g t cs)
    (hl : off + S.size ≤ cs.size) (h1 : ∀ u ∈ S.toList, u.oneCell' = true) (hi : (P.info? ty).map (·.size) = some S.size)
    (h : ∀ w', Bk w' g t (splA cs off S.toList) → Only g w w' → K (a.put o.dst undef) w') : o.wp P a w K Q := by
  obtain ⟨w', r1, r2, r3⟩ := run_storeVar_at (P := P) w g off t ty cs S hb hl h1 hi
  unfold Oper.wp execOp
  simp only [ho, hx, hy, Instr.storeAt, Instr.sureAddr, Sem.run_bind, Sem.run_pure, Result.andThen_ok, r1]
  have := h w' r2 r3
  simpa [Oper.upon, hdst, Act.put] using this
theorem wpo_call (f : Nat) (xs : Array Operand) (ts : Array TypeId) (ho : o.op = .call { callee := .value (.func f), args := xs, argTypes := ts }) (vs : Array Value) (hx : xs.map a.eval = vs)
    (eg : ∀ args w, (callFunc f args).run P w = .ok (.enter f args) w) (h : Calls P f vs w fun e w' => ∃ v, e = .returned v ∧ K (a.put o.dst v) w') : o.wp P a w K Q := by
  unfold Oper.wp execOp
  simp only [ho, resolve, hx, Act.eval, Deferred.ofValue, Sem.run_bind, Sem.run_pure, Result.andThen_ok, invoke]
  simp [eg, Oper.upon]
  refine h.mono ?_
  rintro e w' ⟨v, rfl, hk⟩
  exact hk
end
end Go.Proofs.YtogobjmmgjfjjaaGreat
/- What is proved: contracts of engine.safe and its closures. Conditions: the plant lies in memory as the plain data say; its literals name valves. -/
namespace Go.Proofs.YtogobjmmgjfjjaaGreat
open Go.RowKit

theorem und_plant : Tryz.prog.underlying 27 = some (.struct (match Tryz.prog.underlying 27 with | some (.struct f) => f | _ => #[])) := by kernel_rfl
theorem info_plant : (Tryz.prog.info? 27).map (·.size) = some 4 := by kernel_rfl
def plantA (x : PV) (p : PlantD) : Array Value := #[.slice x.tA p.tanks.length x.tc, .slice x.vA p.valves.length x.vc, .slice x.lA p.lines.length x.lc, .slice x.nA p.never.length x.nc]
theorem und_lit : Tryz.prog.underlying 79 = some (.struct (match Tryz.prog.underlying 79 with | some (.struct f) => f | _ => #[])) := by kernel_rfl
theorem info_lit : (Tryz.prog.info? 79).map (·.size) = some 2 := by kernel_rfl

def PlacesOk (s : Spots) : Prop := ∀ i, -128 ≤ (s i).place ∧ (s i).place ≤ 127

set_option maxRecDepth 100000 in
set_option maxHeartbeats 1000000 in
theorem may_any (w : World) (x : PV) (p : PlantD) (h : PlantAt w w.heap.size x p) (s : Spots) (hs : PlacesOk s) (v : Nat) (o : Bool) (hv : v < p.valves.length) (h12 : v < 12)
    (sb pb : Nat) (hsb : Bk w sb 105 (spotsA s)) (hpb : Bk w pb 27 (plantA x p)) :
    Calls Tryz.prog 135 #[.agg #[.int .i64 v, .bool o], .pointer (some ⟨sb, 0, none⟩), .pointer (some ⟨pb, 0, none⟩)] w
      fun e w' => e = .returned (.bool (mayB p s ⟨v, o⟩)) ∧ Below w.heap.size w w' := by
  have hvi : (v : Int) < (p.valves.length : Int) := by omega
  have h12i : (v : Int) < (12 : Int) := by omega
  have h0i : (0 : Int) ≤ (v : Int) := by omega
  have g := spots_get s v h12
  have hsl := hsb.lt
  have hpl := hpb.lt
  have hsl1 : sb < w.heap.size + 1 := by omega
  have e0 := (hsb.cell (v * 2 + 1)).trans g.2
  have hb0 : ∀ ob, Below w.heap.size w (w.alloc ob) := fun ob => (Below.refl _ _).alloc (Nat.le_refl _) _
  cases hb : ((s v).opn == o) with
  | true =>
    have Hf : Hid (mayB p s ⟨v, o⟩ = true) := Lib.hid (by unfold mayB; simp [hb])
    clear hsb hpb
    go_enter Tryz.func135, Tryz.ntmps135
    go_wp2
    go_quiet (fail)
    go_wp2
    go_ret
    exact ⟨ret_bool (by rw [Hf.out]), below_drewN (hb0 _) _⟩
  | false =>
    have Hf : Hid (mayB p s ⟨v, o⟩ = holdsB p s ⟨v, o⟩) := Lib.hid (by unfold mayB; simp [hb])
    go_enter Tryz.func135, Tryz.ntmps135
    go_wp2
    obtain ⟨W, hW⟩ : ∃ W, W = w.alloc (.cells #[.int .i64 v, .bool o] 79) := ⟨_, rfl⟩
    have hWs : W.heap.size = w.heap.size + 1 := by rw [hW]; simp
    have hbW : Below w.heap.size w W := by rw [hW]; exact hb0 _
    have hlb : Bk W w.heap.size 79 #[.int .i64 v, .bool o] := by rw [hW]; exact Bk.new _ _ _
    rw [← hW]
    clear hW
    have HH := Lib.hid fun (w1 : World) (hw1 : Below W.heap.size W w1) => holds_any w1 x p ((h.below (hbW.trans (hw1.mono (by omega)))).mono (by have := hw1.size; omega)) s v o hv h12 hs
    refine wp_region_steps (by kernel_rfl) (by kernel_rfl) (fun w1 => Below W.heap.size W w1) (fun _ _ _ => True)
      (fun i u _ _ => match i with
        | 0 => u = .pointer (some ⟨w.heap.size, 0, none⟩)
        | 1 => u = .int .i64 v
        | 2 => u = .pointer (some ⟨sb, v * 2, none⟩)
        | 3 => u = .pointer (some ⟨sb, v * 2 + 1, none⟩)
        | 4 => u = .bool (s v).opn
        | 5 => u = .pointer (some ⟨w.heap.size, 1, none⟩)
        | 6 => u = .bool o
        | 7 => u = .bool false
        | 8 => u = .bool false
        | 9 => u = .agg (plantA x p)
        | 10 => u = .agg (spotsA s)
        | 11 => u = .agg #[.int .i64 v, .bool o]
        | _ => u = .bool (holdsB p s ⟨v, o⟩)) (Below.refl _ _).drew (fun _ _ _ _ _ _ _ _ h _ _ => h) ?_ ?_
    · have HC := Lib.hid fun (w1 : World) (hw1 : Below W.heap.size W w1) => (⟨(hw1.cell (p := ⟨w.heap.size, 0, none⟩) hlb.lt).trans (hlb.cell 0), (hw1.cell (p := ⟨w.heap.size, 1, none⟩) hlb.lt).trans (hlb.cell 1), (hw1.cell (p := ⟨sb, v * 2 + 1, none⟩) (by simp; omega)).trans ((hbW.cell (p := ⟨sb, v * 2 + 1, none⟩) hsl).trans e0)⟩ : _ ∧ _ ∧ _)
      have HP := Lib.hid fun (w1 : World) (hw1 : Below W.heap.size W w1) => (⟨(hpb.below hbW hpl).below hw1 (by omega), (hsb.below hbW hsl).below hw1 (by omega), hlb.below hw1 hlb.lt⟩ : _ ∧ _ ∧ _)
      have hbb := Lib.hid hb
      clear hb hsb hpb hlb e0 g h hs
      refine ⟨?_, ?_, ?_, ?_, ?_, ?_, ?_, ?_, ?_, ?_, ?_, ?_, ?_, ?_, ?_, trivial⟩
      · intro a w vs K HJ HK HD HN k; have k3 := HK 3 (by decide); go_simp; exact k _ _ (by simp) HJ trivial rfl
      · intro a w vs K HJ HK HD HN k; have e0 := (HD 0 _ 5 rfl rfl rfl).1.trans (HD 0 _ 5 rfl rfl rfl).2; have c := (HC.out w HJ).1; go_simp; exact k _ _ (by simp) HJ trivial rfl
      · intro a w vs K HJ HK HD HN k; have k1 := HK 1 (by decide); have e1 := (HD 1 _ 6 rfl rfl rfl).1.trans (HD 1 _ 6 rfl rfl rfl).2; go_simp; exact k _ _ (by simp) HJ trivial rfl
      · intro a w vs K HJ HK HD HN k; have e2 := (HD 2 _ 7 rfl rfl rfl).1.trans (HD 2 _ 7 rfl rfl rfl).2; go_simp; exact k _ _ (by simp) HJ trivial rfl
      · intro a w vs K HJ HK HD HN k; have e3 := (HD 3 _ 8 rfl rfl rfl).1.trans (HD 3 _ 8 rfl rfl rfl).2; have c := (HC.out w HJ).2.2; go_simp; exact k _ _ (by simp) HJ trivial rfl
      · intro a w vs K HJ HK HD HN k; have k3 := HK 3 (by decide); go_simp; exact k _ _ (by simp) HJ trivial rfl
      · intro a w vs K HJ HK HD HN k; have e5 := (HD 5 _ 10 rfl rfl rfl).1.trans (HD 5 _ 10 rfl rfl rfl).2; have c := (HC.out w HJ).2.1; go_simp; exact k _ _ (by simp) HJ trivial rfl
      · intro a w vs K HJ HK HD HN k; have e4 := (HD 4 _ 9 rfl rfl rfl).1.trans (HD 4 _ 9 rfl rfl rfl).2; have e6 := (HD 6 _ 11 rfl rfl rfl).1.trans (HD 6 _ 11 rfl rfl rfl).2; go_simp; exact k _ _ (by simp) HJ trivial (by show Value.bool ((s v).opn == o) = _; rw [hbb.out])
      · intro a w vs K HJ HK HD HN k; have e7 := (HD 7 _ 12 rfl rfl rfl).1.trans (HD 7 _ 12 rfl rfl rfl).2; go_simp; exact k _ _ (by simp) HJ trivial rfl
      · intro a w vs K HJ HK HD HN k; have k2 := HK 2 (by decide); have g8 := (HD 8 _ 13 rfl rfl rfl).1.trans (HD 8 _ 13 rfl rfl rfl).2; rw [if_pos (wanted_yes 8 false rfl rfl rfl g8)]
        exact wpo_loadS 27 (.tmp 2) rfl pb 0 (by simpa [Act.eval] using k2) (plantA x p) _ (fun j u hj => by rw [(HP.out w HJ).1.cell]; simpa using hj) und_plant rfl info_plant (k _ _ (by simp) HJ trivial rfl)
      · intro a w vs K HJ HK HD HN k; have k1 := HK 1 (by decide); have g8 := (HD 8 _ 13 rfl rfl rfl).1.trans (HD 8 _ 13 rfl rfl rfl).2; rw [if_pos (wanted_yes 8 false rfl rfl rfl g8)]
        exact wpo_loadS 105 (.tmp 1) rfl sb 0 (by simpa [Act.eval] using k1) (spotsA s) _ (fun j u hj => by rw [(HP.out w HJ).2.1.cell]; simpa using hj) und_spots rfl (info_spots_s _) (k _ _ (by simp) HJ trivial rfl)
      · intro a w vs K HJ HK HD HN k; have k3 := HK 3 (by decide); have g8 := (HD 8 _ 13 rfl rfl rfl).1.trans (HD 8 _ 13 rfl rfl rfl).2; rw [if_pos (wanted_yes 8 false rfl rfl rfl g8)]
        exact wpo_loadS 79 (.tmp 3) rfl _ 0 (by simpa [Act.eval] using k3) #[.int .i64 v, .bool o] _ (fun j u hj => by rw [(HP.out w HJ).2.2.cell]; simpa using hj) und_lit rfl info_lit (k _ _ (by simp) HJ trivial rfl)
      · intro a w vs K HJ HK HD HN k
        have e9 := (HD 9 _ 14 rfl rfl rfl).1.trans (HD 9 _ 14 rfl rfl rfl).2; have e10 := (HD 10 _ 15 rfl rfl rfl).1.trans (HD 10 _ 15 rfl rfl rfl).2; have e11 := (HD 11 _ 16 rfl rfl rfl).1.trans (HD 11 _ 16 rfl rfl rfl).2; have g8 := (HD 8 _ 13 rfl rfl rfl).1.trans (HD 8 _ 13 rfl rfl rfl).2; rw [if_pos (wanted_yes 8 false rfl rfl rfl g8)]
        exact wpo_call 87 _ _ rfl #[.agg (plantA x p), .agg (spotsA s), .agg #[.int .i64 v, .bool o]] (by simp [Act.eval, e9, e10, e11]) (fun args w => by kernel_rfl)
          ((HH.out w HJ).mono fun e w' ⟨he, hb⟩ => ⟨_, he, k _ _ (by simp) (HJ.trans (hb.mono HJ.size)) trivial rfl⟩)
      · intro a w vs K HJ HK HD HN k
        have e8 := (HD 8 _ 13 rfl rfl rfl).1.trans (HD 8 _ 13 rfl rfl rfl).2; have e12 := (HD 12 _ 17 rfl rfl rfl).1.trans (HD 12 _ 17 rfl rfl rfl).2; go_simp; exact k _ _ (by simp) HJ trivial rfl
      · intro a w vs K HJ HK HD HN k
        have e13 := (HD 13 _ 18 rfl rfl rfl).1.trans (HD 13 _ 18 rfl rfl rfl).2; go_simp; exact k _ _ (by simp) HJ trivial rfl
    · intro vs w1 hw1 hr
      have h14 : vs 14 = _ := hr 14 _ rfl
      clear hr HH hsb hpb
      simp only [putAll, Act.put, h14]
      go_simp
      go_wp2
      go_ret
      exact ⟨ret_bool (by rw [Hf.out]), hbW.trans (hw1.mono (by omega))⟩
end Go.Proofs.YtogobjmmgjfjjaaGreat
/- What is proved: contracts of engine.safe and engine.CheckPlant. Conditions: the plant lies in memory as the plain data say. -/
namespace Go.Proofs.YtogobjmmgjfjjaaGreat
open Go.RowKit

def NeverOk (p : PlantD) : Prop := ∀ i, i < p.never.length → ∀ k, k < (p.nev i).length → 0 ≤ ((p.nev i).getD k lit0).valve ∧ ((p.nev i).getD k lit0).valve < p.valves.length

set_option maxHeartbeats 1000000 in
theorem notSafeSet_any (w : World) (x : PV) (p : PlantD) (h : PlantAt w w.heap.size x p) (s : Spots) (hs : PlacesOk s) (hv12 : p.valves.length ≤ 12) (hN : NeverOk p) (i : Nat) (hi : i < p.never.length)
    (mb sb pb : Nat) (hmb : Bk w mb 166 #[.func (.func 135) #[] #[.pointer (some ⟨sb, 0, none⟩), .pointer (some ⟨pb, 0, none⟩)]])
    (hsb : Bk w sb 105 (spotsA s)) (hpb : Bk w pb 27 (plantA x p)) :
    Calls Tryz.prog 136 #[.slice (x.jA i) (p.nev i).length (x.jc i), .pointer (some ⟨mb, 0, none⟩)] w
      fun e w' => e = .returned (.bool (!(allN (p.nev i).length fun k => mayB p s ((p.nev i).getD k lit0)))) ∧ Below w.heap.size w w' := by
  have c := hmb.cell 0
  have HALL := Lib.hid (allLit w (x.jA i) (p.nev i).length (x.jc i) _ (h.nv i hi) 135 #[.pointer (some ⟨sb, 0, none⟩), .pointer (some ⟨pb, 0, none⟩)] (fun k => mayB p s ((p.nev i).getD k lit0)) (fun args w => by kernel_rfl) (fun w1 hw1 k hk => by
    have key : ∀ L : LitD, 0 ≤ L.valve → L.valve < p.valves.length → Calls Tryz.prog 135 (#[.agg #[litC L 0, litC L 1]] ++ #[.pointer (some ⟨sb, 0, none⟩), .pointer (some ⟨pb, 0, none⟩)]) w1
        fun e w'' => e = .returned (.bool (mayB p s L)) ∧ Below w1.heap.size w1 w'' := by
      rintro ⟨v, o⟩ h0 h1
      obtain ⟨n, rfl⟩ := Int.eq_ofNat_of_zero_le h0
      simp only at h1
      exact may_any w1 x p ((h.below hw1).mono hw1.size) s hs n o (by omega) (by omega) sb pb (hsb.below hw1 hsb.lt) (hpb.below hw1 hpb.lt)
    exact key _ (hN i hi k hk).1 (hN i hi k hk).2))
  clear h hmb hsb hpb
  go_enter Tryz.func136, Tryz.ntmps136
  go_wp2_with fail
  refine HALL.out.mono ?_
  rintro e w' ⟨rfl, hb⟩
  go_wp2_with fail
  go_ret
  exact ⟨rfl, hb⟩

set_option maxRecDepth 100000 in
set_option maxHeartbeats 1000000 in
theorem safe_any (w : World) (x : PV) (p : PlantD) (h : PlantAt w w.heap.size x p) (s : Spots) (hs : PlacesOk s) (hv12 : p.valves.length ≤ 12) (hN : NeverOk p) :
    Calls Tryz.prog 67 #[.agg (plantA x p), .agg (spotsA s)] w fun e w' => e = .returned (.bool (safeB p s)) ∧ Below w.heap.size w w' := by
  have hz := spotsA_size s
  let w1 := w.alloc (.cells (plantA x p) 27)
  let w2 := w1.alloc (.cells (spotsA s) 105)
  let w3 := w2.alloc (.cells #[.func (.func 135) #[] #[.pointer (some ⟨w.heap.size + 1, 0, none⟩), .pointer (some ⟨w.heap.size, 0, none⟩)]] 166)
  have hb : Below w.heap.size w w3 := (((Below.refl _ _).alloc (Nat.le_refl _) _).alloc (by simp) _).alloc (by simp; omega) _
  have hs3 : w3.heap.size = w.heap.size + 3 := by simp [w3, w2, w1]
  have h1 : Bk w3 w.heap.size 27 (plantA x p) := ((Bk.new _ _ _).alloc _).alloc _
  have h2 : Bk w3 (w.heap.size + 1) 105 (spotsA s) := (Bk.newAt w1 _ _ _ (by simp [w1])).alloc _
  have h3 : Bk w3 (w.heap.size + 2) 166 #[.func (.func 135) #[] #[.pointer (some ⟨w.heap.size + 1, 0, none⟩), .pointer (some ⟨w.heap.size, 0, none⟩)]] := Bk.newAt w2 _ _ _ (by simp [w2, w1])
  have h4 := (h.below hb).mono (show w.heap.size ≤ w3.heap.size by omega)
  have HALL := Lib.hid (allLits w3 x.nA p.never.length x.nc _ h4.never 136 #[.pointer (some ⟨w.heap.size + 2, 0, none⟩)] (fun i => !(allN (p.nev i).length fun k => mayB p s ((p.nev i).getD k lit0))) (fun args w => by kernel_rfl) (fun w4 hw4 i hi => by
    have hsz := hw4.size
    exact notSafeSet_any w4 x p ((h4.below hw4).mono hsz) s hs hv12 hN i hi (w.heap.size + 2) (w.heap.size + 1) w.heap.size (h3.below hw4 h3.lt) (h2.below hw4 h2.lt) (h1.below hw4 h1.lt)))
  have HB := Lib.hid hb
  have HS := Lib.hid hs3
  clear h h1 h2 h3 h4 hb hs3
  simp only [w3, w2, w1, plantA] at HALL HB HS ⊢
  clear w3 w2 w1
  go_enter Tryz.func67, Tryz.ntmps67
  go_wp2_with fail
  refine HALL.out.mono ?_
  rintro e w' ⟨rfl, hb'⟩
  go_wp2_with fail
  go_ret
  exact ⟨rfl, HB.out.trans (hb'.mono (by rw [HS.out]; omega))⟩
end Go.Proofs.YtogobjmmgjfjjaaGreat
/- What is proved: a contract of engine.CheckPlant. Conditions: the plant lies in memory as the plain data say. -/
namespace Go.Proofs.YtogobjmmgjfjjaaGreat
open Go.RowKit

theorem valvesOk_of (p : PlantD) (h : valvedB p = true) : ValvesOk p := by
  unfold valvedB apartB allN at h
  simp only [Bool.and_eq_true, List.all_eq_true, List.mem_range] at h
  obtain ⟨⟨_, h1⟩, h2⟩ := h
  unfold inB at h1
  simp at h1
  refine ⟨by omega, fun i hi => ?_⟩
  have := h2 i hi
  unfold valveOk inB at this
  simpa using this
theorem neverOk_of (p : PlantD) (h : (allN p.never.length fun i => litsOk p.valves.length (p.nev i) 4) = true) : NeverOk p := by
  intro i hi k hk
  unfold allN at h
  rw [List.all_eq_true] at h
  have h1 := h i (by simpa using hi)
  unfold litsOk allN at h1
  simp only [Bool.and_eq_true, List.all_eq_true, List.mem_range] at h1
  have h2 := h1.2 k hk
  unfold inB at h2
  rw [Bool.and_eq_true, decide_eq_true_eq, decide_eq_true_eq] at h2
  exact ⟨h2.1, by have := h2.2; omega⟩
theorem firstB_ok (p : PlantD) (h : ValvesOk p) : PlacesOk (firstB p) := by
  intro i
  unfold firstB
  by_cases hi : i < p.valves.length ∧ (p.valve i).opn
  · rw [if_pos hi]; have := h.2 i hi.1; simp only; omega
  · rw [if_neg hi]; simp [SpotD.zero]

set_option maxHeartbeats 1000000 in
theorem litsClos_any (w : World) (x : PV) (p : PlantD) (h : PlantAt w w.heap.size x p) (i : Nat) (hi : i < p.never.length) (pb : Nat) (hpb : Bk w pb 27 (plantA x p)) :
    Calls Tryz.prog 66 #[.slice (x.jA i) (p.nev i).length (x.jc i), .pointer (some ⟨pb, 0, none⟩)] w
      fun e w' => e = .returned (.bool (litsOk p.valves.length (p.nev i) 4)) ∧ Below w.heap.size w w' := by
  have c0 := hpb.cell 0
  have c1 := hpb.cell 1
  have c2 := hpb.cell 2
  have c3 := hpb.cell 3
  have HL := Lib.hid (literals_any w x p h (x.jA i) (x.jc i) (p.nev i) (h.nv i hi) 4)
  simp only [plantA, pval] at c0 c1 c2 c3 HL
  clear h hpb
  go_enter Tryz.func66, Tryz.ntmps66
  go_wp2_with fail
  refine HL.out.mono ?_
  rintro e w' ⟨rfl, hb⟩
  go_wp2_with fail
  go_ret
  exact ⟨rfl, hb⟩

set_option maxRecDepth 100000 in
set_option maxHeartbeats 2000000 in
theorem checkPlant_any (w : World) (x : PV) (p : PlantD) (h : PlantAt w w.heap.size x p) :
    Calls Tryz.prog 20 #[.agg (plantA x p)] w fun e w' => e = .returned (.bool (plantB p)) ∧ Below w.heap.size w w' := by
  have HP := Lib.hid fun (w1 : World) (hb : Below w.heap.size w w1) => (h.below hb).mono hb.size
  have hb0 : ∀ o, Below w.heap.size w (w.alloc o) := fun o => (Below.refl _ _).alloc (Nat.le_refl _) _
  have hn : p.never.length ≤ 9223372036854775807 := h.never.1
  have HK := Lib.hid fun (w1 : World) (hb : Below (w.alloc (.cells (plantA x p) 27)).heap.size (w.alloc (.cells (plantA x p) 27)) w1) => (Bk.new w 27 (plantA x p)).below hb (by simp)
  have hc : ∀ (w1 : World), Below (w.heap.size + 1) (w.alloc (.cells (plantA x p) 27)) w1 → w1.cell? ⟨w.heap.size, 0, none⟩ = some (.slice x.tA p.tanks.length x.tc) ∧ w1.cell? ⟨w.heap.size, 1, none⟩ = some (.slice x.vA p.valves.length x.vc) ∧ w1.cell? ⟨w.heap.size, 2, none⟩ = some (.slice x.lA p.lines.length x.lc) ∧ w1.cell? ⟨w.heap.size, 3, none⟩ = some (.slice x.nA p.never.length x.nc) := fun w1 hb => by
    have := (Bk.new w 27 (plantA x p)).below hb (by omega)
    exact ⟨this.cell 0, this.cell 1, this.cell 2, this.cell 3⟩
  have HC := Lib.hid hc
  clear hc h
  have HV := Lib.hid (valvesOk_of p)
  have HNV := Lib.hid (neverOk_of p)
  have hP : plantB p = (tankedB p && valvedB p && linedB p && decide ((p.never.length : Int) ≤ 32) && (allN p.never.length fun i => litsOk p.valves.length (p.nev i) 4) && safeB p (firstB p)) := rfl
  have HPB := Lib.hid hP
  clear hP
  simp only [plantA] at HK HC ⊢
  go_enter Tryz.func20, Tryz.ntmps20
  go_wp2_with fail
  obtain ⟨W, hW⟩ : ∃ W, W = w.alloc (.cells #[.slice x.tA p.tanks.length x.tc, .slice x.vA p.valves.length x.vc, .slice x.lA p.lines.length x.lc, .slice x.nA p.never.length x.nc] 27) := ⟨_, rfl⟩
  have hbW : Below w.heap.size w W := by rw [hW]; exact hb0 _
  have hWs : W.heap.size = w.heap.size + 1 := by rw [hW]; simp
  rw [← hW] at HC HK ⊢
  have HW := Lib.hid hW
  clear hW
  refine (tanked_any _ x p (HP.out _ hbW)).mono ?_
  rintro e w1 ⟨rfl, hb1⟩
  obtain ⟨c0, c1, c2, c3⟩ := HC.out w1 (hb1.mono (by omega))
  have hbw1 := hbW.trans (hb1.mono hbW.size)
  cases h1 : tankedB p with
  | false =>
    have H1 := Lib.hid h1; clear h1
    go_wp2_with fail
    go_ret
    exact ⟨ret_bool (by rw [HPB.out, H1.out]; rfl), hbw1⟩
  | true =>
  have H1 := Lib.hid h1; clear h1
  go_wp2_with fail
  refine (valved_any w1 x p (HP.out _ hbw1)).mono ?_
  clear c0 c1 c2 c3
  rintro e w2 ⟨rfl, hb2⟩
  have hWw2 := hb1.trans (hb2.mono hb1.size)
  have hbw2 := hbw1.trans (hb2.mono hbw1.size)
  clear hb2 hbw1 hb1
  obtain ⟨c0, c1, c2, c3⟩ := HC.out w2 (hWw2.mono (by omega))
  cases h2 : valvedB p with
  | false =>
    have H2 := Lib.hid h2; clear h2
    go_wp2_with fail
    go_ret
    exact ⟨ret_bool (by rw [HPB.out, H1.out, H2.out]; rfl), hbw2⟩
  | true =>
  have H2 := Lib.hid h2; clear h2
  go_wp2_with fail
  refine (lined_any w2 x p (HP.out _ hbw2)).mono ?_
  clear c0 c1 c2 c3
  rintro e w3 ⟨rfl, hb3⟩
  have hWw3 := hWw2.trans (hb3.mono hWw2.size)
  have hbw3 := hbw2.trans (hb3.mono hbw2.size)
  clear hb3 hWw2 hbw2
  obtain ⟨c0, c1, c2, c3⟩ := HC.out w3 (hWw3.mono (by omega))
  cases h3 : linedB p with
  | false =>
    have H3 := Lib.hid h3; clear h3
    go_wp2_with fail
    go_ret
    exact ⟨ret_bool (by rw [HPB.out, H1.out, H2.out, H3.out]; rfl), hbw3⟩
  | true =>
  have H3 := Lib.hid h3; clear h3
  by_cases h4 : (p.never.length : Int) ≤ 32
  case neg =>
    have h4' : (32 : Int) < (p.never.length : Int) := by omega
    have H4 := Lib.hid (decide_eq_false h4); clear h4
    go_wp2_with fail
    go_ret
    exact ⟨ret_bool (by rw [HPB.out, H1.out, H2.out, H3.out, H4.out]; rfl), hbw3⟩
  case pos =>
  have H4 := Lib.hid (decide_eq_true h4)
  have HALL := Lib.hid (allLits w3 x.nA p.never.length x.nc _ (HP.out _ hbw3).never 66 #[.pointer (some ⟨w.heap.size, 0, none⟩)] (fun i => litsOk p.valves.length (p.nev i) 4) (fun args w => by kernel_rfl) (fun w4 hw4 i hi =>
    litsClos_any w4 x p (HP.out _ (hbw3.trans (hw4.mono hbw3.size))) i hi w.heap.size (HK.out w4 (hWw3.trans (hw4.mono hWw3.size)))))
  go_wp2_with fail
  refine HALL.out.mono ?_
  clear c0 c1 c2 c3
  rintro e w4 ⟨rfl, hb4⟩
  have hWw4 := hWw3.trans (hb4.mono hWw3.size)
  have hbw4 := hbw3.trans (hb4.mono hbw3.size)
  clear hb4 hWw3 hbw3 HALL
  obtain ⟨c0, c1, c2, c3⟩ := HC.out w4 (hWw4.mono (by omega))
  cases h5 : (allN p.never.length fun i => litsOk p.valves.length (p.nev i) 4) with
  | false =>
    have H5 := Lib.hid h5; clear h5
    go_wp2_with fail
    go_ret
    exact ⟨ret_bool (by rw [HPB.out, H1.out, H2.out, H3.out, H4.out, H5.out]; rfl), hbw4⟩
  | true =>
  have H5 := Lib.hid h5; clear h5
  go_wp2_with fail
  have hok := HV.out H2.out
  refine wp_region_steps (by kernel_rfl) (by kernel_rfl) (fun w5 => Below w4.heap.size w4 w5) (fun _ _ _ => True)
    (fun i u _ _ => match i with
      | 0 | 1 => u = .agg (plantA x p)
      | 2 => u = .agg (spotsA (firstB p))
      | _ => u = .bool (safeB p (firstB p))) (Below.refl _ _).drew (fun _ _ _ _ _ _ _ _ h _ _ => h) ?_ ?_
  · have HK4 := Lib.hid fun (w5 : World) (hw5 : Below w4.heap.size w4 w5) => HK.out w5 (hWw4.trans (hw5.mono hWw4.size))
    have HP4 := Lib.hid fun (w5 : World) (hw5 : Below w4.heap.size w4 w5) => HP.out w5 (hbw4.trans (hw5.mono hbw4.size))
    clear c0 c1 c2 c3 HK HC HP
    refine ⟨?_, ?_, ?_, ?_, ?_, trivial⟩
    · intro a w vs K HJ HK HD HN k; have k1 := HK 1 (by decide)
      exact wpo_loadS 27 (.tmp 1) rfl _ 0 (by simpa [Act.eval] using k1) (plantA x p) _ (fun j u hj => by rw [(HK4.out w HJ).cell, Nat.zero_add]; exact hj) und_plant rfl info_plant (k _ _ (by simp) HJ trivial rfl)
    · intro a w vs K HJ HK HD HN k; have k1 := HK 1 (by decide)
      exact wpo_loadS 27 (.tmp 1) rfl _ 0 (by simpa [Act.eval] using k1) (plantA x p) _ (fun j u hj => by rw [(HK4.out w HJ).cell, Nat.zero_add]; exact hj) und_plant rfl info_plant (k _ _ (by simp) HJ trivial rfl)
    · intro a w vs K HJ HK HD HN k; have e1 := (HD 1 _ 28 rfl rfl rfl).1.trans (HD 1 _ 28 rfl rfl rfl).2
      exact wpo_call 49 _ _ rfl #[.agg (plantA x p)] (by simp [Act.eval, e1]) (fun args w => by kernel_rfl)
        ((first_any w x p (HP4.out w HJ) hok).mono fun e w' ⟨he, hb⟩ => ⟨_, he, k _ _ (by simp) (HJ.trans (hb.mono HJ.size)) trivial rfl⟩)
    · intro a w vs K HJ HK HD HN k; have e0 := (HD 0 _ 27 rfl rfl rfl).1.trans (HD 0 _ 27 rfl rfl rfl).2; have e2 := (HD 2 _ 29 rfl rfl rfl).1.trans (HD 2 _ 29 rfl rfl rfl).2
      exact wpo_call 67 _ _ rfl #[.agg (plantA x p), .agg (spotsA (firstB p))] (by simp [Act.eval, e0, e2]) (fun args w => by kernel_rfl)
        ((safe_any w x p (HP4.out w HJ) (firstB p) (firstB_ok p hok) hok.1 (HNV.out H5.out)).mono fun e w' ⟨he, hb⟩ => ⟨_, he, k _ _ (by simp) (HJ.trans (hb.mono HJ.size)) trivial rfl⟩)
    · intro a w vs K HJ HK HD HN k; have e3 := (HD 3 _ 30 rfl rfl rfl).1.trans (HD 3 _ 30 rfl rfl rfl).2; go_simp; exact k _ _ (by simp) HJ trivial rfl
  · intro vs w5 hw5 hr
    have h4 : vs 4 = _ := hr 4 _ rfl
    clear hr c0 c1 c2 c3
    simp only [putAll, Act.put, h4]
    go_simp
    go_wp2
    go_ret
    exact ⟨ret_bool (by rw [HPB.out, H1.out, H2.out, H3.out, H4.out, H5.out]; rfl), hbw4.trans (hw5.mono hbw4.size)⟩
end Go.Proofs.YtogobjmmgjfjjaaGreat
