/- What is proved: contracts of engine.within and of slices.IndexFunc, slices.ContainsFunc, engine.all at rows of structs. Conditions: the closure answers q i at row i in every later world. -/
import Derived.Test.YtogobjmmgjfjjaaRows
import Derived.Test.YtogobjmmgjfjjaaLib
namespace Go.Proofs.Ytogobjmmgjfjjaa
open Go.RowKit
set_option maxHeartbeats 400000 in
theorem within_any (a b c : Int) (w : World) :
    Calls Try.prog 17 #[.int .i64 a, .int .i64 b, .int .i64 c] w fun e w' => e = .returned (.bool (inB a b c)) ∧ w = w' := by
  go_enter Try.func17, Try.ntmps17
  go_wp2
  all_goals (go_ret; refine ⟨ret_bool ?_, rfl⟩; unfold inB; by_cases h1 : b ≤ a <;> by_cases h2 : a ≤ c <;> simp [h1, h2] <;> omega)

/-- What a closure over rows says: q i of row i, in whatever later world. -/
def ClosAt (P : Program) (w : World) (g : Nat) (lb : Array Value) (n : Nat) (arg : Nat → Value) (q : Nat → Bool) : Prop :=
  ∀ w', Below w.heap.size w w' → ∀ i, i < n → Calls P g (#[arg i] ++ lb) w' fun e w'' => e = .returned (.bool (q i)) ∧ Below w'.heap.size w' w''

set_option maxRecDepth 100000 in
set_option maxHeartbeats 800000 in
theorem idxTank (w : World) (A : Option Addr) (n c : Nat) (f : Nat → Nat → Value) (h : Sl w w.heap.size 4 A n f) (g : Nat) (lb : Array Value) (q : Nat → Bool)
    (eg : ∀ args w, (callFunc g args).run Try.prog w = .ok (.enter g args) w)
    (hq : ClosAt Try.prog w g lb n (fun i => .agg #[f i 0, f i 1, f i 2, f i 3]) q) :
    Calls Try.prog 94 #[.slice A n c, .func (.func g) #[] lb] w fun e w' => e = .returned (.int .i64 (idxN n q)) ∧ Below w.heap.size w w' := by
  have hn := h.1
  have HQ := Lib.hid hq; clear hq
  go_enter Try.func94, Try.ntmps94
  go_wp2_with fail
  go_loopw [8] (fun i wr => ∃ k : Nat, k ≤ n ∧ i = .int .i64 k ∧ Hid (∀ j, j < k → q j = false) ∧ Below w.heap.size w wr) (fun i _ => n - (intOf i).toNat)
  case atStart => exact ⟨0, Nat.zero_le _, rfl, Lib.hid fun j hj => absurd hj (by omega), Below.refl _ _⟩
  case round =>
    obtain ⟨k, hk, rfl, hl, hb⟩ := hrel
    by_cases hlt : k < n
    · obtain ⟨b, off, rfl, hB, c0, c1, c2, c3⟩ := (h.below hb).at4 hlt
      have hb2 := hb.size
      go_wp2_with fail
      refine (HQ.out wr hb k hlt).mono ?_
      rintro e w' ⟨rfl, hb'⟩
      have hbb := hb.trans (hb'.mono hb2)
      cases hqk : q k with
      | true =>
        have HK := Lib.hid hqk; clear hqk
        go_wp2_with fail
        go_ret
        exact ⟨ret_int (idxN_some hlt hl.out HK.out).symm, hbb⟩
      | false =>
        have HK := Lib.hid hqk; clear hqk
        go_wp2_with fail
        go_roundw
        case rel => exact ⟨k + 1, by omega, by go_num, Lib.hid fun j hj => if e : j = k then by subst e; exact HK.out else hl.out j (by omega), hbb⟩
        case measure => simp [intOf]; omega
    · go_wp2_with fail
      go_ret
      obtain rfl : k = n := by omega
      exact ⟨ret_int (idxN_none hl.out).symm, hb⟩

set_option maxHeartbeats 400000 in
theorem conTank (w : World) (A : Option Addr) (n c : Nat) (f : Nat → Nat → Value) (h : Sl w w.heap.size 4 A n f) (g : Nat) (lb : Array Value) (q : Nat → Bool)
    (eg : ∀ args w, (callFunc g args).run Try.prog w = .ok (.enter g args) w)
    (hq : ClosAt Try.prog w g lb n (fun i => .agg #[f i 0, f i 1, f i 2, f i 3]) q) :
    Calls Try.prog 86 #[.slice A n c, .func (.func g) #[] lb] w fun e w' => e = .returned (.bool (!(allN n fun i => !q i))) ∧ Below w.heap.size w w' := by
  have H := Lib.hid (idxTank w A n c f h g lb q eg hq); clear hq h eg
  have hi := Lib.hid (idxN_nonneg n q)
  go_enter Try.func86, Try.ntmps86
  go_wp2_with fail
  refine H.out.mono ?_
  rintro e w' ⟨rfl, hb⟩
  go_wp2_with fail
  go_ret
  exact ⟨ret_bool (by simpa using hi.out), hb⟩

set_option maxHeartbeats 400000 in
theorem negTank (w : World) (g : Nat) (lb : Array Value) (v0 v1 v2 v3 : Value) (r : Bool) (p : Nat) (eg : ∀ args w, (callFunc g args).run Try.prog w = .ok (.enter g args) w)
    (hp : w.cell? ⟨p, 0, none⟩ = some (.func (.func g) #[] lb))
    (hq : ∀ w', Below w.heap.size w w' → Calls Try.prog g (#[.agg #[v0, v1, v2, v3]] ++ lb) w' fun e w'' => e = .returned (.bool r) ∧ Below w'.heap.size w' w'') :
    Calls Try.prog 87 #[.agg #[v0, v1, v2, v3], .pointer (some ⟨p, 0, none⟩)] w fun e w' => e = .returned (.bool (!r)) ∧ Below w.heap.size w w' := by
  have HQ := Lib.hid hq; clear hq
  have hlt : p < w.heap.size := by
    rcases Nat.lt_or_ge p w.heap.size with h | h
    · exact h
    · simp [World.cell?, Array.getElem?_eq_none h] at hp
  go_enter Try.func87, Try.ntmps87
  go_wp2_with fail
  refine (HQ.out _ ((Below.refl _ _).alloc (Nat.le_refl _) _)).mono ?_
  rintro e w' ⟨rfl, hb⟩
  go_wp2_with fail
  go_ret
  exact ⟨ret_bool rfl, ((Below.refl _ _).alloc (Nat.le_refl _) _).trans (hb.mono (by simp))⟩

set_option maxHeartbeats 400000 in
theorem allTank (w : World) (A : Option Addr) (n c : Nat) (f : Nat → Nat → Value) (h : Sl w w.heap.size 4 A n f) (g : Nat) (lb : Array Value) (q : Nat → Bool)
    (eg : ∀ args w, (callFunc g args).run Try.prog w = .ok (.enter g args) w)
    (hq : ClosAt Try.prog w g lb n (fun i => .agg #[f i 0, f i 1, f i 2, f i 3]) q) :
    Calls Try.prog 70 #[.slice A n c, .func (.func g) #[] lb] w fun e w' => e = .returned (.bool (allN n q)) ∧ Below w.heap.size w w' := by
  have hb0 : ∀ o, Below w.heap.size w (w.alloc o) := fun o => (Below.refl _ _).alloc (Nat.le_refl _) _
  have HC : Hid (∀ t, Calls Try.prog 86 #[.slice A n c, .func (.func 87) #[] #[.pointer (some ⟨w.heap.size, 0, none⟩)]] (w.alloc (.cells #[.func (.func g) #[] lb] t))
      fun e w' => e = .returned (.bool (!(allN n fun i => !!q i))) ∧ Below (w.alloc (.cells #[.func (.func g) #[] lb] t)).heap.size (w.alloc (.cells #[.func (.func g) #[] lb] t)) w') := Lib.hid fun t => by
    refine conTank _ A n c f ((h.below (hb0 _)).mono (by simp)) 87 _ (fun i => !q i) (fun args w => by kernel_rfl) ?_
    intro w' hw' i hi
    refine negTank w' g lb _ _ _ _ (q i) _ eg ?_ (fun w'' hw'' => hq w'' ((hb0 _).trans ((hw'.mono (by simp)).trans (hw''.mono (by have := hw'.size; simp at this; omega)))) i hi)
    rw [hw'.cell (p := ⟨w.heap.size, 0, none⟩) (by simp)]
    simp
  clear hq h eg
  go_enter Try.func70, Try.ntmps70
  go_wp2_with fail
  refine (HC.out _).mono ?_
  rintro e w' ⟨rfl, hb⟩
  go_wp2_with fail
  go_ret
  exact ⟨ret_bool (by simp), (hb0 _).trans (hb.mono (by simp))⟩

set_option maxRecDepth 100000 in
set_option maxHeartbeats 800000 in
theorem idxValve (w : World) (A : Option Addr) (n c : Nat) (f : Nat → Nat → Value) (h : Sl w w.heap.size 3 A n f) (g : Nat) (lb : Array Value) (q : Nat → Bool)
    (eg : ∀ args w, (callFunc g args).run Try.prog w = .ok (.enter g args) w)
    (hq : ClosAt Try.prog w g lb n (fun i => .agg #[f i 0, f i 1, f i 2]) q) :
    Calls Try.prog 95 #[.slice A n c, .func (.func g) #[] lb] w fun e w' => e = .returned (.int .i64 (idxN n q)) ∧ Below w.heap.size w w' := by
  have hn := h.1
  have HQ := Lib.hid hq; clear hq
  go_enter Try.func95, Try.ntmps95
  go_wp2_with fail
  go_loopw [8] (fun i wr => ∃ k : Nat, k ≤ n ∧ i = .int .i64 k ∧ Hid (∀ j, j < k → q j = false) ∧ Below w.heap.size w wr) (fun i _ => n - (intOf i).toNat)
  case atStart => exact ⟨0, Nat.zero_le _, rfl, Lib.hid fun j hj => absurd hj (by omega), Below.refl _ _⟩
  case round =>
    obtain ⟨k, hk, rfl, hl, hb⟩ := hrel
    by_cases hlt : k < n
    · obtain ⟨b, off, rfl, hB, c0, c1, c2⟩ := (h.below hb).at3 hlt
      have hb2 := hb.size
      go_wp2_with fail
      refine (HQ.out wr hb k hlt).mono ?_
      rintro e w' ⟨rfl, hb'⟩
      have hbb := hb.trans (hb'.mono hb2)
      cases hqk : q k with
      | true =>
        have HK := Lib.hid hqk; clear hqk
        go_wp2_with fail
        go_ret
        exact ⟨ret_int (idxN_some hlt hl.out HK.out).symm, hbb⟩
      | false =>
        have HK := Lib.hid hqk; clear hqk
        go_wp2_with fail
        go_roundw
        case rel => exact ⟨k + 1, by omega, by go_num, Lib.hid fun j hj => if e : j = k then by subst e; exact HK.out else hl.out j (by omega), hbb⟩
        case measure => simp [intOf]; omega
    · go_wp2_with fail
      go_ret
      obtain rfl : k = n := by omega
      exact ⟨ret_int (idxN_none hl.out).symm, hb⟩

set_option maxHeartbeats 400000 in
theorem conValve (w : World) (A : Option Addr) (n c : Nat) (f : Nat → Nat → Value) (h : Sl w w.heap.size 3 A n f) (g : Nat) (lb : Array Value) (q : Nat → Bool)
    (eg : ∀ args w, (callFunc g args).run Try.prog w = .ok (.enter g args) w)
    (hq : ClosAt Try.prog w g lb n (fun i => .agg #[f i 0, f i 1, f i 2]) q) :
    Calls Try.prog 88 #[.slice A n c, .func (.func g) #[] lb] w fun e w' => e = .returned (.bool (!(allN n fun i => !q i))) ∧ Below w.heap.size w w' := by
  have H := Lib.hid (idxValve w A n c f h g lb q eg hq); clear hq h eg
  have hi := Lib.hid (idxN_nonneg n q)
  go_enter Try.func88, Try.ntmps88
  go_wp2_with fail
  refine H.out.mono ?_
  rintro e w' ⟨rfl, hb⟩
  go_wp2_with fail
  go_ret
  exact ⟨ret_bool (by simpa using hi.out), hb⟩

set_option maxHeartbeats 400000 in
theorem negValve (w : World) (g : Nat) (lb : Array Value) (v0 v1 v2 : Value) (r : Bool) (p : Nat) (eg : ∀ args w, (callFunc g args).run Try.prog w = .ok (.enter g args) w)
    (hp : w.cell? ⟨p, 0, none⟩ = some (.func (.func g) #[] lb))
    (hq : ∀ w', Below w.heap.size w w' → Calls Try.prog g (#[.agg #[v0, v1, v2]] ++ lb) w' fun e w'' => e = .returned (.bool r) ∧ Below w'.heap.size w' w'') :
    Calls Try.prog 89 #[.agg #[v0, v1, v2], .pointer (some ⟨p, 0, none⟩)] w fun e w' => e = .returned (.bool (!r)) ∧ Below w.heap.size w w' := by
  have HQ := Lib.hid hq; clear hq
  have hlt : p < w.heap.size := by
    rcases Nat.lt_or_ge p w.heap.size with h | h
    · exact h
    · simp [World.cell?, Array.getElem?_eq_none h] at hp
  go_enter Try.func89, Try.ntmps89
  go_wp2_with fail
  refine (HQ.out _ ((Below.refl _ _).alloc (Nat.le_refl _) _)).mono ?_
  rintro e w' ⟨rfl, hb⟩
  go_wp2_with fail
  go_ret
  exact ⟨ret_bool rfl, ((Below.refl _ _).alloc (Nat.le_refl _) _).trans (hb.mono (by simp))⟩

set_option maxHeartbeats 400000 in
theorem allValve (w : World) (A : Option Addr) (n c : Nat) (f : Nat → Nat → Value) (h : Sl w w.heap.size 3 A n f) (g : Nat) (lb : Array Value) (q : Nat → Bool)
    (eg : ∀ args w, (callFunc g args).run Try.prog w = .ok (.enter g args) w)
    (hq : ClosAt Try.prog w g lb n (fun i => .agg #[f i 0, f i 1, f i 2]) q) :
    Calls Try.prog 72 #[.slice A n c, .func (.func g) #[] lb] w fun e w' => e = .returned (.bool (allN n q)) ∧ Below w.heap.size w w' := by
  have hb0 : ∀ o, Below w.heap.size w (w.alloc o) := fun o => (Below.refl _ _).alloc (Nat.le_refl _) _
  have HC : Hid (∀ t, Calls Try.prog 88 #[.slice A n c, .func (.func 89) #[] #[.pointer (some ⟨w.heap.size, 0, none⟩)]] (w.alloc (.cells #[.func (.func g) #[] lb] t))
      fun e w' => e = .returned (.bool (!(allN n fun i => !!q i))) ∧ Below (w.alloc (.cells #[.func (.func g) #[] lb] t)).heap.size (w.alloc (.cells #[.func (.func g) #[] lb] t)) w') := Lib.hid fun t => by
    refine conValve _ A n c f ((h.below (hb0 _)).mono (by simp)) 89 _ (fun i => !q i) (fun args w => by kernel_rfl) ?_
    intro w' hw' i hi
    refine negValve w' g lb _ _ _ (q i) _ eg ?_ (fun w'' hw'' => hq w'' ((hb0 _).trans ((hw'.mono (by simp)).trans (hw''.mono (by have := hw'.size; simp at this; omega)))) i hi)
    rw [hw'.cell (p := ⟨w.heap.size, 0, none⟩) (by simp)]
    simp
  clear hq h eg
  go_enter Try.func72, Try.ntmps72
  go_wp2_with fail
  refine (HC.out _).mono ?_
  rintro e w' ⟨rfl, hb⟩
  go_wp2_with fail
  go_ret
  exact ⟨ret_bool (by simp), (hb0 _).trans (hb.mono (by simp))⟩

set_option maxRecDepth 100000 in
set_option maxHeartbeats 800000 in
theorem idxLine (w : World) (A : Option Addr) (n c : Nat) (f : Nat → Nat → Value) (h : Sl w w.heap.size 5 A n f) (g : Nat) (lb : Array Value) (q : Nat → Bool)
    (eg : ∀ args w, (callFunc g args).run Try.prog w = .ok (.enter g args) w)
    (hq : ClosAt Try.prog w g lb n (fun i => .agg #[f i 0, f i 1, f i 2, f i 3, f i 4]) q) :
    Calls Try.prog 96 #[.slice A n c, .func (.func g) #[] lb] w fun e w' => e = .returned (.int .i64 (idxN n q)) ∧ Below w.heap.size w w' := by
  have hn := h.1
  have HQ := Lib.hid hq; clear hq
  go_enter Try.func96, Try.ntmps96
  go_wp2_with fail
  go_loopw [8] (fun i wr => ∃ k : Nat, k ≤ n ∧ i = .int .i64 k ∧ Hid (∀ j, j < k → q j = false) ∧ Below w.heap.size w wr) (fun i _ => n - (intOf i).toNat)
  case atStart => exact ⟨0, Nat.zero_le _, rfl, Lib.hid fun j hj => absurd hj (by omega), Below.refl _ _⟩
  case round =>
    obtain ⟨k, hk, rfl, hl, hb⟩ := hrel
    by_cases hlt : k < n
    · obtain ⟨b, off, rfl, hB, c0, c1, c2, c3, c4⟩ := (h.below hb).at5 hlt
      have hb2 := hb.size
      go_wp2_with fail
      refine (HQ.out wr hb k hlt).mono ?_
      rintro e w' ⟨rfl, hb'⟩
      have hbb := hb.trans (hb'.mono hb2)
      cases hqk : q k with
      | true =>
        have HK := Lib.hid hqk; clear hqk
        go_wp2_with fail
        go_ret
        exact ⟨ret_int (idxN_some hlt hl.out HK.out).symm, hbb⟩
      | false =>
        have HK := Lib.hid hqk; clear hqk
        go_wp2_with fail
        go_roundw
        case rel => exact ⟨k + 1, by omega, by go_num, Lib.hid fun j hj => if e : j = k then by subst e; exact HK.out else hl.out j (by omega), hbb⟩
        case measure => simp [intOf]; omega
    · go_wp2_with fail
      go_ret
      obtain rfl : k = n := by omega
      exact ⟨ret_int (idxN_none hl.out).symm, hb⟩

set_option maxHeartbeats 400000 in
theorem conLine (w : World) (A : Option Addr) (n c : Nat) (f : Nat → Nat → Value) (h : Sl w w.heap.size 5 A n f) (g : Nat) (lb : Array Value) (q : Nat → Bool)
    (eg : ∀ args w, (callFunc g args).run Try.prog w = .ok (.enter g args) w)
    (hq : ClosAt Try.prog w g lb n (fun i => .agg #[f i 0, f i 1, f i 2, f i 3, f i 4]) q) :
    Calls Try.prog 90 #[.slice A n c, .func (.func g) #[] lb] w fun e w' => e = .returned (.bool (!(allN n fun i => !q i))) ∧ Below w.heap.size w w' := by
  have H := Lib.hid (idxLine w A n c f h g lb q eg hq); clear hq h eg
  have hi := Lib.hid (idxN_nonneg n q)
  go_enter Try.func90, Try.ntmps90
  go_wp2_with fail
  refine H.out.mono ?_
  rintro e w' ⟨rfl, hb⟩
  go_wp2_with fail
  go_ret
  exact ⟨ret_bool (by simpa using hi.out), hb⟩

set_option maxHeartbeats 400000 in
theorem negLine (w : World) (g : Nat) (lb : Array Value) (v0 v1 v2 v3 v4 : Value) (r : Bool) (p : Nat) (eg : ∀ args w, (callFunc g args).run Try.prog w = .ok (.enter g args) w)
    (hp : w.cell? ⟨p, 0, none⟩ = some (.func (.func g) #[] lb))
    (hq : ∀ w', Below w.heap.size w w' → Calls Try.prog g (#[.agg #[v0, v1, v2, v3, v4]] ++ lb) w' fun e w'' => e = .returned (.bool r) ∧ Below w'.heap.size w' w'') :
    Calls Try.prog 91 #[.agg #[v0, v1, v2, v3, v4], .pointer (some ⟨p, 0, none⟩)] w fun e w' => e = .returned (.bool (!r)) ∧ Below w.heap.size w w' := by
  have HQ := Lib.hid hq; clear hq
  have hlt : p < w.heap.size := by
    rcases Nat.lt_or_ge p w.heap.size with h | h
    · exact h
    · simp [World.cell?, Array.getElem?_eq_none h] at hp
  go_enter Try.func91, Try.ntmps91
  go_wp2_with fail
  refine (HQ.out _ ((Below.refl _ _).alloc (Nat.le_refl _) _)).mono ?_
  rintro e w' ⟨rfl, hb⟩
  go_wp2_with fail
  go_ret
  exact ⟨ret_bool rfl, ((Below.refl _ _).alloc (Nat.le_refl _) _).trans (hb.mono (by simp))⟩

set_option maxHeartbeats 400000 in
theorem allLine (w : World) (A : Option Addr) (n c : Nat) (f : Nat → Nat → Value) (h : Sl w w.heap.size 5 A n f) (g : Nat) (lb : Array Value) (q : Nat → Bool)
    (eg : ∀ args w, (callFunc g args).run Try.prog w = .ok (.enter g args) w)
    (hq : ClosAt Try.prog w g lb n (fun i => .agg #[f i 0, f i 1, f i 2, f i 3, f i 4]) q) :
    Calls Try.prog 76 #[.slice A n c, .func (.func g) #[] lb] w fun e w' => e = .returned (.bool (allN n q)) ∧ Below w.heap.size w w' := by
  have hb0 : ∀ o, Below w.heap.size w (w.alloc o) := fun o => (Below.refl _ _).alloc (Nat.le_refl _) _
  have HC : Hid (∀ t, Calls Try.prog 90 #[.slice A n c, .func (.func 91) #[] #[.pointer (some ⟨w.heap.size, 0, none⟩)]] (w.alloc (.cells #[.func (.func g) #[] lb] t))
      fun e w' => e = .returned (.bool (!(allN n fun i => !!q i))) ∧ Below (w.alloc (.cells #[.func (.func g) #[] lb] t)).heap.size (w.alloc (.cells #[.func (.func g) #[] lb] t)) w') := Lib.hid fun t => by
    refine conLine _ A n c f ((h.below (hb0 _)).mono (by simp)) 91 _ (fun i => !q i) (fun args w => by kernel_rfl) ?_
    intro w' hw' i hi
    refine negLine w' g lb _ _ _ _ _ (q i) _ eg ?_ (fun w'' hw'' => hq w'' ((hb0 _).trans ((hw'.mono (by simp)).trans (hw''.mono (by have := hw'.size; simp at this; omega)))) i hi)
    rw [hw'.cell (p := ⟨w.heap.size, 0, none⟩) (by simp)]
    simp
  clear hq h eg
  go_enter Try.func76, Try.ntmps76
  go_wp2_with fail
  refine (HC.out _).mono ?_
  rintro e w' ⟨rfl, hb⟩
  go_wp2_with fail
  go_ret
  exact ⟨ret_bool (by simp), (hb0 _).trans (hb.mono (by simp))⟩

set_option maxRecDepth 100000 in
set_option maxHeartbeats 800000 in
theorem idxLit (w : World) (A : Option Addr) (n c : Nat) (f : Nat → Nat → Value) (h : Sl w w.heap.size 2 A n f) (g : Nat) (lb : Array Value) (q : Nat → Bool)
    (eg : ∀ args w, (callFunc g args).run Try.prog w = .ok (.enter g args) w)
    (hq : ClosAt Try.prog w g lb n (fun i => .agg #[f i 0, f i 1]) q) :
    Calls Try.prog 85 #[.slice A n c, .func (.func g) #[] lb] w fun e w' => e = .returned (.int .i64 (idxN n q)) ∧ Below w.heap.size w w' := by
  have hn := h.1
  have HQ := Lib.hid hq; clear hq
  go_enter Try.func85, Try.ntmps85
  go_wp2_with fail
  go_loopw [8] (fun i wr => ∃ k : Nat, k ≤ n ∧ i = .int .i64 k ∧ Hid (∀ j, j < k → q j = false) ∧ Below w.heap.size w wr) (fun i _ => n - (intOf i).toNat)
  case atStart => exact ⟨0, Nat.zero_le _, rfl, Lib.hid fun j hj => absurd hj (by omega), Below.refl _ _⟩
  case round =>
    obtain ⟨k, hk, rfl, hl, hb⟩ := hrel
    by_cases hlt : k < n
    · obtain ⟨b, off, rfl, hB, c0, c1⟩ := (h.below hb).at2 hlt
      have hb2 := hb.size
      go_wp2_with fail
      refine (HQ.out wr hb k hlt).mono ?_
      rintro e w' ⟨rfl, hb'⟩
      have hbb := hb.trans (hb'.mono hb2)
      cases hqk : q k with
      | true =>
        have HK := Lib.hid hqk; clear hqk
        go_wp2_with fail
        go_ret
        exact ⟨ret_int (idxN_some hlt hl.out HK.out).symm, hbb⟩
      | false =>
        have HK := Lib.hid hqk; clear hqk
        go_wp2_with fail
        go_roundw
        case rel => exact ⟨k + 1, by omega, by go_num, Lib.hid fun j hj => if e : j = k then by subst e; exact HK.out else hl.out j (by omega), hbb⟩
        case measure => simp [intOf]; omega
    · go_wp2_with fail
      go_ret
      obtain rfl : k = n := by omega
      exact ⟨ret_int (idxN_none hl.out).symm, hb⟩

set_option maxHeartbeats 400000 in
theorem conLit (w : World) (A : Option Addr) (n c : Nat) (f : Nat → Nat → Value) (h : Sl w w.heap.size 2 A n f) (g : Nat) (lb : Array Value) (q : Nat → Bool)
    (eg : ∀ args w, (callFunc g args).run Try.prog w = .ok (.enter g args) w)
    (hq : ClosAt Try.prog w g lb n (fun i => .agg #[f i 0, f i 1]) q) :
    Calls Try.prog 67 #[.slice A n c, .func (.func g) #[] lb] w fun e w' => e = .returned (.bool (!(allN n fun i => !q i))) ∧ Below w.heap.size w w' := by
  have H := Lib.hid (idxLit w A n c f h g lb q eg hq); clear hq h eg
  have hi := Lib.hid (idxN_nonneg n q)
  go_enter Try.func67, Try.ntmps67
  go_wp2_with fail
  refine H.out.mono ?_
  rintro e w' ⟨rfl, hb⟩
  go_wp2_with fail
  go_ret
  exact ⟨ret_bool (by simpa using hi.out), hb⟩

set_option maxHeartbeats 400000 in
theorem negLit (w : World) (g : Nat) (lb : Array Value) (v0 v1 : Value) (r : Bool) (p : Nat) (eg : ∀ args w, (callFunc g args).run Try.prog w = .ok (.enter g args) w)
    (hp : w.cell? ⟨p, 0, none⟩ = some (.func (.func g) #[] lb))
    (hq : ∀ w', Below w.heap.size w w' → Calls Try.prog g (#[.agg #[v0, v1]] ++ lb) w' fun e w'' => e = .returned (.bool r) ∧ Below w'.heap.size w' w'') :
    Calls Try.prog 68 #[.agg #[v0, v1], .pointer (some ⟨p, 0, none⟩)] w fun e w' => e = .returned (.bool (!r)) ∧ Below w.heap.size w w' := by
  have HQ := Lib.hid hq; clear hq
  have hlt : p < w.heap.size := by
    rcases Nat.lt_or_ge p w.heap.size with h | h
    · exact h
    · simp [World.cell?, Array.getElem?_eq_none h] at hp
  go_enter Try.func68, Try.ntmps68
  go_wp2_with fail
  refine (HQ.out _ ((Below.refl _ _).alloc (Nat.le_refl _) _)).mono ?_
  rintro e w' ⟨rfl, hb⟩
  go_wp2_with fail
  go_ret
  exact ⟨ret_bool rfl, ((Below.refl _ _).alloc (Nat.le_refl _) _).trans (hb.mono (by simp))⟩

set_option maxHeartbeats 400000 in
theorem allLit (w : World) (A : Option Addr) (n c : Nat) (f : Nat → Nat → Value) (h : Sl w w.heap.size 2 A n f) (g : Nat) (lb : Array Value) (q : Nat → Bool)
    (eg : ∀ args w, (callFunc g args).run Try.prog w = .ok (.enter g args) w)
    (hq : ClosAt Try.prog w g lb n (fun i => .agg #[f i 0, f i 1]) q) :
    Calls Try.prog 41 #[.slice A n c, .func (.func g) #[] lb] w fun e w' => e = .returned (.bool (allN n q)) ∧ Below w.heap.size w w' := by
  have hb0 : ∀ o, Below w.heap.size w (w.alloc o) := fun o => (Below.refl _ _).alloc (Nat.le_refl _) _
  have HC : Hid (∀ t, Calls Try.prog 67 #[.slice A n c, .func (.func 68) #[] #[.pointer (some ⟨w.heap.size, 0, none⟩)]] (w.alloc (.cells #[.func (.func g) #[] lb] t))
      fun e w' => e = .returned (.bool (!(allN n fun i => !!q i))) ∧ Below (w.alloc (.cells #[.func (.func g) #[] lb] t)).heap.size (w.alloc (.cells #[.func (.func g) #[] lb] t)) w') := Lib.hid fun t => by
    refine conLit _ A n c f ((h.below (hb0 _)).mono (by simp)) 68 _ (fun i => !q i) (fun args w => by kernel_rfl) ?_
    intro w' hw' i hi
    refine negLit w' g lb _ _ (q i) _ eg ?_ (fun w'' hw'' => hq w'' ((hb0 _).trans ((hw'.mono (by simp)).trans (hw''.mono (by have := hw'.size; simp at this; omega)))) i hi)
    rw [hw'.cell (p := ⟨w.heap.size, 0, none⟩) (by simp)]
    simp
  clear hq h eg
  go_enter Try.func41, Try.ntmps41
  go_wp2_with fail
  refine (HC.out _).mono ?_
  rintro e w' ⟨rfl, hb⟩
  go_wp2_with fail
  go_ret
  exact ⟨ret_bool (by simp), (hb0 _).trans (hb.mono (by simp))⟩

set_option maxRecDepth 100000 in
set_option maxHeartbeats 800000 in
theorem idxLits (w : World) (A : Option Addr) (n c : Nat) (f : Nat → Nat → Value) (h : Sl w w.heap.size 1 A n f) (g : Nat) (lb : Array Value) (q : Nat → Bool)
    (eg : ∀ args w, (callFunc g args).run Try.prog w = .ok (.enter g args) w)
    (hq : ClosAt Try.prog w g lb n (fun i => f i 0) q) :
    Calls Try.prog 92 #[.slice A n c, .func (.func g) #[] lb] w fun e w' => e = .returned (.int .i64 (idxN n q)) ∧ Below w.heap.size w w' := by
  have hn := h.1
  have HQ := Lib.hid hq; clear hq
  go_enter Try.func92, Try.ntmps92
  go_wp2_with fail
  go_loopw [8] (fun i wr => ∃ k : Nat, k ≤ n ∧ i = .int .i64 k ∧ Hid (∀ j, j < k → q j = false) ∧ Below w.heap.size w wr) (fun i _ => n - (intOf i).toNat)
  case atStart => exact ⟨0, Nat.zero_le _, rfl, Lib.hid fun j hj => absurd hj (by omega), Below.refl _ _⟩
  case round =>
    obtain ⟨k, hk, rfl, hl, hb⟩ := hrel
    by_cases hlt : k < n
    · obtain ⟨b, off, rfl, hB, c0⟩ := (h.below hb).at1 hlt
      have hb2 := hb.size
      go_wp2_with fail
      refine (HQ.out wr hb k hlt).mono ?_
      rintro e w' ⟨rfl, hb'⟩
      have hbb := hb.trans (hb'.mono hb2)
      cases hqk : q k with
      | true =>
        have HK := Lib.hid hqk; clear hqk
        go_wp2_with fail
        go_ret
        exact ⟨ret_int (idxN_some hlt hl.out HK.out).symm, hbb⟩
      | false =>
        have HK := Lib.hid hqk; clear hqk
        go_wp2_with fail
        go_roundw
        case rel => exact ⟨k + 1, by omega, by go_num, Lib.hid fun j hj => if e : j = k then by subst e; exact HK.out else hl.out j (by omega), hbb⟩
        case measure => simp [intOf]; omega
    · go_wp2_with fail
      go_ret
      obtain rfl : k = n := by omega
      exact ⟨ret_int (idxN_none hl.out).symm, hb⟩

set_option maxHeartbeats 400000 in
theorem conLits (w : World) (A : Option Addr) (n c : Nat) (f : Nat → Nat → Value) (h : Sl w w.heap.size 1 A n f) (g : Nat) (lb : Array Value) (q : Nat → Bool)
    (eg : ∀ args w, (callFunc g args).run Try.prog w = .ok (.enter g args) w)
    (hq : ClosAt Try.prog w g lb n (fun i => f i 0) q) :
    Calls Try.prog 78 #[.slice A n c, .func (.func g) #[] lb] w fun e w' => e = .returned (.bool (!(allN n fun i => !q i))) ∧ Below w.heap.size w w' := by
  have H := Lib.hid (idxLits w A n c f h g lb q eg hq); clear hq h eg
  have hi := Lib.hid (idxN_nonneg n q)
  go_enter Try.func78, Try.ntmps78
  go_wp2_with fail
  refine H.out.mono ?_
  rintro e w' ⟨rfl, hb⟩
  go_wp2_with fail
  go_ret
  exact ⟨ret_bool (by simpa using hi.out), hb⟩

set_option maxHeartbeats 400000 in
theorem negLits (w : World) (g : Nat) (lb : Array Value) (v0 : Value) (r : Bool) (p : Nat) (eg : ∀ args w, (callFunc g args).run Try.prog w = .ok (.enter g args) w)
    (hp : w.cell? ⟨p, 0, none⟩ = some (.func (.func g) #[] lb))
    (hq : ∀ w', Below w.heap.size w w' → Calls Try.prog g (#[v0] ++ lb) w' fun e w'' => e = .returned (.bool r) ∧ Below w'.heap.size w' w'') :
    Calls Try.prog 79 #[v0, .pointer (some ⟨p, 0, none⟩)] w fun e w' => e = .returned (.bool (!r)) ∧ Below w.heap.size w w' := by
  have HQ := Lib.hid hq; clear hq
  have hlt : p < w.heap.size := by
    rcases Nat.lt_or_ge p w.heap.size with h | h
    · exact h
    · simp [World.cell?, Array.getElem?_eq_none h] at hp
  go_enter Try.func79, Try.ntmps79
  go_wp2_with fail
  refine (HQ.out _ (Below.refl _ _)).mono ?_
  rintro e w' ⟨rfl, hb⟩
  go_wp2_with fail
  go_ret
  exact ⟨ret_bool rfl, (Below.refl _ _).trans (hb.mono (by simp))⟩

set_option maxHeartbeats 400000 in
theorem allLits (w : World) (A : Option Addr) (n c : Nat) (f : Nat → Nat → Value) (h : Sl w w.heap.size 1 A n f) (g : Nat) (lb : Array Value) (q : Nat → Bool)
    (eg : ∀ args w, (callFunc g args).run Try.prog w = .ok (.enter g args) w)
    (hq : ClosAt Try.prog w g lb n (fun i => f i 0) q) :
    Calls Try.prog 51 #[.slice A n c, .func (.func g) #[] lb] w fun e w' => e = .returned (.bool (allN n q)) ∧ Below w.heap.size w w' := by
  have hb0 : ∀ o, Below w.heap.size w (w.alloc o) := fun o => (Below.refl _ _).alloc (Nat.le_refl _) _
  have HC : Hid (∀ t, Calls Try.prog 78 #[.slice A n c, .func (.func 79) #[] #[.pointer (some ⟨w.heap.size, 0, none⟩)]] (w.alloc (.cells #[.func (.func g) #[] lb] t))
      fun e w' => e = .returned (.bool (!(allN n fun i => !!q i))) ∧ Below (w.alloc (.cells #[.func (.func g) #[] lb] t)).heap.size (w.alloc (.cells #[.func (.func g) #[] lb] t)) w') := Lib.hid fun t => by
    refine conLits _ A n c f ((h.below (hb0 _)).mono (by simp)) 79 _ (fun i => !q i) (fun args w => by kernel_rfl) ?_
    intro w' hw' i hi
    refine negLits w' g lb _  (q i) _ eg ?_ (fun w'' hw'' => hq w'' ((hb0 _).trans ((hw'.mono (by simp)).trans (hw''.mono (by have := hw'.size; simp at this; omega)))) i hi)
    rw [hw'.cell (p := ⟨w.heap.size, 0, none⟩) (by simp)]
    simp
  clear hq h eg
  go_enter Try.func51, Try.ntmps51
  go_wp2_with fail
  refine (HC.out _).mono ?_
  rintro e w' ⟨rfl, hb⟩
  go_wp2_with fail
  go_ret
  exact ⟨ret_bool (by simp), (hb0 _).trans (hb.mono (by simp))⟩

set_option maxRecDepth 100000 in
set_option maxHeartbeats 800000 in
theorem idxInt (w : World) (A : Option Addr) (n c : Nat) (f : Nat → Nat → Value) (h : Sl w w.heap.size 1 A n f) (g : Nat) (lb : Array Value) (q : Nat → Bool)
    (eg : ∀ args w, (callFunc g args).run Try.prog w = .ok (.enter g args) w)
    (hq : ClosAt Try.prog w g lb n (fun i => f i 0) q) :
    Calls Try.prog 93 #[.slice A n c, .func (.func g) #[] lb] w fun e w' => e = .returned (.int .i64 (idxN n q)) ∧ Below w.heap.size w w' := by
  have hn := h.1
  have HQ := Lib.hid hq; clear hq
  go_enter Try.func93, Try.ntmps93
  go_wp2_with fail
  go_loopw [8] (fun i wr => ∃ k : Nat, k ≤ n ∧ i = .int .i64 k ∧ Hid (∀ j, j < k → q j = false) ∧ Below w.heap.size w wr) (fun i _ => n - (intOf i).toNat)
  case atStart => exact ⟨0, Nat.zero_le _, rfl, Lib.hid fun j hj => absurd hj (by omega), Below.refl _ _⟩
  case round =>
    obtain ⟨k, hk, rfl, hl, hb⟩ := hrel
    by_cases hlt : k < n
    · obtain ⟨b, off, rfl, hB, c0⟩ := (h.below hb).at1 hlt
      have hb2 := hb.size
      go_wp2_with fail
      refine (HQ.out wr hb k hlt).mono ?_
      rintro e w' ⟨rfl, hb'⟩
      have hbb := hb.trans (hb'.mono hb2)
      cases hqk : q k with
      | true =>
        have HK := Lib.hid hqk; clear hqk
        go_wp2_with fail
        go_ret
        exact ⟨ret_int (idxN_some hlt hl.out HK.out).symm, hbb⟩
      | false =>
        have HK := Lib.hid hqk; clear hqk
        go_wp2_with fail
        go_roundw
        case rel => exact ⟨k + 1, by omega, by go_num, Lib.hid fun j hj => if e : j = k then by subst e; exact HK.out else hl.out j (by omega), hbb⟩
        case measure => simp [intOf]; omega
    · go_wp2_with fail
      go_ret
      obtain rfl : k = n := by omega
      exact ⟨ret_int (idxN_none hl.out).symm, hb⟩

set_option maxHeartbeats 400000 in
theorem conInt (w : World) (A : Option Addr) (n c : Nat) (f : Nat → Nat → Value) (h : Sl w w.heap.size 1 A n f) (g : Nat) (lb : Array Value) (q : Nat → Bool)
    (eg : ∀ args w, (callFunc g args).run Try.prog w = .ok (.enter g args) w)
    (hq : ClosAt Try.prog w g lb n (fun i => f i 0) q) :
    Calls Try.prog 83 #[.slice A n c, .func (.func g) #[] lb] w fun e w' => e = .returned (.bool (!(allN n fun i => !q i))) ∧ Below w.heap.size w w' := by
  have H := Lib.hid (idxInt w A n c f h g lb q eg hq); clear hq h eg
  have hi := Lib.hid (idxN_nonneg n q)
  go_enter Try.func83, Try.ntmps83
  go_wp2_with fail
  refine H.out.mono ?_
  rintro e w' ⟨rfl, hb⟩
  go_wp2_with fail
  go_ret
  exact ⟨ret_bool (by simpa using hi.out), hb⟩

set_option maxHeartbeats 400000 in
theorem negInt (w : World) (g : Nat) (lb : Array Value) (v0 : Value) (r : Bool) (p : Nat) (eg : ∀ args w, (callFunc g args).run Try.prog w = .ok (.enter g args) w)
    (hp : w.cell? ⟨p, 0, none⟩ = some (.func (.func g) #[] lb))
    (hq : ∀ w', Below w.heap.size w w' → Calls Try.prog g (#[v0] ++ lb) w' fun e w'' => e = .returned (.bool r) ∧ Below w'.heap.size w' w'') :
    Calls Try.prog 84 #[v0, .pointer (some ⟨p, 0, none⟩)] w fun e w' => e = .returned (.bool (!r)) ∧ Below w.heap.size w w' := by
  have HQ := Lib.hid hq; clear hq
  have hlt : p < w.heap.size := by
    rcases Nat.lt_or_ge p w.heap.size with h | h
    · exact h
    · simp [World.cell?, Array.getElem?_eq_none h] at hp
  go_enter Try.func84, Try.ntmps84
  go_wp2_with fail
  refine (HQ.out _ (Below.refl _ _)).mono ?_
  rintro e w' ⟨rfl, hb⟩
  go_wp2_with fail
  go_ret
  exact ⟨ret_bool rfl, (Below.refl _ _).trans (hb.mono (by simp))⟩

set_option maxHeartbeats 400000 in
theorem allInt (w : World) (A : Option Addr) (n c : Nat) (f : Nat → Nat → Value) (h : Sl w w.heap.size 1 A n f) (g : Nat) (lb : Array Value) (q : Nat → Bool)
    (eg : ∀ args w, (callFunc g args).run Try.prog w = .ok (.enter g args) w)
    (hq : ClosAt Try.prog w g lb n (fun i => f i 0) q) :
    Calls Try.prog 64 #[.slice A n c, .func (.func g) #[] lb] w fun e w' => e = .returned (.bool (allN n q)) ∧ Below w.heap.size w w' := by
  have hb0 : ∀ o, Below w.heap.size w (w.alloc o) := fun o => (Below.refl _ _).alloc (Nat.le_refl _) _
  have HC : Hid (∀ t, Calls Try.prog 83 #[.slice A n c, .func (.func 84) #[] #[.pointer (some ⟨w.heap.size, 0, none⟩)]] (w.alloc (.cells #[.func (.func g) #[] lb] t))
      fun e w' => e = .returned (.bool (!(allN n fun i => !!q i))) ∧ Below (w.alloc (.cells #[.func (.func g) #[] lb] t)).heap.size (w.alloc (.cells #[.func (.func g) #[] lb] t)) w') := Lib.hid fun t => by
    refine conInt _ A n c f ((h.below (hb0 _)).mono (by simp)) 84 _ (fun i => !q i) (fun args w => by kernel_rfl) ?_
    intro w' hw' i hi
    refine negInt w' g lb _  (q i) _ eg ?_ (fun w'' hw'' => hq w'' ((hb0 _).trans ((hw'.mono (by simp)).trans (hw''.mono (by have := hw'.size; simp at this; omega)))) i hi)
    rw [hw'.cell (p := ⟨w.heap.size, 0, none⟩) (by simp)]
    simp
  clear hq h eg
  go_enter Try.func64, Try.ntmps64
  go_wp2_with fail
  refine (HC.out _).mono ?_
  rintro e w' ⟨rfl, hb⟩
  go_wp2_with fail
  go_ret
  exact ⟨ret_bool (by simp), (hb0 _).trans (hb.mono (by simp))⟩




end Go.Proofs.Ytogobjmmgjfjjaa
