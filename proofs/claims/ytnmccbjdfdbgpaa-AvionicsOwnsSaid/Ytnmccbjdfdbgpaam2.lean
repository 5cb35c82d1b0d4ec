/- What is proved: the texts A B C D E F, one behind the other; each says at its head what it proves, and under which conditions. -/
import Derived.Test.YtnmccbjdfdbgpaaRows
import Derived.Lib.SliceRun
import Derived.Laws.AppendOwn
import Derived.Sort.OwnSortedInts
import Derived.Laws.CopyOwn
import Derived.Test.Ytnmccbjdfdbgpaam1
/- What is proved: lists of one's own; contracts of within, in, of slices.Clone at int and bool, of slices.IndexFunc and ContainsFunc. Conditions: those that each lemma states. -/
namespace Go.Proofs.Ytnmccbjdfdbgpaa
open Go.RowKit

theorem inB_iff {n a b : Int} : inB n a b = true ↔ a ≤ n ∧ n ≤ b := by unfold inB; rw [Bool.and_eq_true, decide_eq_true_eq, decide_eq_true_eq]
theorem allN_iff {n : Nat} {f : Nat → Bool} : allN n f = true ↔ ∀ i, i < n → f i = true := by
  unfold allN; simp [List.all_eq_true]
set_option maxHeartbeats 400000 in
theorem within_any (a b c : Int) (w : World) :
    Calls Try.prog 41 #[.int .i64 a, .int .i64 b, .int .i64 c] w fun e w' => e = .returned (.bool (inB a b c)) ∧ w = w' := by
  go_enter Try.func41, Try.ntmps41
  go_wp2
  all_goals (go_ret; refine ⟨ret_bool ?_, rfl⟩; unfold inB; by_cases h1 : b ≤ a <;> by_cases h2 : a ≤ c <;> simp [h1, h2] <;> omega)
set_option maxHeartbeats 400000 in
theorem in_any (a b c : Int) (w : World) :
    Calls Try.prog 60 #[.int .i64 a, .int .i64 b, .int .i64 c] w fun e w' => e = .returned (.bool (inB a b c)) ∧ w = w' := by
  go_enter Try.func60, Try.ntmps60
  go_wp2
  all_goals (go_ret; refine ⟨ret_bool ?_, rfl⟩; unfold inB; by_cases h1 : b ≤ a <;> by_cases h2 : a ≤ c <;> simp [h1, h2] <;> omega)
/-- What a closure over rows says: q i of row i, in whatever later world. -/
def ClosAt (P : Program) (w : World) (g : Nat) (lb : Array Value) (n : Nat) (arg : Nat → Value) (q : Nat → Bool) : Prop :=
  ∀ w', Below w.heap.size w w' → ∀ i, i < n → Calls P g (#[arg i] ++ lb) w' fun e w'' => e = .returned (.bool (q i)) ∧ Below w'.heap.size w' w''
/-- The slice (A, n) lies in a block of its own, from block B on. -/
def Cl (w : World) (B : Nat) (T : TypeId) (k : Nat) (A : Option Addr) (n : Nat) (f : Nat → Nat → Value) : Prop :=
  n ≤ 4096 ∧ (0 < n → ∃ g cur, A = some ⟨g, 0, none⟩ ∧ B ≤ g ∧ Bk w g T cur ∧ ∀ i, i < n → ∀ j, j < k → cur[i * k + j]? = some (f i j))
theorem Cl.sl {w : World} {B k n : Nat} {T : TypeId} {A : Option Addr} {f : Nat → Nat → Value} (h : Cl w B T k A n f) : Sl w w.heap.size k A n f :=
  ⟨by have := h.1; omega, fun hn => by
    obtain ⟨g, cur, e, _, hb, hc⟩ := h.2 hn
    exact ⟨g, 0, e, hb.lt, fun i hi j hj => by rw [Nat.zero_add, hb.cell]; exact hc i hi j hj⟩⟩
theorem Cl.below {w w' : World} {B k n : Nat} {T : TypeId} {A : Option Addr} {f : Nat → Nat → Value} (h : Cl w B T k A n f) (hb : Below w.heap.size w w') : Cl w' B T k A n f :=
  ⟨h.1, fun hn => by obtain ⟨g, cur, e, h1, h2, h3⟩ := h.2 hn; exact ⟨g, cur, e, h1, h2.below hb h2.lt, h3⟩⟩
theorem Cl.nil (w : World) (B k : Nat) (T : TypeId) (A : Option Addr) (f : Nat → Nat → Value) : Cl w B T k A 0 f := ⟨by omega, fun h => absurd h (by omega)⟩

/-- The cells of n rows of k cells. -/
def rowsL (n k : Nat) (f : Nat → Nat → Value) : List Value := (List.range (n * k)).map fun m => f (m / k) (m % k)
theorem rowsL_get (n k : Nat) (f : Nat → Nat → Value) (i j : Nat) (hi : i < n) (hj : j < k) : (rowsL n k f)[i * k + j]? = some (f i j) := by
  have hm : i * k + j < n * k := by
    have : (i + 1) * k ≤ n * k := Nat.mul_le_mul_right _ hi
    rw [Nat.add_mul, Nat.one_mul] at this; omega
  unfold rowsL
  rw [List.getElem?_map, List.getElem?_range hm]
  simp only [Option.map_some]
  rw [Nat.mul_comm i k, Nat.mul_add_div (by omega), Nat.div_eq_of_lt hj, Nat.mul_add_mod, Nat.mod_eq_of_lt hj, Nat.add_zero]
theorem rowsL_len (n k : Nat) (f : Nat → Nat → Value) : (rowsL n k f).length = n * k := by simp [rowsL]
theorem rowsL_cell {w : World} {b off n k : Nat} {f : Nat → Nat → Value} (hc : ∀ i, i < n → ∀ j, j < k → w.cell? ⟨b, off + i * k + j, none⟩ = some (f i j)) (m : Nat) (u : Value) (hm : (rowsL n k f)[m]? = some u) : w.cell? ⟨b, off + m, none⟩ = some u := by
  have hl : m < n * k := by have := (List.getElem?_eq_some_iff.1 hm).1; rwa [rowsL_len] at this
  have hk : 0 < k := by rcases Nat.eq_zero_or_pos k with h | h
                        · subst h; simp at hl
                        · exact h
  have hi : m / k < n := (Nat.div_lt_iff_lt_mul hk).2 hl
  have hj : m % k < k := Nat.mod_lt _ hk
  have e : m / k * k + m % k = m := by rw [Nat.mul_comm]; exact Nat.div_add_mod m k
  have h1 := rowsL_get n k f (m / k) (m % k) hi hj
  rw [e] at h1
  rw [h1] at hm
  rw [← hm, ← hc _ hi _ hj, Nat.add_assoc, e]
theorem rowsL_one {n k : Nat} {f : Nat → Nat → Value} (h1 : ∀ i j, (f i j).oneCell' = true) : ∀ u ∈ rowsL n k f, u.oneCell' = true := by
  intro u hu
  unfold rowsL at hu
  obtain ⟨m, _, rfl⟩ := List.mem_map.1 hu
  exact h1 _ _
theorem Cl.of_own {w : World} {B k n : Nat} {T : TypeId} {v : Value} {f : Nat → Nat → Value} (hn : n ≤ 4096) (h : w.ownsRow B T k v n (rowsL n k f)) : ∃ A c, v = .slice A n c ∧ Cl w B T k A n f := by
  rcases h.2 with ⟨rfl, rfl⟩ | ⟨g, cap, cur, rfl, hb, hg, h1, h2, h3, h4⟩
  · exact ⟨none, 0, rfl, Cl.nil _ _ _ _ _ _⟩
  · refine ⟨some ⟨g, 0, none⟩, cap, rfl, hn, fun _ => ⟨g, cur, rfl, hb, hg, fun i hi j hj => ?_⟩⟩
    have := rowsL_get n k f i j hi hj
    rw [← h4, List.getElem?_take] at this
    split at this
    · simpa using this
    · cases this
theorem infoC_Int : (Try.prog.info? 3).map (fun i => (i.zero, i.size, i.bytes)) = some (some (.int .i64 0), 1, 8) := by kernel_rfl
set_option maxRecDepth 100000 in
set_option maxHeartbeats 1000000 in
theorem cloneInt (w : World) (A : Option Addr) (n c : Nat) (f : Nat → Nat → Value) (h : Sl w w.heap.size 1 A n f) (h1 : ∀ i j, (f i j).oneCell' = true) (hn : n ≤ 4096) :
    Calls Try.prog 70 #[.slice A n c] w fun e w' => ∃ A' c', e = .returned (.slice A' n c') ∧ Cl w' w.heap.size 3 1 A' n f ∧ Below w.heap.size w w' := by
  cases A with
  | none =>
    have h0 : n = 0 := by
      rcases Nat.eq_zero_or_pos n with h0 | h0
      · exact h0
      · obtain ⟨b, off, e, _⟩ := h.2 h0; cases e
    subst h0
    clear h h1
    have q : ∀ (w : World), (binOp .eql 36 (.slice none 0 c) (.slice none 0 0)).run Try.prog w = .ok (.bool true) w := fun w => Lib.run_eql_slice_nil w _ _ none 0 c 0 0 Try.underlying36
    go_enter Try.func70, Try.ntmps70
    go_wp2
    go_ret
    exact ⟨none, 0, rfl, Cl.nil _ _ _ _ _ _, Below.refl _ _⟩
  | some ad =>
    obtain ⟨i0, hi, hz0, hz1, hz2⟩ := info_parts infoC_Int
    have q : ∀ (w : World), (binOp .eql 36 (.slice (some ad) n c) (.slice none 0 0)).run Try.prog w = .ok (.bool false) w := fun w => Lib.run_eql_slice_nil w _ _ (some ad) n c 0 0 Try.underlying36
    have hcell : Hid (∀ o j u, (rowsL n 1 f)[j]? = some u → (w.alloc o).cell? (ad.add j) = some u) := Lib.hid fun o j u hj => by
      have hl : j < n * 1 := by have := (List.getElem?_eq_some_iff.1 hj).1; rwa [rowsL_len] at this
      obtain ⟨b, off, e, _, hc⟩ := h.2 (by omega)
      cases e
      rw [Addr.add_lit]
      exact Lib.cell?_alloc_some _ (rowsL_cell hc j u hj)
    have H1 := Lib.hid h1
    clear h h1
    go_enter Try.func70, Try.ntmps70
    go_wp2_with (at_builtin; refine wpList_append_own _ rfl _ _ 36 rfl w.heap.size 3 i0 (.int .i64 0) 1 8 Try.underlying36 hi hz0 hz1 hz2 rfl (by decide) _ _ _ rfl (World.ownsRow_made w #[] 0 (Nat.le_refl _) (Nat.zero_le _) rfl) ad n c (rowsL n 1 f) rfl ?qc1 ?qc2 ?qc3 ?qc4 ?qc5 ?qc6 ?_)
    case qc1 => exact rowsL_len _ _ _
    case qc2 => exact hcell.out _
    case qc3 => exact rowsL_one H1.out
    case qc4 => unfold maxLen; omega
    case qc5 => omega
    case qc6 => simp
    intro v' w1 hown hgrow _
    obtain ⟨A', c', rfl, hcl⟩ := Cl.of_own hn hown
    have hB : Below w.heap.size w w1 := ((Below.refl _ w).alloc (Nat.le_refl _) _).grown hgrow (by simp) (by intro k hk; simp [Value.ownBlock] at hk; omega)
    clear hown hgrow
    have HCL := Lib.hid hcl
    clear hcl
    go_wp2
    go_ret
    exact ⟨A', c', rfl, HCL.out, hB⟩
theorem infoC_Bool : (Try.prog.info? 4).map (fun i => (i.zero, i.size, i.bytes)) = some (some (.bool false), 1, 1) := by kernel_rfl
set_option maxRecDepth 100000 in
set_option maxHeartbeats 1000000 in
theorem cloneBool (w : World) (A : Option Addr) (n c : Nat) (f : Nat → Nat → Value) (h : Sl w w.heap.size 1 A n f) (h1 : ∀ i j, (f i j).oneCell' = true) (hn : n ≤ 4096) :
    Calls Try.prog 48 #[.slice A n c] w fun e w' => ∃ A' c', e = .returned (.slice A' n c') ∧ Cl w' w.heap.size 4 1 A' n f ∧ Below w.heap.size w w' := by
  cases A with
  | none =>
    have h0 : n = 0 := by
      rcases Nat.eq_zero_or_pos n with h0 | h0
      · exact h0
      · obtain ⟨b, off, e, _⟩ := h.2 h0; cases e
    subst h0
    clear h h1
    have q : ∀ (w : World), (binOp .eql 38 (.slice none 0 c) (.slice none 0 0)).run Try.prog w = .ok (.bool true) w := fun w => Lib.run_eql_slice_nil w _ _ none 0 c 0 0 Try.underlying38
    go_enter Try.func48, Try.ntmps48
    go_wp2
    go_ret
    exact ⟨none, 0, rfl, Cl.nil _ _ _ _ _ _, Below.refl _ _⟩
  | some ad =>
    obtain ⟨i0, hi, hz0, hz1, hz2⟩ := info_parts infoC_Bool
    have q : ∀ (w : World), (binOp .eql 38 (.slice (some ad) n c) (.slice none 0 0)).run Try.prog w = .ok (.bool false) w := fun w => Lib.run_eql_slice_nil w _ _ (some ad) n c 0 0 Try.underlying38
    have hcell : Hid (∀ o j u, (rowsL n 1 f)[j]? = some u → (w.alloc o).cell? (ad.add j) = some u) := Lib.hid fun o j u hj => by
      have hl : j < n * 1 := by have := (List.getElem?_eq_some_iff.1 hj).1; rwa [rowsL_len] at this
      obtain ⟨b, off, e, _, hc⟩ := h.2 (by omega)
      cases e
      rw [Addr.add_lit]
      exact Lib.cell?_alloc_some _ (rowsL_cell hc j u hj)
    have H1 := Lib.hid h1
    clear h h1
    go_enter Try.func48, Try.ntmps48
    go_wp2_with (at_builtin; refine wpList_append_own _ rfl _ _ 38 rfl w.heap.size 4 i0 (.bool false) 1 1 Try.underlying38 hi hz0 hz1 hz2 rfl (by decide) _ _ _ rfl (World.ownsRow_made w #[] 0 (Nat.le_refl _) (Nat.zero_le _) rfl) ad n c (rowsL n 1 f) rfl ?qc1 ?qc2 ?qc3 ?qc4 ?qc5 ?qc6 ?_)
    case qc1 => exact rowsL_len _ _ _
    case qc2 => exact hcell.out _
    case qc3 => exact rowsL_one H1.out
    case qc4 => unfold maxLen; omega
    case qc5 => omega
    case qc6 => simp
    intro v' w1 hown hgrow _
    obtain ⟨A', c', rfl, hcl⟩ := Cl.of_own hn hown
    have hB : Below w.heap.size w w1 := ((Below.refl _ w).alloc (Nat.le_refl _) _).grown hgrow (by simp) (by intro k hk; simp [Value.ownBlock] at hk; omega)
    clear hown hgrow
    have HCL := Lib.hid hcl
    clear hcl
    go_wp2
    go_ret
    exact ⟨A', c', rfl, HCL.out, hB⟩

set_option maxRecDepth 100000 in
set_option maxHeartbeats 800000 in
theorem idxRdg (w : World) (A : Option Addr) (n c : Nat) (f : Nat → Nat → Value) (h : Sl w w.heap.size 2 A n f) (g : Nat) (lb : Array Value) (q : Nat → Bool)
    (eg : ∀ args w, (callFunc g args).run Try.prog w = .ok (.enter g args) w)
    (hq : ClosAt Try.prog w g lb n (fun i => .agg #[f i 0, f i 1]) q) :
    Calls Try.prog 72 #[.slice A n c, .func (.func g) #[] lb] w fun e w' => e = .returned (.int .i64 (idxN n q)) ∧ Below w.heap.size w w' := by
  have hn := h.1
  have HQ := Lib.hid hq; clear hq
  go_enter Try.func72, Try.ntmps72
  go_wp2_with fail
  go_loopw [8] (fun i wr => ∃ k : Nat, k ≤ n ∧ i = .int .i64 k ∧ Hid (∀ j, j < k → q j = false) ∧ Below w.heap.size w wr) (fun i _ => n - (intOf i).toNat)
  case atStart => exact ⟨0, Nat.zero_le _, rfl, Lib.hid fun j hj => absurd hj (by omega), Below.refl _ _⟩
  case round =>
    obtain ⟨k, hk, rfl, hl, hb⟩ := hrel
    by_cases hlt : k < n
    · obtain ⟨b, off, rfl, hB, c0, c1⟩ := (h.below hb).at2 hlt
      have hb2 := hb.size
      go_wp2_with fail
      refine (HQ.out wr hb k hlt).mono ?_
      rintro e w' ⟨rfl, hb'⟩
      have hbb := hb.trans (hb'.mono hb2)
      cases hqk : q k with
      | true =>
        have HK := Lib.hid hqk; clear hqk
        go_wp2_with fail
        go_ret
        exact ⟨ret_int (idxN_some hlt hl.out HK.out).symm, hbb⟩
      | false =>
        have HK := Lib.hid hqk; clear hqk
        go_wp2_with fail
        go_roundw
        case rel => exact ⟨k + 1, by omega, by go_num, Lib.hid fun j hj => if e : j = k then by subst e; exact HK.out else hl.out j (by omega), hbb⟩
        case measure => simp [intOf]; omega
    · go_wp2_with fail
      go_ret
      obtain rfl : k = n := by omega
      exact ⟨ret_int (idxN_none hl.out).symm, hb⟩

set_option maxHeartbeats 400000 in
theorem conRdg (w : World) (A : Option Addr) (n c : Nat) (f : Nat → Nat → Value) (h : Sl w w.heap.size 2 A n f) (g : Nat) (lb : Array Value) (q : Nat → Bool)
    (eg : ∀ args w, (callFunc g args).run Try.prog w = .ok (.enter g args) w)
    (hq : ClosAt Try.prog w g lb n (fun i => .agg #[f i 0, f i 1]) q) :
    Calls Try.prog 45 #[.slice A n c, .func (.func g) #[] lb] w fun e w' => e = .returned (.bool (!(allN n fun i => !q i))) ∧ Below w.heap.size w w' := by
  have H := Lib.hid (idxRdg w A n c f h g lb q eg hq); clear hq h eg
  have hi := Lib.hid (idxN_nonneg n q)
  go_enter Try.func45, Try.ntmps45
  go_wp2_with fail
  refine H.out.mono ?_
  rintro e w' ⟨rfl, hb⟩
  go_wp2_with fail
  go_ret
  exact ⟨ret_bool (by simpa using hi.out), hb⟩

set_option maxRecDepth 100000 in
set_option maxHeartbeats 800000 in
theorem idxInt (w : World) (A : Option Addr) (n c : Nat) (f : Nat → Nat → Value) (h : Sl w w.heap.size 1 A n f) (g : Nat) (lb : Array Value) (q : Nat → Bool)
    (eg : ∀ args w, (callFunc g args).run Try.prog w = .ok (.enter g args) w)
    (hq : ClosAt Try.prog w g lb n (fun i => f i 0) q) :
    Calls Try.prog 81 #[.slice A n c, .func (.func g) #[] lb] w fun e w' => e = .returned (.int .i64 (idxN n q)) ∧ Below w.heap.size w w' := by
  have hn := h.1
  have HQ := Lib.hid hq; clear hq
  go_enter Try.func81, Try.ntmps81
  go_wp2_with fail
  go_loopw [8] (fun i wr => ∃ k : Nat, k ≤ n ∧ i = .int .i64 k ∧ Hid (∀ j, j < k → q j = false) ∧ Below w.heap.size w wr) (fun i _ => n - (intOf i).toNat)
  case atStart => exact ⟨0, Nat.zero_le _, rfl, Lib.hid fun j hj => absurd hj (by omega), Below.refl _ _⟩
  case round =>
    obtain ⟨k, hk, rfl, hl, hb⟩ := hrel
    by_cases hlt : k < n
    · obtain ⟨b, off, rfl, hB, c0⟩ := (h.below hb).at1 hlt
      have hb2 := hb.size
      go_wp2_with fail
      refine (HQ.out wr hb k hlt).mono ?_
      rintro e w' ⟨rfl, hb'⟩
      have hbb := hb.trans (hb'.mono hb2)
      cases hqk : q k with
      | true =>
        have HK := Lib.hid hqk; clear hqk
        go_wp2_with fail
        go_ret
        exact ⟨ret_int (idxN_some hlt hl.out HK.out).symm, hbb⟩
      | false =>
        have HK := Lib.hid hqk; clear hqk
        go_wp2_with fail
        go_roundw
        case rel => exact ⟨k + 1, by omega, by go_num, Lib.hid fun j hj => if e : j = k then by subst e; exact HK.out else hl.out j (by omega), hbb⟩
        case measure => simp [intOf]; omega
    · go_wp2_with fail
      go_ret
      obtain rfl : k = n := by omega
      exact ⟨ret_int (idxN_none hl.out).symm, hb⟩

set_option maxHeartbeats 400000 in
theorem conInt (w : World) (A : Option Addr) (n c : Nat) (f : Nat → Nat → Value) (h : Sl w w.heap.size 1 A n f) (g : Nat) (lb : Array Value) (q : Nat → Bool)
    (eg : ∀ args w, (callFunc g args).run Try.prog w = .ok (.enter g args) w)
    (hq : ClosAt Try.prog w g lb n (fun i => f i 0) q) :
    Calls Try.prog 62 #[.slice A n c, .func (.func g) #[] lb] w fun e w' => e = .returned (.bool (!(allN n fun i => !q i))) ∧ Below w.heap.size w w' := by
  have H := Lib.hid (idxInt w A n c f h g lb q eg hq); clear hq h eg
  have hi := Lib.hid (idxN_nonneg n q)
  go_enter Try.func62, Try.ntmps62
  go_wp2_with fail
  refine H.out.mono ?_
  rintro e w' ⟨rfl, hb⟩
  go_wp2_with fail
  go_ret
  exact ⟨ret_bool (by simpa using hi.out), hb⟩
end Go.Proofs.Ytnmccbjdfdbgpaa
/- What is proved: a contract of ascending at int. Conditions: the list lies in memory; it is short. -/
namespace Go.Proofs.Ytnmccbjdfdbgpaa
open Go.RowKit

/-- The numbers l lie at A. -/
def IntsAt (w : World) (B : Nat) (A : Option Addr) (l : List Int) : Prop := Sl w B 1 A l.length fun i _ => .int .i64 (getI l i)
theorem map_getI (l : List Int) (i : Nat) (hi : i < l.length) : (l.map (Value.int .i64))[i]? = some (.int .i64 (getI l i)) := by
  unfold getI
  rw [List.getElem?_map, List.getElem?_eq_getElem hi, List.getD_eq_getElem?_getD, List.getElem?_eq_getElem hi]; rfl
theorem sort_any (w : World) (g c : Nat) (t : TypeId) (cur : Array Value) (l : List Int) (hb : Bk w g t cur) (hc : ∀ i, i < l.length → cur[i]? = some (.int .i64 (getI l i))) (hn : l.length ≤ 4096) :
    Calls Try.prog 73 #[.slice (some ⟨g, 0, none⟩) l.length c] w fun e w' => e = .returned (.tuple #[]) ∧ (∃ cur', Bk w' g t cur' ∧ ∀ i, i < l.length → cur'[i]? = some (.int .i64 (getI (sortB l) i))) ∧ w.grownBy w' (some g) := by
  have ht : cur.toList.take l.length = l.map (Value.int .i64) := by
    apply List.ext_getElem?
    intro j
    by_cases hj : j < l.length
    · rw [List.getElem?_take_of_lt hj, Array.getElem?_toList, hc j hj, map_getI l j hj]
    · rw [List.getElem?_take_eq_none (by omega), List.getElem?_eq_none (by simp; omega)]
  have hlen : l.length ≤ cur.size := by
    rcases Nat.eq_zero_or_pos l.length with h | h
    · omega
    · have := hc (l.length - 1) (by omega)
      have := (Array.getElem?_eq_some_iff.1 this).1
      omega
  have h := Try.slices_Sort_int g 0 c l w (holds_of_blockI hb ht) hb.lt (by omega)
  refine h.mono ?_
  rintro e w' ⟨rfl, n, os, rfl⟩
  refine ⟨rfl, ⟨_, heap_sortedI _ hb, fun i hi => ?_⟩, grownBy_sortedI _⟩
  have hl := sortB_len l
  have h2 := take_putCellsI cur (sortB l) (by omega)
  have h3 : ((Sort.putCells (Value.int .i64) 0 (sortB l).toArray cur).toList.take (sortB l).length)[i]? = ((sortB l).map (Value.int .i64))[i]? := by rw [h2]
  rw [List.getElem?_take_of_lt (by omega), Array.getElem?_toList, map_getI _ _ (by omega)] at h3
  exact h3
theorem ascending_any (w : World) (A : Option Addr) (c : Nat) (l : List Int) (h : IntsAt w w.heap.size A l) (hn : l.length ≤ 4096) :
    Calls Try.prog 47 #[.slice A l.length c] w fun e w' => ∃ A' c', e = .returned (.slice A' l.length c') ∧ Cl w' w.heap.size 3 1 A' l.length (fun i _ => .int .i64 (getI (sortB l) i)) ∧ Below w.heap.size w w' := by
  have HC := Lib.hid (cloneInt w A l.length c _ h (fun _ _ => rfl) hn)
  have HN := Lib.hid hn
  obtain ⟨n, hl⟩ : ∃ n, l.length = n := ⟨_, rfl⟩
  have HL := Lib.hid hl
  rw [hl] at HC ⊢
  clear h hn hl
  go_enter Try.func47, Try.ntmps47
  go_wp2_with fail
  refine HC.out.mono ?_
  rintro e w1 ⟨A1, c1, rfl, hcl, hb⟩
  have HCL := Lib.hid hcl
  have HB := Lib.hid hb
  clear hcl hb HC
  rcases Nat.eq_zero_or_pos n with h0 | h0
  · subst h0
    have HS := Lib.hid (Try.slices_Sort_int_none A1 c1 w1)
    go_wp2_with fail
    refine HS.out.mono ?_
    rintro e w2 ⟨rfl, rfl⟩
    go_wp2_with fail
    go_ret
    exact ⟨A1, c1, rfl, Cl.nil _ _ _ _ _ _, HB.out⟩
  · obtain ⟨g, cur, rfl, hg, hbk, hc⟩ := HCL.out.2 h0
    have hs := sort_any w1 g c1 _ cur l hbk (fun i hi => by have := hc i (by rw [← HL.out]; exact hi) 0 (by omega); simpa using this) HN.out
    rw [HL.out] at hs
    have HS := Lib.hid hs
    have HG := Lib.hid hg
    have H0 := Lib.hid h0
    clear hs hc hbk hg h0
    go_wp2_with fail
    refine HS.out.mono ?_
    rintro e w2 ⟨rfl, ⟨cur', hb2, hc2⟩, hgr⟩
    have HB2 := Lib.hid hb2
    have HC2 := Lib.hid hc2
    have HGR := Lib.hid hgr
    clear hb2 hc2 hgr HS
    go_wp2_with fail
    go_ret
    have hcl : Cl w2 w.heap.size 3 1 (some ⟨g, 0, none⟩) n fun i _ => .int .i64 (getI (sortB l) i) := by
      refine ⟨by rw [← HL.out]; exact HN.out, fun _ => ⟨g, cur', rfl, HG.out, HB2.out, fun i hi j hj => ?_⟩⟩
      obtain rfl : j = 0 := by omega
      have := HC2.out i hi
      simpa using this
    have hbb : Below w.heap.size w w2 := HB.out.grown HGR.out HB.out.size fun k hk => by
      injection hk with hk
      subst hk
      exact HG.out
    exact ⟨_, c1, rfl, hcl, hbb⟩
end Go.Proofs.Ytnmccbjdfdbgpaa
/- What is proved: contracts of slices.Repeat of a list of one element. Conditions: the list lies in memory; from 1 to 8 times. -/
namespace Go.Proofs.Ytnmccbjdfdbgpaa
open Go.RowKit

/-- c cells, of which the first m are v. -/
def repA (v z : Value) (m c : Nat) : Array Value := ((List.range c).map fun i => if i < m then v else z).toArray
theorem repA_size (v z : Value) (m c : Nat) : (repA v z m c).size = c := by simp [repA]
theorem repA_get (v z : Value) (m c i : Nat) (hi : i < c) : (repA v z m c)[i]? = some (if i < m then v else z) := by simp [repA, hi]
theorem repA_zero (v z : Value) (c : Nat) : repA v z 0 c = (List.replicate c z).toArray := by
  unfold repA
  congr 1
  apply List.ext_getElem?
  intro i
  by_cases hi : i < c <;> simp [hi]
/-- j of v, written behind the first m. -/
theorem repA_more (v z : Value) (m j c : Nat) (h : m + j ≤ c) : ((repA v z m c).toList.take m ++ List.replicate j v ++ (repA v z m c).toList.drop (m + j)).toArray = repA v z (m + j) c := by
  have hl : (repA v z m c).toList.length = c := by simp [repA]
  have hl1 : ((repA v z m c).toList.take m).length = m := by rw [List.length_take, hl]; omega
  have hl2 : ((repA v z m c).toList.take m ++ List.replicate j v).length = m + j := by rw [List.length_append, hl1, List.length_replicate]
  apply Array.ext_getElem?
  intro i
  by_cases hi : i < c
  · rw [repA_get _ _ _ _ _ hi, List.getElem?_toArray]
    by_cases h1 : i < m
    · rw [List.append_assoc, List.getElem?_append_left (by omega), List.getElem?_take_of_lt h1, Array.getElem?_toList, repA_get _ _ _ _ _ hi, if_pos h1, if_pos (by omega)]
    · by_cases h2 : i < m + j
      · rw [List.append_assoc, List.getElem?_append_right (by omega), hl1, List.getElem?_append_left (by rw [List.length_replicate]; omega), List.getElem?_replicate, if_pos (by omega), if_pos h2]
      · rw [List.getElem?_append_right (by omega), hl2, List.getElem?_drop, Array.getElem?_toList, show m + j + (i - (m + j)) = i from by omega, repA_get _ _ _ _ _ hi, if_neg h1, if_neg h2]
  · rw [Array.getElem?_eq_none (xs := repA v z (m + j) c) (by rw [repA_size]; omega), Array.getElem?_eq_none]
    rw [List.size_toArray, List.length_append, hl2, List.length_drop, hl]; omega
theorem made_rep (v z : Value) (hz : z.cells = #[z]) (c : Nat) : madeCells z.cells c = repA v z 0 c := by
  rw [hz]
  apply Array.ext_getElem?
  intro i
  by_cases hi : i < c
  · rw [repA_get _ _ _ _ _ hi, if_neg (by omega)]
    unfold madeCells
    simp [hi, Nat.mod_one]
  · rw [Array.getElem?_eq_none (by rw [size_madeCells]; omega), Array.getElem?_eq_none (by rw [repA_size]; omega)]
theorem wpo_copyR {P : Program} {o : Oper} {a : Act} {w : World} {K : Act → World → Prop} {Q : Exit → Act → World → Prop} (d s : Operand) (dT sT : TypeId) (ho : o.op = .call { callee := .builtin .copy, args := #[d, s], argTypes := #[dT, sT] })
    (elem : TypeId) (hu : P.underlying dT = some (.slice elem)) (hsz : (P.info? elem).map (·.size) = some 1) (g off dLen dCap : Nat) (ad : Addr) (sLen sCap : Nat) (hd : a.eval d = .slice (some ⟨g, off, none⟩) dLen dCap) (hs : a.eval s = .slice (some ad) sLen sCap)
    (cur : Array Value) (t : TypeId) (hg : w.heap[g]? = some (.cells cur t (0, 0))) (cs : List Value) (hn : cs.length = Nat.min sLen dLen) (hsrc : ∀ j v, cs[j]? = some v → w.cell? (ad.add j) = some v) (hfit : off + cs.length ≤ cur.size) (h1 : ∀ v ∈ cs, v.oneCell' = true)
    (h : K (a.put o.dst (goInt cs.length)) (w.setRow g (cur.toList.take off ++ cs ++ cur.toList.drop (off + cs.length)).toArray)) : o.wp P a w K Q := by
  have hrun := run_copy_row (P := P) w dT sT o.type elem g off dLen dCap ad sLen sCap cur t cs hu hsz hg hn hsrc hfit h1
  unfold Oper.wp execOp
  simp only [ho, resolve, invoke, builtin, Sem.run_bind, Sem.run_pure, Result.andThen_ok, List.map_toArray, List.map_cons, List.map_nil, hd, hs, hrun]
  exact h
theorem Bk.setRow {w : World} {g : Nat} {t : TypeId} {cs cs' : Array Value} (h : Bk w g t cs) : Bk (w.setRow g cs') g t cs' := setRow_heap w g _ _ t _ h
theorem Only.setRow (w : World) (g : Nat) (cs : Array Value) : Only g w (w.setRow g cs) := ⟨rfl, rfl, rfl, by simp [World.setRow], fun b hb => setRow_other w g b cs hb⟩

theorem infoR_Bool : (Try.prog.info? 4).map (fun i => (i.zero, i.size, i.bytes)) = some (some (.bool false), 1, 1) := by kernel_rfl
set_option maxRecDepth 100000 in
set_option maxHeartbeats 4000000 in
theorem repeatBool (w : World) (xb xo xc : Nat) (b : Bool) (hx : w.cell? ⟨xb, xo, none⟩ = some (.bool b)) (k : Nat) (hk : 1 ≤ k ∧ k ≤ 8) :
    Calls Try.prog 42 #[.slice (some ⟨xb, xo, none⟩) 1 xc, .int .i64 k] w fun e w' => ∃ g, e = .returned (.slice (some ⟨g, 0, none⟩) k k) ∧ w.heap.size ≤ g ∧ Bk w' g 4 (repA (.bool b) (.bool false) k k) ∧ Below w.heap.size w w' := by
  have hxb : xb < w.heap.size := by
    rcases Nat.lt_or_ge xb w.heap.size with h | h
    · exact h
    · simp [World.cell?, Array.getElem?_eq_none h] at hx
  obtain ⟨i0, hi0, hz0, hz1, hz2⟩ := info_parts infoR_Bool
  have HSZ : Hid ((Try.prog.info? 4).map (·.size) = some 1) := Lib.hid (by rw [hi0]; simp [hz1])
  have KM : ∀ w : World, (Instr.makeSlice 38 (.int .i64 (k : Int)) (.int .i64 (k : Int))).run Try.prog w = .ok (.slice (some ⟨w.heap.size, 0, none⟩) k k) (w.alloc (.cells (repA (.bool b) (.bool false) 0 k) 4)) := fun w => by
    have hm := run_makeSlice (P := Try.prog) w 38 4 i0 _ Try.underlying38 hi0 hz0 .i64 .i64 (k : Int) (k : Int) (by omega) (by omega) (by rw [hz1, Int.toNat_natCast]; omega) (by rw [hz2]; omega) (by omega)
    rw [hz1, Int.toNat_natCast, Nat.mul_one, made_rep (.bool b) _ rfl] at hm
    exact hm
  have HM : Hid (∀ w', Calls Try.prog 71 #[.int .u64 1, .int .u64 k] w' fun e w'' => e = .returned (.tuple #[.int .u64 0, .int .u64 k]) ∧ w'' = w') := Lib.hid fun w' => by
    have h := Try.bits_Mul 1 k (by omega) (by omega) w'
    rw [show 1 * k / 18446744073709551616 = 0 from by omega, show 1 * k % 18446744073709551616 = k from by omega] at h
    exact h
  have HK := Lib.hid hk
  have hk1 : (1 : Int) ≤ (k : Int) := by omega
  have hk8 : (k : Int) ≤ 8 := by omega
  clear hi0 hz0 hz1 hz2
  go_enter Try.func42, Try.ntmps42
  go_wp2_with fail
  refine (HM.out _).mono ?_
  rintro e W0 ⟨rfl, rfl⟩
  have hc1 : (W0.alloc (.cells (repA (.bool b) (.bool false) 0 k) 4)).cell? ⟨xb, xo, none⟩ = some (.bool b) := Lib.cell?_alloc_some _ hx
  go_wp2_with (refine wpList_copy_own rfl (.tmp 31) (.tmp 32) 38 38 rfl 4 Try.underlying38 HSZ.out W0.heap.size 0 k k ⟨xb, xo, none⟩ 1 xc rfl rfl (repA (.bool b) (.bool false) 0 k) 4 (Bk.new W0 _ _) [.bool b] ?qa ?qb ?qc ?qd ?_)
  case qa => simp [Nat.min_def]; omega
  case qb =>
    intro j u hj
    match j, hj with
    | 0, hj => rw [Addr.add_lit, Nat.add_zero]; rw [hc1]; simpa using hj
    | j + 1, hj => simp at hj
  case qc => rw [repA_size]; simp; omega
  case qd => simp [Value.oneCell']
  obtain ⟨w2, hw2⟩ : ∃ w2, (W0.alloc (.cells (repA (.bool b) (.bool false) 0 k) 4)).setRow W0.heap.size ((.bool b : Value) :: (repA (.bool b) (.bool false) 0 k).toList.tail).toArray = w2 := ⟨_, rfl⟩
  have HB2 : Hid (Bk w2 W0.heap.size 4 (repA (.bool b) (.bool false) 1 k) ∧ Below W0.heap.size W0 w2) := Lib.hid (by
    have h1 := repA_more (.bool b) (.bool false) 0 1 k (by omega)
    rw [← hw2]
    have h2 : (Bk ((W0.alloc (.cells (repA (.bool b) (.bool false) 0 k) 4)).setRow W0.heap.size ((.bool b : Value) :: (repA (.bool b) (.bool false) 0 k).toList.tail).toArray) W0.heap.size 4 _) := Bk.setRow (Bk.new W0 _ _)
    refine ⟨?_, ((Below.refl _ _).alloc (Nat.le_refl _) _).trans ((Only.setRow _ _ _).below (Nat.le_refl _))⟩
    rw [Nat.zero_add] at h1
    rw [← h1]
    simp only [List.take_zero, List.nil_append, List.replicate_one, List.singleton_append, List.drop_one]
    exact h2)
  rw [hw2]
  obtain ⟨g, hg⟩ : ∃ g, W0.heap.size = g := ⟨_, rfl⟩
  have HG : Hid (W0.heap.size ≤ g) := Lib.hid (by rw [hg]; exact Nat.le_refl _)
  rw [hg] at HB2 ⊢
  clear hw2 hc1 KM HM i0 hxb hx
  go_wp2_with fail
  go_loopw [8] (fun n wr => ∃ m : Nat, 1 ≤ m ∧ m ≤ k ∧ n = .int .i64 m ∧ Hid (Bk wr g 4 (repA (.bool b) (.bool false) m k) ∧ Below W0.heap.size W0 wr)) (fun n _ => k - (intOf n).toNat)
  case atStart => exact ⟨1, Nat.le_refl _, HK.out.1, rfl, Lib.hid ⟨HB2.out.1, by have := HB2.out.2; rw [← hg] at this; exact this⟩⟩
  case round =>
    obtain ⟨m, hm1, hmk, rfl, HBK⟩ := hrel
    by_cases hlt : m < k
    · have hmi : (m : Int) < (k : Int) := by omega
      have h0m : (0 : Int) ≤ (m : Int) := by omega
      have hsub : ((k : Int) - (m : Int)) = ((k - m : Nat) : Int) := by omega
      go_wp2_with fail
      refine wp_region_stepsM (by kernel_rfl) (by kernel_rfl) 7 (by decide) (fun bq w1 => if bq = true then Bk w1 g 4 (repA (.bool b) (.bool false) (m + Nat.min m (k - m)) k) ∧ Below W0.heap.size W0 w1 else Bk w1 g 4 (repA (.bool b) (.bool false) m k) ∧ Below W0.heap.size W0 w1) (fun _ _ _ => True)
        (fun ix u _ _ => match ix with
          | 0 => u = .int .i64 m
          | 1 => u = .slice (some ⟨g, 0, none⟩) k k
          | 2 => u = .int .i64 m
          | 3 => u = .slice (some ⟨g, m, none⟩) (k - m) (k - m)
          | 4 => u = .slice (some ⟨g, 0, none⟩) k k
          | 5 => u = .int .i64 m
          | 6 => u = .slice (some ⟨g, 0, none⟩) m k
          | 7 => u = .int .i64 (Nat.min m (k - m) : Nat)
          | 8 => u = .int .i64 (m + Nat.min m (k - m) : Nat)
          | _ => u = .int .i64 (m + Nat.min m (k - m) : Nat)) ⟨HBK.out.1, HBK.out.2.drew⟩ (fun _ _ _ _ _ _ _ _ h _ => h) ?_ ?_
      · refine ⟨?_, ?_, ?_, ?_, ?_, ?_, ?_, ?_, ?_, ?_, trivial⟩
        · intro a w1 vs K bq Hb HJ HK HD HN kk
          have e8 := HK 8 (by decide)
          go_simp; exact kk _ _ (by simp) (by simpa using HJ) trivial rfl
        · intro a w1 vs K bq Hb HJ HK HD HN kk
          obtain rfl : bq = false := by cases bq with | false => rfl | true => exact absurd (Hb rfl).2 (by decide)
          have HJ' : Bk w1 g 4 (repA (.bool b) (.bool false) m k) ∧ Below W0.heap.size W0 w1 := HJ
          have e7 := HK 7 (by decide)
          go_simp; exact kk _ _ (by simp) HJ trivial rfl
        · intro a w1 vs K bq Hb HJ HK HD HN kk
          obtain rfl : bq = false := by cases bq with | false => rfl | true => exact absurd (Hb rfl).2 (by decide)
          have HJ' : Bk w1 g 4 (repA (.bool b) (.bool false) m k) ∧ Below W0.heap.size W0 w1 := HJ
          have e8 := HK 8 (by decide)
          go_simp; exact kk _ _ (by simp) HJ trivial rfl
        · intro a w1 vs K bq Hb HJ HK HD HN kk
          obtain rfl : bq = false := by cases bq with | false => rfl | true => exact absurd (Hb rfl).2 (by decide)
          have HJ' : Bk w1 g 4 (repA (.bool b) (.bool false) m k) ∧ Below W0.heap.size W0 w1 := HJ
          have e39 := (HD 1 _ 39 rfl rfl rfl).1.trans (HD 1 _ 39 rfl rfl rfl).2
          have e40 := (HD 2 _ 40 rfl rfl rfl).1.trans (HD 2 _ 40 rfl rfl rfl).2
          have hkm : ¬ k = m := by omega
          go_simp; exact kk _ _ (by simp) HJ trivial rfl
        · intro a w1 vs K bq Hb HJ HK HD HN kk
          obtain rfl : bq = false := by cases bq with | false => rfl | true => exact absurd (Hb rfl).2 (by decide)
          have HJ' : Bk w1 g 4 (repA (.bool b) (.bool false) m k) ∧ Below W0.heap.size W0 w1 := HJ
          have e7 := HK 7 (by decide)
          go_simp; exact kk _ _ (by simp) HJ trivial rfl
        · intro a w1 vs K bq Hb HJ HK HD HN kk
          obtain rfl : bq = false := by cases bq with | false => rfl | true => exact absurd (Hb rfl).2 (by decide)
          have HJ' : Bk w1 g 4 (repA (.bool b) (.bool false) m k) ∧ Below W0.heap.size W0 w1 := HJ
          have e8 := HK 8 (by decide)
          go_simp; exact kk _ _ (by simp) HJ trivial rfl
        · intro a w1 vs K bq Hb HJ HK HD HN kk
          obtain rfl : bq = false := by cases bq with | false => rfl | true => exact absurd (Hb rfl).2 (by decide)
          have HJ' : Bk w1 g 4 (repA (.bool b) (.bool false) m k) ∧ Below W0.heap.size W0 w1 := HJ
          have e42 := (HD 4 _ 42 rfl rfl rfl).1.trans (HD 4 _ 42 rfl rfl rfl).2
          have e43 := (HD 5 _ 43 rfl rfl rfl).1.trans (HD 5 _ 43 rfl rfl rfl).2
          go_simp; exact kk _ _ (by simp) HJ trivial rfl
        · intro a w1 vs K bq Hb HJ HK HD HN kk
          obtain rfl : bq = false := by cases bq with | false => rfl | true => exact absurd rfl (Hb rfl).1
          have HJ' : Bk w1 g 4 (repA (.bool b) (.bool false) m k) ∧ Below W0.heap.size W0 w1 := HJ
          have e41 := (HD 3 _ 41 rfl rfl rfl).1.trans (HD 3 _ 41 rfl rfl rfl).2
          have e44 := (HD 6 _ 44 rfl rfl rfl).1.trans (HD 6 _ 44 rfl rfl rfl).2
          exact wpo_copyR (.tmp 41) (.tmp 44) 38 38 rfl 4 Try.underlying38 HSZ.out g m (k - m) (k - m) ⟨g, 0, none⟩ m k (by simpa [Act.eval] using e41) (by simpa [Act.eval] using e44) (repA (.bool b) (.bool false) m k) 4 HJ'.1 (List.replicate (Nat.min m (k - m)) (.bool b)) (by simp) (fun j u hj => by
              rw [List.getElem?_replicate] at hj
              split at hj
              · rename_i hlt
                have hlt2 : j < m := by have : Nat.min m (k - m) ≤ m := Nat.min_le_left m (k - m); omega
                rw [Addr.add_lit, Nat.zero_add, HJ'.1.cell, repA_get _ _ _ _ _ (by omega), if_pos hlt2]; exact hj
              · exact absurd hj (by simp)) (by rw [repA_size, List.length_replicate]; have : Nat.min m (k - m) ≤ k - m := Nat.min_le_right m (k - m); omega) (by intro u hu; rw [List.eq_of_mem_replicate hu]; rfl)
            (kk _ _ (by simp) (by
              rw [List.length_replicate, repA_more _ _ _ _ _ (by have : Nat.min m (k - m) ≤ k - m := Nat.min_le_right m (k - m); omega)]
              exact ⟨Bk.setRow HJ'.1, HJ'.2.trans ((Only.setRow _ _ _).below HG.out)⟩) trivial (by show _ = _; rw [List.length_replicate]; rfl))
        · intro a w1 vs K bq Hb HJ HK HD HN kk
          have e38 := (HD 0 _ 38 rfl rfl rfl).1.trans (HD 0 _ 38 rfl rfl rfl).2
          have e45 := (HD 7 _ 45 rfl rfl rfl).1.trans (HD 7 _ 45 rfl rfl rfl).2
          have hmn : Nat.min m (k - m) ≤ m := Nat.min_le_left m (k - m)
          have hwr : IntKind.i64.wrap ((m : Int) + ((Nat.min m (k - m) : Nat) : Int)) = ((m + Nat.min m (k - m) : Nat) : Int) := by rw [IntWalk.i64_in _ (by omega)]; exact (Int.natCast_add _ _).symm
          go_simp; exact kk _ _ (by simp) (by simpa using HJ) trivial (by first | rfl | (show Value.int _ _ = Value.int _ _; rw [hwr]))
        · intro a w1 vs K bq Hb HJ HK HD HN kk
          have e46 := (HD 8 _ 46 rfl rfl rfl).1.trans (HD 8 _ 46 rfl rfl rfl).2
          go_simp; exact kk _ _ (by simp) (by simpa using HJ) trivial rfl
      · intro vs w3 hj hrr
        have e8 : vs 9 = .int .i64 (m + Nat.min m (k - m) : Nat) := hrr 9 _ rfl
        have HJ := Lib.hid hj
        clear hj hrr
        simp only [putAll, Act.put, List.setIfInBounds_toArray, List.set_cons_zero, List.set_cons_succ]
        rw [e8]
        clear e8
        have hmin1 : 1 ≤ Nat.min m (k - m) := by have := Nat.le_min.2 ⟨hm1, (by omega : 1 ≤ k - m)⟩; exact this
        have hmin2 : Nat.min m (k - m) ≤ k - m := Nat.min_le_right _ _
        obtain ⟨j, hj⟩ : ∃ j, Nat.min m (k - m) = j := ⟨_, rfl⟩
        rw [hj] at HJ hmin1 hmin2 ⊢
        clear hj
        go_wp2_with fail
        go_roundw
        case rel => exact ⟨m + j, by omega, by omega, by go_num, HJ⟩
        case measure => simp [intOf]; omega
    · obtain rfl : m = k := by omega
      go_wp2_with fail
      go_ret
      exact ⟨g, rfl, HG.out, HBK.out.1, HBK.out.2⟩

theorem infoR_Int : (Try.prog.info? 3).map (fun i => (i.zero, i.size, i.bytes)) = some (some (.int .i64 0), 1, 8) := by kernel_rfl
set_option maxRecDepth 100000 in
set_option maxHeartbeats 4000000 in
theorem repeatInt (w : World) (xb xo xc : Nat) (b : Int) (hx : w.cell? ⟨xb, xo, none⟩ = some (.int .i64 b)) (k : Nat) (hk : 1 ≤ k ∧ k ≤ 8) :
    Calls Try.prog 64 #[.slice (some ⟨xb, xo, none⟩) 1 xc, .int .i64 k] w fun e w' => ∃ g, e = .returned (.slice (some ⟨g, 0, none⟩) k k) ∧ w.heap.size ≤ g ∧ Bk w' g 3 (repA (.int .i64 b) (.int .i64 0) k k) ∧ Below w.heap.size w w' := by
  have hxb : xb < w.heap.size := by
    rcases Nat.lt_or_ge xb w.heap.size with h | h
    · exact h
    · simp [World.cell?, Array.getElem?_eq_none h] at hx
  obtain ⟨i0, hi0, hz0, hz1, hz2⟩ := info_parts infoR_Int
  have HSZ : Hid ((Try.prog.info? 3).map (·.size) = some 1) := Lib.hid (by rw [hi0]; simp [hz1])
  have KM : ∀ w : World, (Instr.makeSlice 36 (.int .i64 (k : Int)) (.int .i64 (k : Int))).run Try.prog w = .ok (.slice (some ⟨w.heap.size, 0, none⟩) k k) (w.alloc (.cells (repA (.int .i64 b) (.int .i64 0) 0 k) 3)) := fun w => by
    have hm := run_makeSlice (P := Try.prog) w 36 3 i0 _ Try.underlying36 hi0 hz0 .i64 .i64 (k : Int) (k : Int) (by omega) (by omega) (by rw [hz1, Int.toNat_natCast]; omega) (by rw [hz2]; omega) (by omega)
    rw [hz1, Int.toNat_natCast, Nat.mul_one, made_rep (.int .i64 b) _ rfl] at hm
    exact hm
  have HM : Hid (∀ w', Calls Try.prog 71 #[.int .u64 1, .int .u64 k] w' fun e w'' => e = .returned (.tuple #[.int .u64 0, .int .u64 k]) ∧ w'' = w') := Lib.hid fun w' => by
    have h := Try.bits_Mul 1 k (by omega) (by omega) w'
    rw [show 1 * k / 18446744073709551616 = 0 from by omega, show 1 * k % 18446744073709551616 = k from by omega] at h
    exact h
  have HK := Lib.hid hk
  have hk1 : (1 : Int) ≤ (k : Int) := by omega
  have hk8 : (k : Int) ≤ 8 := by omega
  clear hi0 hz0 hz1 hz2
  go_enter Try.func64, Try.ntmps64
  go_wp2_with fail
  refine (HM.out _).mono ?_
  rintro e W0 ⟨rfl, rfl⟩
  have hc1 : (W0.alloc (.cells (repA (.int .i64 b) (.int .i64 0) 0 k) 3)).cell? ⟨xb, xo, none⟩ = some (.int .i64 b) := Lib.cell?_alloc_some _ hx
  go_wp2_with (refine wpList_copy_own rfl (.tmp 31) (.tmp 32) 36 36 rfl 3 Try.underlying36 HSZ.out W0.heap.size 0 k k ⟨xb, xo, none⟩ 1 xc rfl rfl (repA (.int .i64 b) (.int .i64 0) 0 k) 3 (Bk.new W0 _ _) [.int .i64 b] ?qa ?qb ?qc ?qd ?_)
  case qa => simp [Nat.min_def]; omega
  case qb =>
    intro j u hj
    match j, hj with
    | 0, hj => rw [Addr.add_lit, Nat.add_zero]; rw [hc1]; simpa using hj
    | j + 1, hj => simp at hj
  case qc => rw [repA_size]; simp; omega
  case qd => simp [Value.oneCell']
  obtain ⟨w2, hw2⟩ : ∃ w2, (W0.alloc (.cells (repA (.int .i64 b) (.int .i64 0) 0 k) 3)).setRow W0.heap.size ((.int .i64 b : Value) :: (repA (.int .i64 b) (.int .i64 0) 0 k).toList.tail).toArray = w2 := ⟨_, rfl⟩
  have HB2 : Hid (Bk w2 W0.heap.size 3 (repA (.int .i64 b) (.int .i64 0) 1 k) ∧ Below W0.heap.size W0 w2) := Lib.hid (by
    have h1 := repA_more (.int .i64 b) (.int .i64 0) 0 1 k (by omega)
    rw [← hw2]
    have h2 : (Bk ((W0.alloc (.cells (repA (.int .i64 b) (.int .i64 0) 0 k) 3)).setRow W0.heap.size ((.int .i64 b : Value) :: (repA (.int .i64 b) (.int .i64 0) 0 k).toList.tail).toArray) W0.heap.size 3 _) := Bk.setRow (Bk.new W0 _ _)
    refine ⟨?_, ((Below.refl _ _).alloc (Nat.le_refl _) _).trans ((Only.setRow _ _ _).below (Nat.le_refl _))⟩
    rw [Nat.zero_add] at h1
    rw [← h1]
    simp only [List.take_zero, List.nil_append, List.replicate_one, List.singleton_append, List.drop_one]
    exact h2)
  rw [hw2]
  obtain ⟨g, hg⟩ : ∃ g, W0.heap.size = g := ⟨_, rfl⟩
  have HG : Hid (W0.heap.size ≤ g) := Lib.hid (by rw [hg]; exact Nat.le_refl _)
  rw [hg] at HB2 ⊢
  clear hw2 hc1 KM HM i0 hxb hx
  go_wp2_with fail
  go_loopw [8] (fun n wr => ∃ m : Nat, 1 ≤ m ∧ m ≤ k ∧ n = .int .i64 m ∧ Hid (Bk wr g 3 (repA (.int .i64 b) (.int .i64 0) m k) ∧ Below W0.heap.size W0 wr)) (fun n _ => k - (intOf n).toNat)
  case atStart => exact ⟨1, Nat.le_refl _, HK.out.1, rfl, Lib.hid ⟨HB2.out.1, by have := HB2.out.2; rw [← hg] at this; exact this⟩⟩
  case round =>
    obtain ⟨m, hm1, hmk, rfl, HBK⟩ := hrel
    by_cases hlt : m < k
    · have hmi : (m : Int) < (k : Int) := by omega
      have h0m : (0 : Int) ≤ (m : Int) := by omega
      have hsub : ((k : Int) - (m : Int)) = ((k - m : Nat) : Int) := by omega
      go_wp2_with fail
      refine wp_region_stepsM (by kernel_rfl) (by kernel_rfl) 7 (by decide) (fun bq w1 => if bq = true then Bk w1 g 3 (repA (.int .i64 b) (.int .i64 0) (m + Nat.min m (k - m)) k) ∧ Below W0.heap.size W0 w1 else Bk w1 g 3 (repA (.int .i64 b) (.int .i64 0) m k) ∧ Below W0.heap.size W0 w1) (fun _ _ _ => True)
        (fun ix u _ _ => match ix with
          | 0 => u = .int .i64 m
          | 1 => u = .slice (some ⟨g, 0, none⟩) k k
          | 2 => u = .int .i64 m
          | 3 => u = .slice (some ⟨g, m, none⟩) (k - m) (k - m)
          | 4 => u = .slice (some ⟨g, 0, none⟩) k k
          | 5 => u = .int .i64 m
          | 6 => u = .slice (some ⟨g, 0, none⟩) m k
          | 7 => u = .int .i64 (Nat.min m (k - m) : Nat)
          | 8 => u = .int .i64 (m + Nat.min m (k - m) : Nat)
          | _ => u = .int .i64 (m + Nat.min m (k - m) : Nat)) ⟨HBK.out.1, HBK.out.2.drew⟩ (fun _ _ _ _ _ _ _ _ h _ => h) ?_ ?_
      · refine ⟨?_, ?_, ?_, ?_, ?_, ?_, ?_, ?_, ?_, ?_, trivial⟩
        · intro a w1 vs K bq Hb HJ HK HD HN kk
          have e8 := HK 8 (by decide)
          go_simp; exact kk _ _ (by simp) (by simpa using HJ) trivial rfl
        · intro a w1 vs K bq Hb HJ HK HD HN kk
          obtain rfl : bq = false := by cases bq with | false => rfl | true => exact absurd (Hb rfl).2 (by decide)
          have HJ' : Bk w1 g 3 (repA (.int .i64 b) (.int .i64 0) m k) ∧ Below W0.heap.size W0 w1 := HJ
          have e7 := HK 7 (by decide)
          go_simp; exact kk _ _ (by simp) HJ trivial rfl
        · intro a w1 vs K bq Hb HJ HK HD HN kk
          obtain rfl : bq = false := by cases bq with | false => rfl | true => exact absurd (Hb rfl).2 (by decide)
          have HJ' : Bk w1 g 3 (repA (.int .i64 b) (.int .i64 0) m k) ∧ Below W0.heap.size W0 w1 := HJ
          have e8 := HK 8 (by decide)
          go_simp; exact kk _ _ (by simp) HJ trivial rfl
        · intro a w1 vs K bq Hb HJ HK HD HN kk
          obtain rfl : bq = false := by cases bq with | false => rfl | true => exact absurd (Hb rfl).2 (by decide)
          have HJ' : Bk w1 g 3 (repA (.int .i64 b) (.int .i64 0) m k) ∧ Below W0.heap.size W0 w1 := HJ
          have e39 := (HD 1 _ 39 rfl rfl rfl).1.trans (HD 1 _ 39 rfl rfl rfl).2
          have e40 := (HD 2 _ 40 rfl rfl rfl).1.trans (HD 2 _ 40 rfl rfl rfl).2
          have hkm : ¬ k = m := by omega
          go_simp; exact kk _ _ (by simp) HJ trivial rfl
        · intro a w1 vs K bq Hb HJ HK HD HN kk
          obtain rfl : bq = false := by cases bq with | false => rfl | true => exact absurd (Hb rfl).2 (by decide)
          have HJ' : Bk w1 g 3 (repA (.int .i64 b) (.int .i64 0) m k) ∧ Below W0.heap.size W0 w1 := HJ
          have e7 := HK 7 (by decide)
          go_simp; exact kk _ _ (by simp) HJ trivial rfl
        · intro a w1 vs K bq Hb HJ HK HD HN kk
          obtain rfl : bq = false := by cases bq with | false => rfl | true => exact absurd (Hb rfl).2 (by decide)
          have HJ' : Bk w1 g 3 (repA (.int .i64 b) (.int .i64 0) m k) ∧ Below W0.heap.size W0 w1 := HJ
          have e8 := HK 8 (by decide)
          go_simp; exact kk _ _ (by simp) HJ trivial rfl
        · intro a w1 vs K bq Hb HJ HK HD HN kk
          obtain rfl : bq = false := by cases bq with | false => rfl | true => exact absurd (Hb rfl).2 (by decide)
          have HJ' : Bk w1 g 3 (repA (.int .i64 b) (.int .i64 0) m k) ∧ Below W0.heap.size W0 w1 := HJ
          have e42 := (HD 4 _ 42 rfl rfl rfl).1.trans (HD 4 _ 42 rfl rfl rfl).2
          have e43 := (HD 5 _ 43 rfl rfl rfl).1.trans (HD 5 _ 43 rfl rfl rfl).2
          go_simp; exact kk _ _ (by simp) HJ trivial rfl
        · intro a w1 vs K bq Hb HJ HK HD HN kk
          obtain rfl : bq = false := by cases bq with | false => rfl | true => exact absurd rfl (Hb rfl).1
          have HJ' : Bk w1 g 3 (repA (.int .i64 b) (.int .i64 0) m k) ∧ Below W0.heap.size W0 w1 := HJ
          have e41 := (HD 3 _ 41 rfl rfl rfl).1.trans (HD 3 _ 41 rfl rfl rfl).2
          have e44 := (HD 6 _ 44 rfl rfl rfl).1.trans (HD 6 _ 44 rfl rfl rfl).2
          exact wpo_copyR (.tmp 41) (.tmp 44) 36 36 rfl 3 Try.underlying36 HSZ.out g m (k - m) (k - m) ⟨g, 0, none⟩ m k (by simpa [Act.eval] using e41) (by simpa [Act.eval] using e44) (repA (.int .i64 b) (.int .i64 0) m k) 3 HJ'.1 (List.replicate (Nat.min m (k - m)) (.int .i64 b)) (by simp) (fun j u hj => by
              rw [List.getElem?_replicate] at hj
              split at hj
              · rename_i hlt
                have hlt2 : j < m := by have : Nat.min m (k - m) ≤ m := Nat.min_le_left m (k - m); omega
                rw [Addr.add_lit, Nat.zero_add, HJ'.1.cell, repA_get _ _ _ _ _ (by omega), if_pos hlt2]; exact hj
              · exact absurd hj (by simp)) (by rw [repA_size, List.length_replicate]; have : Nat.min m (k - m) ≤ k - m := Nat.min_le_right m (k - m); omega) (by intro u hu; rw [List.eq_of_mem_replicate hu]; rfl)
            (kk _ _ (by simp) (by
              rw [List.length_replicate, repA_more _ _ _ _ _ (by have : Nat.min m (k - m) ≤ k - m := Nat.min_le_right m (k - m); omega)]
              exact ⟨Bk.setRow HJ'.1, HJ'.2.trans ((Only.setRow _ _ _).below HG.out)⟩) trivial (by show _ = _; rw [List.length_replicate]; rfl))
        · intro a w1 vs K bq Hb HJ HK HD HN kk
          have e38 := (HD 0 _ 38 rfl rfl rfl).1.trans (HD 0 _ 38 rfl rfl rfl).2
          have e45 := (HD 7 _ 45 rfl rfl rfl).1.trans (HD 7 _ 45 rfl rfl rfl).2
          have hmn : Nat.min m (k - m) ≤ m := Nat.min_le_left m (k - m)
          have hwr : IntKind.i64.wrap ((m : Int) + ((Nat.min m (k - m) : Nat) : Int)) = ((m + Nat.min m (k - m) : Nat) : Int) := by rw [IntWalk.i64_in _ (by omega)]; exact (Int.natCast_add _ _).symm
          go_simp; exact kk _ _ (by simp) (by simpa using HJ) trivial (by first | rfl | (show Value.int _ _ = Value.int _ _; rw [hwr]))
        · intro a w1 vs K bq Hb HJ HK HD HN kk
          have e46 := (HD 8 _ 46 rfl rfl rfl).1.trans (HD 8 _ 46 rfl rfl rfl).2
          go_simp; exact kk _ _ (by simp) (by simpa using HJ) trivial rfl
      · intro vs w3 hj hrr
        have e8 : vs 9 = .int .i64 (m + Nat.min m (k - m) : Nat) := hrr 9 _ rfl
        have HJ := Lib.hid hj
        clear hj hrr
        simp only [putAll, Act.put, List.setIfInBounds_toArray, List.set_cons_zero, List.set_cons_succ]
        rw [e8]
        clear e8
        have hmin1 : 1 ≤ Nat.min m (k - m) := by have := Nat.le_min.2 ⟨hm1, (by omega : 1 ≤ k - m)⟩; exact this
        have hmin2 : Nat.min m (k - m) ≤ k - m := Nat.min_le_right _ _
        obtain ⟨j, hj⟩ : ∃ j, Nat.min m (k - m) = j := ⟨_, rfl⟩
        rw [hj] at HJ hmin1 hmin2 ⊢
        clear hj
        go_wp2_with fail
        go_roundw
        case rel => exact ⟨m + j, by omega, by omega, by go_num, HJ⟩
        case measure => simp [intOf]; omega
    · obtain rfl : m = k := by omega
      go_wp2_with fail
      go_ret
      exact ⟨g, rfl, HG.out, HBK.out.1, HBK.out.2⟩
end Go.Proofs.Ytnmccbjdfdbgpaa
/- What is proved: how a voter lies in memory; contracts of NewVoter, is, Live, Counts. Conditions: the voter lies in memory. -/
namespace Go.Proofs.Ytnmccbjdfdbgpaa
open Go.RowKit

def boolA (n : Nat) (f : Nat → Bool) : Array Value := ((List.range n).map fun i => Value.bool (f i)).toArray
def intA (n : Nat) (f : Nat → Int) : Array Value := ((List.range n).map fun i => Value.int .i64 (f i)).toArray
theorem boolA_size (n : Nat) (f : Nat → Bool) : (boolA n f).size = n := by simp [boolA]
theorem intA_size (n : Nat) (f : Nat → Int) : (intA n f).size = n := by simp [intA]
theorem boolA_get (n : Nat) (f : Nat → Bool) (i : Nat) (hi : i < n) : (boolA n f)[i]? = some (.bool (f i)) := by simp [boolA, hi]
theorem intA_get (n : Nat) (f : Nat → Int) (i : Nat) (hi : i < n) : (intA n f)[i]? = some (.int .i64 (f i)) := by simp [intA, hi]
theorem boolA_set (n : Nat) (f : Nat → Bool) (i : Nat) (v : Bool) : (boolA n f).setIfInBounds i (.bool v) = boolA n fun k => if k = i then v else f k := by
  apply Array.ext_getElem?
  intro j
  rw [Array.getElem?_setIfInBounds]
  by_cases hj : j < n
  · rw [boolA_get _ _ _ hj]
    by_cases e : i = j
    · subst e
      rw [if_pos rfl, if_pos (by rw [boolA_size]; exact hj), boolA_get _ _ _ hj, if_pos rfl]
    · rw [if_neg e, boolA_get _ _ _ hj, if_neg (fun h => e h.symm)]
  · rw [Array.getElem?_eq_none (xs := boolA n fun k => if k = i then v else f k) (by rw [boolA_size]; omega)]
    split
    · rw [if_neg (by rw [boolA_size]; omega)]
    · exact Array.getElem?_eq_none (by rw [boolA_size]; omega)
theorem intA_set (n : Nat) (f : Nat → Int) (i : Nat) (v : Int) : (intA n f).setIfInBounds i (.int .i64 v) = intA n fun k => if k = i then v else f k := by
  apply Array.ext_getElem?
  intro j
  rw [Array.getElem?_setIfInBounds]
  by_cases hj : j < n
  · rw [intA_get _ _ _ hj]
    by_cases e : i = j
    · subst e
      rw [if_pos rfl, if_pos (by rw [intA_size]; exact hj), intA_get _ _ _ hj, if_pos rfl]
    · rw [if_neg e, intA_get _ _ _ hj, if_neg (fun h => e h.symm)]
  · rw [Array.getElem?_eq_none (xs := intA n fun k => if k = i then v else f k) (by rw [intA_size]; omega)]
    split
    · rw [if_neg (by rw [intA_size]; omega)]
    · exact Array.getElem?_eq_none (by rw [intA_size]; omega)
theorem boolA_rep (z : Value) (k : Nat) : repA (.bool true) z k k = boolA k fun _ => true := by
  apply Array.ext_getElem?
  intro i
  by_cases hi : i < k
  · rw [repA_get _ _ _ _ _ hi, boolA_get _ _ _ hi, if_pos hi]
  · rw [Array.getElem?_eq_none (by rw [repA_size]; omega), Array.getElem?_eq_none (by rw [boolA_size]; omega)]
theorem intA_rep (v : Int) (z : Value) (k : Nat) : repA (.int .i64 v) z k k = intA k fun _ => v := by
  apply Array.ext_getElem?
  intro i
  by_cases hi : i < k
  · rw [repA_get _ _ _ _ _ hi, intA_get _ _ _ hi, if_pos hi]
  · rw [Array.getElem?_eq_none (by rw [repA_size]; omega), Array.getElem?_eq_none (by rw [intA_size]; omega)]
theorem intA_zero (v z : Int) (k : Nat) : repA (.int .i64 v) (.int .i64 z) 0 k = intA k fun _ => z := by
  apply Array.ext_getElem?
  intro i
  by_cases hi : i < k
  · rw [repA_get _ _ _ _ _ hi, intA_get _ _ _ hi, if_neg (by omega)]
  · rw [Array.getElem?_eq_none (by rw [repA_size]; omega), Array.getElem?_eq_none (by rw [intA_size]; omega)]

/-- A voter. -/
structure VotD where
  n : Nat
  tol : Int
  pat : Int
  live : Nat → Bool
  cnt : Nat → Int
structure VotX where
  vb : Nat
  lb : Nat
  cb : Nat
def votA (X : VotX) (V : VotD) : Array Value := #[.int .i64 V.tol, .int .i64 V.pat, .slice (some ⟨X.lb, 0, none⟩) V.n V.n, .slice (some ⟨X.cb, 0, none⟩) V.n V.n]
structure VotAt (w : World) (B : Nat) (X : VotX) (V : VotD) : Prop where
  v : Bk w X.vb 76 (votA X V)
  l : Bk w X.lb 4 (boolA V.n V.live)
  c : Bk w X.cb 3 (intA V.n V.cnt)
  lo : B ≤ X.vb ∧ B ≤ X.lb ∧ B ≤ X.cb
  n : 1 ≤ V.n ∧ V.n ≤ 8
  tol : 0 ≤ V.tol ∧ V.tol ≤ 1073741824
  pat : 0 ≤ V.pat ∧ V.pat ≤ 1073741824
theorem VotAt.later {w w' : World} {B : Nat} {X : VotX} {V : VotD} (h : VotAt w B X V) (hb : Below w.heap.size w w') : VotAt w' B X V :=
  ⟨h.v.below hb h.v.lt, h.l.below hb h.l.lt, h.c.below hb h.c.lt, h.lo, h.n, h.tol, h.pat⟩
def newV (n : Nat) (t p : Int) : VotD := ⟨n, t, p, fun _ => true, fun _ => 0⟩
/-- What is left by the operations of '&Voter{..}'. -/
def NvR (B k : Nat) (t p : Int) (ix : Nat) (u : Value) (d : Nat → Value) (w1 : World) : Prop :=
  (ix = 9 → u = d 8) ∧
  (ix = 2 → ∃ b, u = .slice (some ⟨b, 0, none⟩) 1 1 ∧ Bk w1 b 4 #[.bool true]) ∧
  (ix = 4 → ∃ g, u = .slice (some ⟨g, 0, none⟩) k k ∧ B ≤ g ∧ Bk w1 g 4 (boolA k fun _ => true)) ∧
  (ix = 6 → ∃ g, u = .slice (some ⟨g, 0, none⟩) k k ∧ B ≤ g ∧ Bk w1 g 3 (intA k fun _ => 0)) ∧
  (ix = 7 → ∃ g g', u = .agg #[.int .i64 t, .int .i64 p, .slice (some ⟨g, 0, none⟩) k k, .slice (some ⟨g', 0, none⟩) k k] ∧ B ≤ g ∧ B ≤ g' ∧ Bk w1 g 4 (boolA k fun _ => true) ∧ Bk w1 g' 3 (intA k fun _ => 0)) ∧
  (ix = 8 → ∃ v g g', u = .pointer (some ⟨v, 0, none⟩) ∧ B ≤ v ∧ B ≤ g ∧ B ≤ g' ∧ Bk w1 v 76 #[.int .i64 t, .int .i64 p, .slice (some ⟨g, 0, none⟩) k k, .slice (some ⟨g', 0, none⟩) k k] ∧ Bk w1 g 4 (boolA k fun _ => true) ∧ Bk w1 g' 3 (intA k fun _ => 0))
theorem NvR.later {B k : Nat} {t p : Int} {ix : Nat} {u : Value} {d : Nat → Value} {w1 w2 : World} (h : NvR B k t p ix u d w1) (hb : Below w1.heap.size w1 w2) : NvR B k t p ix u d w2 := by
  obtain ⟨h0, h1, h2, h3, h4, h5⟩ := h
  refine ⟨h0, fun e => ?_, fun e => ?_, fun e => ?_, fun e => ?_, fun e => ?_⟩
  · obtain ⟨b, a, c⟩ := h1 e; exact ⟨b, a, c.below hb c.lt⟩
  · obtain ⟨b, a, a', c⟩ := h2 e; exact ⟨b, a, a', c.below hb c.lt⟩
  · obtain ⟨b, a, a', c⟩ := h3 e; exact ⟨b, a, a', c.below hb c.lt⟩
  · obtain ⟨b, b', a, a', a2, c, c'⟩ := h4 e; exact ⟨b, b', a, a', a2, c.below hb c.lt, c'.below hb c'.lt⟩
  · obtain ⟨v, b, b', a, a', a2, a3, c, c', c2⟩ := h5 e; exact ⟨v, b, b', a, a', a2, a3, c.below hb c.lt, c'.below hb c'.lt, c2.below hb c2.lt⟩

def newOk (n t p : Int) : Bool := inB n 1 8 && inB t 0 1073741824 && inB p 0 1073741824
def NewPost (w : World) (n t p : Int) (e : Ending) (w' : World) : Prop :=
  Below w.heap.size w w' ∧ (newOk n t p = false → e = .returned (.tuple #[.pointer none, .int .i64 4])) ∧ (newOk n t p = true → ∃ X, e = .returned (.tuple #[.pointer (some ⟨X.vb, 0, none⟩), .int .i64 0]) ∧ VotAt w' w.heap.size X (newV n.toNat t p))
set_option maxRecDepth 100000 in
set_option maxHeartbeats 4000000 in
theorem newVoter_any (w : World) (n t p : Int) :
    Calls Try.prog 15 #[.int .i64 n, .int .i64 t, .int .i64 p] w (NewPost w n t p) := by
  have HW := Lib.hid (within_any (w := w))
  obtain ⟨a, ha⟩ : ∃ a, inB n 1 8 = a := ⟨_, rfl⟩
  obtain ⟨b, hb⟩ : ∃ b, inB t 0 1073741824 = b := ⟨_, rfl⟩
  obtain ⟨c, hc⟩ : ∃ c, inB p 0 1073741824 = c := ⟨_, rfl⟩
  have HO : Hid (newOk n t p = (a && b && c)) := Lib.hid (by unfold newOk; rw [ha, hb, hc])
  have H1 := Lib.hid ha
  have H2 := Lib.hid hb
  have H3 := Lib.hid hc
  have HA := Lib.hid (within_any n 1 8 w)
  have HB := Lib.hid (within_any t 0 1073741824 w)
  have HC := Lib.hid (within_any p 0 1073741824 w)
  rw [ha] at HA
  rw [hb] at HB
  rw [hc] at HC
  clear ha hb hc HW
  have bad : Hid ((a && b && c) = false → NewPost w n t p (.returned (.tuple #[.pointer none, .int .i64 4])) w) := Lib.hid fun h => ⟨Below.refl _ _, fun _ => rfl, fun h2 => by rw [HO.out, h] at h2; exact absurd h2 (by decide)⟩
  by_cases hall : (a && b && c) = true
  · simp only [Bool.and_eq_true] at hall
    obtain ⟨⟨rfl, rfl⟩, rfl⟩ := hall
    have h1 := inB_iff.1 H1.out
    obtain ⟨k, rfl⟩ := Int.eq_ofNat_of_zero_le (show 0 ≤ n by omega)
    have HKK : Hid (1 ≤ k ∧ k ≤ 8) := Lib.hid (by omega)
    obtain ⟨i0, hi0, hz0, hz1, hz2⟩ := info_parts infoR_Int
    have KM : Hid (∀ w : World, (Instr.makeSlice 36 (.int .i64 (k : Int)) (.int .i64 (k : Int))).run Try.prog w = .ok (.slice (some ⟨w.heap.size, 0, none⟩) k k) (w.alloc (.cells (intA k fun _ => 0) 3))) := Lib.hid fun w => by
      have hm := run_makeSlice (P := Try.prog) w 36 3 i0 _ Try.underlying36 hi0 hz0 .i64 .i64 (k : Int) (k : Int) (by omega) (by omega) (by rw [hz1, Int.toNat_natCast]; omega) (by rw [hz2]; omega) (by omega)
      rw [hz1, Int.toNat_natCast, Nat.mul_one, made_rep (.int .i64 0) _ rfl, intA_zero] at hm
      exact hm
    have h2 := inB_iff.1 H2.out
    have h3 := inB_iff.1 H3.out
    have HT : Hid (0 ≤ t ∧ t ≤ 1073741824) := Lib.hid h2
    have HPp : Hid (0 ≤ p ∧ p ≤ 1073741824) := Lib.hid h3
    clear h1 h2 h3 hi0 hz0 hz1 hz2
    go_enter Try.func15, Try.ntmps15
    go_wp2_with fail
    refine HA.out.mono ?_
    rintro e w' ⟨rfl, rfl⟩
    go_wp2_with fail
    refine HB.out.mono ?_
    rintro e w' ⟨rfl, rfl⟩
    go_wp2_with fail
    refine HC.out.mono ?_
    rintro e w' ⟨rfl, rfl⟩
    go_wp2_with fail
    refine wp_region_steps (by kernel_rfl) (by kernel_rfl) (fun w1 => Below w.heap.size w w1) (fun _ w1 w2 => Below w1.heap.size w1 w2)
      (fun ix u d w1 => (match ix with
        | 0 => u = .int .i64 t
        | 1 => u = .int .i64 p
        | 2 => True
        | 3 => u = .int .i64 k
        | 4 => True
        | 5 => u = .int .i64 k
        | 6 => True
        | 7 => True
        | 8 => True
        | 9 => True
        | _ => u = .int .i64 0) ∧ NvR w.heap.size k t p ix u d w1) (Below.refl _ _).drew (fun i j _ _ u d w1 w2 ⟨h1, h2⟩ _ he => ⟨h1, h2.later he⟩) ?_ ?_
    · refine ⟨?_, ?_, ?_, ?_, ?_, ?_, ?_, ?_, ?_, ?_, ?_, trivial⟩
      · intro a w1 vs K HJ HK HD HN kk
        have e1 := HK 1 (by decide)
        go_simp; exact kk _ _ (by simp) HJ (Below.refl _ _) ⟨rfl, ⟨fun e => by omega, fun e => by omega, fun e => by omega, fun e => by omega, fun e => by omega, fun e => by omega⟩⟩
      · intro a w1 vs K HJ HK HD HN kk
        have e2 := HK 2 (by decide)
        go_simp; exact kk _ _ (by simp) HJ (Below.refl _ _) ⟨rfl, ⟨fun e => by omega, fun e => by omega, fun e => by omega, fun e => by omega, fun e => by omega, fun e => by omega⟩⟩
      · intro a w1 vs K HJ HK HD HN kk
        go_simp; exact kk _ _ (by simp) (HJ.alloc HJ.size _) ((Below.refl _ _).alloc (Nat.le_refl _) _) ⟨trivial, ⟨fun e => by omega, fun _ => ⟨_, rfl, Bk.new _ _ _⟩, fun e => by omega, fun e => by omega, fun e => by omega, fun e => by omega⟩⟩
      · intro a w1 vs K HJ HK HD HN kk
        have e0 := HK 0 (by decide)
        go_simp; exact kk _ _ (by simp) HJ (Below.refl _ _) ⟨rfl, ⟨fun e => by omega, fun e => by omega, fun e => by omega, fun e => by omega, fun e => by omega, fun e => by omega⟩⟩
      · intro a w1 vs K HJ HK HD HN kk
        have e24 := (HD 3 _ 24 rfl rfl rfl).1.trans (HD 3 _ 24 rfl rfl rfl).2.1
        obtain ⟨q, r⟩ := HD 2 _ 23 rfl rfl rfl
        obtain ⟨b, y1, y2⟩ := r.2.2.1 rfl
        have e23 := q.trans y1
        exact wpo_call 42 _ _ rfl #[.slice (some ⟨b, 0, none⟩) 1 1, .int .i64 k] (by simp [Act.eval, e23, e24]) (fun args w => by kernel_rfl)
          ((repeatBool w1 b 0 1 true (y2.cell 0) k HKK.out).mono fun e w' ⟨g, he, hg, hbk, hb⟩ => ⟨_, he, kk _ _ (by simp) (HJ.trans (hb.mono HJ.size)) hb ⟨trivial, ⟨fun e => by omega, fun e => by omega, fun _ => ⟨g, rfl, Nat.le_trans HJ.size hg, by rw [boolA_rep] at hbk; exact hbk⟩, fun e => by omega, fun e => by omega, fun e => by omega⟩⟩⟩)
      · intro a w1 vs K HJ HK HD HN kk
        have e0 := HK 0 (by decide)
        go_simp; exact kk _ _ (by simp) HJ (Below.refl _ _) ⟨rfl, ⟨fun e => by omega, fun e => by omega, fun e => by omega, fun e => by omega, fun e => by omega, fun e => by omega⟩⟩
      · intro a w1 vs K HJ HK HD HN kk
        have e26 := (HD 5 _ 26 rfl rfl rfl).1.trans (HD 5 _ 26 rfl rfl rfl).2.1
        have km := KM.out w1
        go_simp; exact kk _ _ (by simp) (HJ.alloc HJ.size _) ((Below.refl _ _).alloc (Nat.le_refl _) _) ⟨trivial, ⟨fun e => by omega, fun e => by omega, fun e => by omega, fun _ => ⟨_, rfl, HJ.size, Bk.new _ _ _⟩, fun e => by omega, fun e => by omega⟩⟩
      · intro a w1 vs K HJ HK HD HN kk
        have e21 := (HD 0 _ 21 rfl rfl rfl).1.trans (HD 0 _ 21 rfl rfl rfl).2.1
        have e22 := (HD 1 _ 22 rfl rfl rfl).1.trans (HD 1 _ 22 rfl rfl rfl).2.1
        obtain ⟨q4, r4⟩ := HD 4 _ 25 rfl rfl rfl
        obtain ⟨g, y1, y2, y3⟩ := r4.2.2.2.1 rfl
        obtain ⟨q6, r6⟩ := HD 6 _ 27 rfl rfl rfl
        obtain ⟨g', z1, z2, z3⟩ := r6.2.2.2.2.1 rfl
        have e25 := q4.trans y1
        have e27 := q6.trans z1
        clear q4 r4 q6 r6 y1 z1
        go_simp; exact kk _ _ (by simp) HJ (Below.refl _ _) ⟨trivial, ⟨fun e => by omega, fun e => by omega, fun e => by omega, fun e => by omega, fun _ => ⟨g, g', rfl, y2, z2, y3, z3⟩, fun e => by omega⟩⟩
      · intro a w1 vs K HJ HK HD HN kk
        obtain ⟨q, r⟩ := HD 7 _ 28 rfl rfl rfl
        obtain ⟨g, g', y1, y2, y3, y4, y5⟩ := r.2.2.2.2.2.1 rfl
        have e28 := q.trans y1
        clear q r y1
        go_simp; exact kk _ _ (by simp) (HJ.alloc HJ.size _) ((Below.refl _ _).alloc (Nat.le_refl _) _) ⟨trivial, ⟨fun e => by omega, fun e => by omega, fun e => by omega, fun e => by omega, fun e => by omega, fun _ => ⟨_, g, g', rfl, HJ.size, y2, y3, Bk.new _ _ _, y4.alloc _, y5.alloc _⟩⟩⟩
      · intro a w1 vs K HJ HK HD HN kk
        obtain ⟨q, r⟩ := HD 8 _ 29 rfl rfl rfl
        exact wpo_move (.tmp 29) (vs 8) (Or.inr rfl) (by simpa [Act.eval] using q) (kk _ _ (by simp) HJ (Below.refl _ _) ⟨trivial, ⟨fun _ => rfl, fun e => by omega, fun e => by omega, fun e => by omega, fun e => by omega, fun e => by omega⟩⟩)
      · intro a w1 vs K HJ HK HD HN kk
        go_simp; exact kk _ _ (by simp) HJ (Below.refl _ _) ⟨rfl, ⟨fun e => by omega, fun e => by omega, fun e => by omega, fun e => by omega, fun e => by omega, fun e => by omega⟩⟩
    · intro vs w3 hb3 hrr
      have e9 : vs 9 = vs 8 := (hrr 9 _ rfl).2.1 rfl
      have e10 : vs 10 = .int .i64 0 := (hrr 10 _ rfl).1
      obtain ⟨v, g, g', y1, y2, y3, y4, y5, y6, y7⟩ := (hrr 8 _ rfl).2.2.2.2.2.2 rfl
      have HB3 := Lib.hid hb3
      have HY := Lib.hid (show VotAt w3 w.heap.size ⟨v, g, g'⟩ (newV k t p) from ⟨y5, y6, y7, ⟨y2, y3, y4⟩, HKK.out, HT.out, HPp.out⟩)
      clear hrr hb3 y2 y3 y4 y5 y6 y7
      simp only [putAll, Act.put, List.setIfInBounds_toArray, List.set_cons_zero, List.set_cons_succ]
      rw [e9, y1, e10]
      clear e9 y1 e10
      go_wp2_with fail
      go_ret2
      exact ⟨HB3.out, fun h => by rw [HO.out] at h; exact absurd h (by decide), fun _ => ⟨⟨v, g, g'⟩, rfl, HY.out⟩⟩
  · have hf : (a && b && c) = false := by simpa using hall
    have HPOST := Lib.hid (bad.out hf)
    clear bad hall
    cases a with
    | false =>
      clear hf
      go_enter Try.func15, Try.ntmps15
      go_wp2_with fail
      refine HA.out.mono ?_
      rintro e w' ⟨rfl, rfl⟩
      go_wp2_with fail
      go_ret2
      exact HPOST.out
    | true =>
      cases b with
      | false =>
        clear hf
        go_enter Try.func15, Try.ntmps15
        go_wp2_with fail
        refine HA.out.mono ?_
        rintro e w' ⟨rfl, rfl⟩
        go_wp2_with fail
        refine HB.out.mono ?_
        rintro e w' ⟨rfl, rfl⟩
        go_wp2_with fail
        go_ret2
        exact HPOST.out
      | true =>
        have hcf : c = false := by simpa using hf
        subst hcf
        clear hf
        go_enter Try.func15, Try.ntmps15
        go_wp2_with fail
        refine HA.out.mono ?_
        rintro e w' ⟨rfl, rfl⟩
        go_wp2_with fail
        refine HB.out.mono ?_
        rintro e w' ⟨rfl, rfl⟩
        go_wp2_with fail
        refine HC.out.mono ?_
        rintro e w' ⟨rfl, rfl⟩
        go_wp2_with fail
        go_ret2
        exact HPOST.out
end Go.Proofs.Ytnmccbjdfdbgpaa
/- What is proved: contracts of is, Live, Counts of a voter. Conditions: the voter lies in memory; or there is none, or an empty one. -/
namespace Go.Proofs.Ytnmccbjdfdbgpaa
open Go.RowKit

/-- No voter: nil, or one that no call made. -/
def NoVot (w : World) (v : Value) : Prop := v = .pointer none ∨ ∃ b A c, v = .pointer (some ⟨b, 0, none⟩) ∧ Bk w b 76 #[.int .i64 0, .int .i64 0, .slice none 0 A, .slice none 0 c]
theorem NoVot.later {w w' : World} {v : Value} (h : NoVot w v) (hb : Below w.heap.size w w') : NoVot w' v := by
  rcases h with h | ⟨b, A, c, h, k⟩
  · exact Or.inl h
  · exact Or.inr ⟨b, A, c, h, k.below hb k.lt⟩
set_option maxRecDepth 100000 in
theorem is_any (w : World) (B : Nat) (X : VotX) (V : VotD) (h : VotAt w B X V) : Calls Try.prog 44 #[.pointer (some ⟨X.vb, 0, none⟩)] w fun e w' => e = .returned (.bool true) ∧ w' = w := by
  have c2 : w.cell? ⟨X.vb, 2, none⟩ = some (.slice (some ⟨X.lb, 0, none⟩) V.n V.n) := h.v.cell 2
  have hn := h.n
  have hn0 : (0 : Int) < (V.n : Int) := by omega
  clear h
  go_enter Try.func44, Try.ntmps44
  go_wp2_with fail
  go_ret
  exact ⟨by show Ending.returned (.bool (decide (0 < V.n))) = _; rw [decide_eq_true (by omega)], rfl⟩
set_option maxRecDepth 100000 in
theorem isNo_any (w : World) (v : Value) (h : NoVot w v) : Calls Try.prog 44 #[v] w fun e w' => e = .returned (.bool false) ∧ w' = w := by
  rcases h with rfl | ⟨b, A, c, rfl, h⟩
  · go_enter Try.func44, Try.ntmps44
    go_wp2_with fail
    go_ret
    exact ⟨rfl, rfl⟩
  · have c2 : w.cell? ⟨b, 2, none⟩ = some (.slice none 0 A) := h.cell 2
    clear h
    go_enter Try.func44, Try.ntmps44
    go_wp2_with fail
    go_ret
    exact ⟨rfl, rfl⟩
theorem boolSl {w : World} {g n : Nat} {f : Nat → Bool} (h : Bk w g 4 (boolA n f)) (hn : n ≤ 8) : Sl w w.heap.size 1 (some ⟨g, 0, none⟩) n fun i _ => .bool (f i) :=
  ⟨by omega, fun _ => ⟨g, 0, rfl, h.lt, fun i hi j hj => by
    obtain rfl : j = 0 := by omega
    rw [Nat.zero_add, Nat.mul_one, Nat.add_zero, h.cell, boolA_get _ _ _ hi]⟩⟩
theorem intSl {w : World} {g n : Nat} {f : Nat → Int} (h : Bk w g 3 (intA n f)) (hn : n ≤ 8) : Sl w w.heap.size 1 (some ⟨g, 0, none⟩) n fun i _ => .int .i64 (f i) :=
  ⟨by omega, fun _ => ⟨g, 0, rfl, h.lt, fun i hi j hj => by
    obtain rfl : j = 0 := by omega
    rw [Nat.zero_add, Nat.mul_one, Nat.add_zero, h.cell, intA_get _ _ _ hi]⟩⟩
set_option maxRecDepth 100000 in
theorem live_any (w : World) (B : Nat) (X : VotX) (V : VotD) (h : VotAt w B X V) : Calls Try.prog 18 #[.pointer (some ⟨X.vb, 0, none⟩)] w fun e w' => ∃ A c, e = .returned (.slice A V.n c) ∧ Cl w' w.heap.size 4 1 A V.n (fun i _ => .bool (V.live i)) ∧ Below w.heap.size w w' := by
  have HI := Lib.hid (is_any w B X V h)
  have c2 : w.cell? ⟨X.vb, 2, none⟩ = some (.slice (some ⟨X.lb, 0, none⟩) V.n V.n) := h.v.cell 2
  have HC := Lib.hid (cloneBool w (some ⟨X.lb, 0, none⟩) V.n V.n _ (boolSl h.l h.n.2) (fun _ _ => rfl) (by have := h.n; omega))
  clear h
  go_enter Try.func18, Try.ntmps18
  go_wp2_with fail
  refine HI.out.mono ?_
  rintro e w1 ⟨rfl, rfl⟩
  go_wp2_with fail
  refine HC.out.mono ?_
  rintro e w2 ⟨A, c, rfl, hcl, hb⟩
  have HCL := Lib.hid hcl
  have HB := Lib.hid hb
  clear hcl hb HC c2
  go_wp2_with fail
  go_ret
  exact ⟨A, c, rfl, HCL.out, HB.out⟩
set_option maxRecDepth 100000 in
theorem counts_any (w : World) (B : Nat) (X : VotX) (V : VotD) (h : VotAt w B X V) : Calls Try.prog 40 #[.pointer (some ⟨X.vb, 0, none⟩)] w fun e w' => ∃ A c, e = .returned (.slice A V.n c) ∧ Cl w' w.heap.size 3 1 A V.n (fun i _ => .int .i64 (V.cnt i)) ∧ Below w.heap.size w w' := by
  have HI := Lib.hid (is_any w B X V h)
  have c3 : w.cell? ⟨X.vb, 3, none⟩ = some (.slice (some ⟨X.cb, 0, none⟩) V.n V.n) := h.v.cell 3
  have HC := Lib.hid (cloneInt w (some ⟨X.cb, 0, none⟩) V.n V.n _ (intSl h.c h.n.2) (fun _ _ => rfl) (by have := h.n; omega))
  clear h
  go_enter Try.func40, Try.ntmps40
  go_wp2_with fail
  refine HI.out.mono ?_
  rintro e w1 ⟨rfl, rfl⟩
  go_wp2_with fail
  refine HC.out.mono ?_
  rintro e w2 ⟨A, c, rfl, hcl, hb⟩
  have HCL := Lib.hid hcl
  have HB := Lib.hid hb
  clear hcl hb HC c3
  go_wp2_with fail
  go_ret
  exact ⟨A, c, rfl, HCL.out, HB.out⟩
set_option maxRecDepth 100000 in
theorem liveNo_any (w : World) (v : Value) (h : NoVot w v) : Calls Try.prog 18 #[v] w fun e w' => e = .returned (.slice none 0 0) ∧ w' = w := by
  have HI := Lib.hid (isNo_any w v h)
  clear h
  go_enter Try.func18, Try.ntmps18
  go_wp2_with fail
  refine HI.out.mono ?_
  rintro e w1 ⟨rfl, rfl⟩
  go_wp2_with fail
  go_ret
  exact ⟨rfl, rfl⟩
set_option maxRecDepth 100000 in
theorem countsNo_any (w : World) (v : Value) (h : NoVot w v) : Calls Try.prog 40 #[v] w fun e w' => e = .returned (.slice none 0 0) ∧ w' = w := by
  have HI := Lib.hid (isNo_any w v h)
  clear h
  go_enter Try.func40, Try.ntmps40
  go_wp2_with fail
  refine HI.out.mono ?_
  rintro e w1 ⟨rfl, rfl⟩
  go_wp2_with fail
  go_ret
  exact ⟨rfl, rfl⟩
end Go.Proofs.Ytnmccbjdfdbgpaa
/- What is proved: what a round of a voter computes; the contract of its test of readings. Conditions: those that each lemma states. -/
namespace Go.Proofs.Ytnmccbjdfdbgpaa
open Go.RowKit

structure RdD where
  val : Int
  there : Bool
def rd0 : RdD := ⟨0, false⟩
def rdC (r : RdD) : Nat → Value
  | 0 => .int .i64 r.val
  | _ => .bool r.there
def RdsAt (w : World) (B : Nat) (A : Option Addr) (l : List RdD) : Prop := Sl w B 2 A l.length fun i => rdC (l.getD i rd0)
def rdAt (l : List RdD) (i : Nat) : RdD := l.getD i rd0
def rdBad (r : RdD) : Bool := r.there && !inB r.val (-1073741824) 1073741824

/-- The values that count, of the first k. -/
def valsK (V : VotD) (l : List RdD) : Nat → List Int
  | 0 => []
  | k + 1 => if (rdAt l k).there && V.live k then valsK V l k ++ [(rdAt l k).val] else valsK V l k
def valueB (V : VotD) (l : List RdD) : Int := getI (sortB (valsK V l l.length)) (((valsK V l l.length).length - 1) / 2)
/-- The count of a channel behind a round. -/
def cntV (V : VotD) (l : List RdD) (x : Int) (i : Nat) : Int :=
  if V.live i then (if (rdAt l i).there && inB ((rdAt l i).val - x) (-V.tol) V.tol then 0 else wrap64 (V.cnt i + 1)) else V.cnt i
def cntK (V : VotD) (l : List RdD) (x : Int) (k : Nat) : VotD := { V with cnt := fun i => if i < k then cntV V l x i else V.cnt i }
/-- Those that are removed, of the first k. -/
def dropK (V : VotD) (m : Nat) : Nat → VotD × Nat
  | 0 => (V, m)
  | k + 1 => if (dropK V m k).1.live k && decide ((dropK V m k).1.pat < (dropK V m k).1.cnt k) && decide (2 < (dropK V m k).2) then
      ({ (dropK V m k).1 with live := fun i => if i = k then false else (dropK V m k).1.live i, cnt := fun i => if i = k then 0 else (dropK V m k).1.cnt i }, (dropK V m k).2 - 1)
    else dropK V m k
def voteB (V : VotD) (l : List RdD) : (Int × Int) × VotD :=
  if ¬ l.length = V.n then ((0, 2), V)
  else if ¬ (allN l.length fun i => !rdBad (rdAt l i)) = true then ((0, 4), V)
  else if valsK V l l.length = [] then ((0, 7), V)
  else ((valueB V l, 0), (dropK (cntK V l (valueB V l) l.length) (cntB V.live l.length) l.length).1)
theorem valsK_len (V : VotD) (l : List RdD) : ∀ k, (valsK V l k).length ≤ k
  | 0 => Nat.le_refl _
  | k + 1 => by
    have := valsK_len V l k
    unfold valsK; split
    · simp; omega
    · omega
theorem valsK_range {V : VotD} {l : List RdD} (h : ∀ i, i < l.length → rdBad (rdAt l i) = false) : ∀ k, k ≤ l.length → ∀ x ∈ valsK V l k, -1073741824 ≤ x ∧ x ≤ 1073741824
  | 0, _, x, hx => by simp [valsK] at hx
  | k + 1, hk, x, hx => by
    unfold valsK at hx
    split at hx
    · rename_i hc
      rw [List.mem_append] at hx
      rcases hx with hx | hx
      · exact valsK_range h k (by omega) x hx
      · simp only [List.mem_cons, List.not_mem_nil, or_false] at hx
        subst hx
        have := h k (by omega)
        unfold rdBad at this
        rw [Bool.and_eq_true] at hc
        rw [hc.1] at this
        simp only [Bool.true_and, Bool.not_eq_false'] at this
        exact inB_iff.1 this
    · exact valsK_range h k (by omega) x hx
theorem valueB_range {V : VotD} {l : List RdD} (h : ∀ i, i < l.length → rdBad (rdAt l i) = false) (hne : valsK V l l.length ≠ []) : -1073741824 ≤ valueB V l ∧ valueB V l ≤ 1073741824 := by
  have hp := sortB_perm (valsK V l l.length)
  have hl := sortB_len (valsK V l l.length)
  have h0 : 0 < (valsK V l l.length).length := List.length_pos_iff.2 hne
  have hlt : ((valsK V l l.length).length - 1) / 2 < (sortB (valsK V l l.length)).length := by omega
  refine valsK_range h l.length (Nat.le_refl _) _ (hp.mem_iff.1 ?_)
  unfold valueB getI
  rw [List.getD_eq_getElem?_getD, List.getElem?_eq_getElem hlt]
  exact List.getElem_mem hlt
theorem dropK_same (V : VotD) (m : Nat) : ∀ k, (dropK V m k).1.n = V.n ∧ (dropK V m k).1.tol = V.tol ∧ (dropK V m k).1.pat = V.pat ∧ (dropK V m k).2 ≤ m
  | 0 => ⟨rfl, rfl, rfl, Nat.le_refl _⟩
  | k + 1 => by
    obtain ⟨a, b, c, d⟩ := dropK_same V m k
    unfold dropK
    split
    · exact ⟨a, b, c, by simp only; omega⟩
    · exact ⟨a, b, c, d⟩
theorem voteB_same (V : VotD) (l : List RdD) : (voteB V l).2.n = V.n ∧ (voteB V l).2.tol = V.tol ∧ (voteB V l).2.pat = V.pat := by
  unfold voteB
  split
  · exact ⟨rfl, rfl, rfl⟩
  · split
    · exact ⟨rfl, rfl, rfl⟩
    · split
      · exact ⟨rfl, rfl, rfl⟩
      · obtain ⟨a, b, c, _⟩ := dropK_same (cntK V l (valueB V l) l.length) (cntB V.live l.length) l.length
        exact ⟨a, b, c⟩

/-- The blocks of a voter's lists alone, and new ones, have turned. -/
structure ChgV (X : VotX) (w w' : World) : Prop where
  os : w'.os = w.os
  tape : w'.tape = w.tape
  output : w'.output = w.output
  size : w.heap.size ≤ w'.heap.size
  block : ∀ b, b < w.heap.size → b ≠ X.lb → b ≠ X.cb → w'.heap[b]? = w.heap[b]?
theorem ChgV.refl (X : VotX) (w : World) : ChgV X w w := ⟨rfl, rfl, rfl, Nat.le_refl _, fun _ _ _ _ => rfl⟩
theorem ChgV.trans {X : VotX} {a b c : World} (h : ChgV X a b) (k : ChgV X b c) : ChgV X a c :=
  ⟨k.os.trans h.os, k.tape.trans h.tape, k.output.trans h.output, Nat.le_trans h.size k.size, fun i h1 h2 h3 => (k.block i (Nat.lt_of_lt_of_le h1 h.size) h2 h3).trans (h.block i h1 h2 h3)⟩
theorem ChgV.of_below {X : VotX} {w w' : World} (h : Below w.heap.size w w') : ChgV X w w' := ⟨h.os, h.tape, h.output, h.size, fun b hb _ _ => h.block b hb⟩
theorem ChgV.of_only {X : VotX} {w w' : World} {g : Nat} (h : Only g w w') (hg : g = X.lb ∨ g = X.cb) : ChgV X w w' :=
  ⟨h.os, h.tape, h.output, by rw [h.size]; exact Nat.le_refl _, fun b _ h1 h2 => h.block b (by rintro rfl; rcases hg with h | h <;> contradiction)⟩
theorem ChgV.below {X : VotX} {w w' : World} {B : Nat} (h : ChgV X w w') (hB : B ≤ w.heap.size) (h1 : B ≤ X.lb) (h2 : B ≤ X.cb) : Below B w w' :=
  ⟨h.os, h.tape, h.output, h.size, fun k hk => h.block k (by omega) (by omega) (by omega)⟩
theorem Bk.neT {w : World} {g g' t t' : Nat} {c c' : Array Value} (h1 : Bk w g t c) (h2 : Bk w g' t' c') (hne : t ≠ t') : g ≠ g' := by
  rintro rfl
  unfold Bk at h1 h2
  rw [h1] at h2
  injection h2 with h2
  injection h2 with _ h3 _
  exact hne h3
theorem VotAt.setCnt {w : World} {B : Nat} {X : VotX} {V : VotD} (h : VotAt w B X V) (i : Nat) (v : Int) : VotAt (w.setCell ⟨X.cb, i, none⟩ (.int .i64 v)) B X { V with cnt := fun k => if k = i then v else V.cnt k } ∧ ChgV X w (w.setCell ⟨X.cb, i, none⟩ (.int .i64 v)) := by
  have ho := Only.setCell w X.cb i (.int .i64 v)
  have n1 := h.v.neT h.c (by decide)
  have n2 := h.l.neT h.c (by decide)
  refine ⟨⟨h.v.only ho n1, h.l.only ho n2, ?_, h.lo, h.n, h.tol, h.pat⟩, ChgV.of_only ho (Or.inr rfl)⟩
  have := h.c.set i (.int .i64 v)
  rw [intA_set] at this
  exact this
theorem VotAt.setLive {w : World} {B : Nat} {X : VotX} {V : VotD} (h : VotAt w B X V) (i : Nat) (v : Bool) : VotAt (w.setCell ⟨X.lb, i, none⟩ (.bool v)) B X { V with live := fun k => if k = i then v else V.live k } ∧ ChgV X w (w.setCell ⟨X.lb, i, none⟩ (.bool v)) := by
  have ho := Only.setCell w X.lb i (.bool v)
  have n1 := h.v.neT h.l (by decide)
  have n2 := h.c.neT h.l (by decide)
  refine ⟨⟨h.v.only ho n1, ?_, h.c.only ho n2, h.lo, h.n, h.tol, h.pat⟩, ChgV.of_only ho (Or.inl rfl)⟩
  have := h.l.set i (.bool v)
  rw [boolA_set] at this
  exact this
theorem VotAt.congr {w : World} {B : Nat} {X : VotX} {V V' : VotD} (h : VotAt w B X V) (h1 : V'.n = V.n) (h2 : V'.tol = V.tol) (h3 : V'.pat = V.pat) (h4 : ∀ i, i < V.n → V'.live i = V.live i) (h5 : ∀ i, i < V.n → V'.cnt i = V.cnt i) : VotAt w B X V' := by
  have e1 : boolA V'.n V'.live = boolA V.n V.live := by
    rw [h1]; unfold boolA; congr 1; exact List.map_congr_left fun i hi => by rw [h4 i (by simpa using hi)]
  have e2 : intA V'.n V'.cnt = intA V.n V.cnt := by
    rw [h1]; unfold intA; congr 1; exact List.map_congr_left fun i hi => by rw [h5 i (by simpa using hi)]
  exact ⟨by have := h.v; unfold votA at this ⊢; rw [h1, h2, h3]; exact this, by rw [e1]; exact h.l, by rw [e2]; exact h.c, h.lo, by rw [h1]; exact h.n, by rw [h2]; exact h.tol, by rw [h3]; exact h.pat⟩

theorem World.ownsRow.of_below {B : Nat} {e : TypeId} {size : Nat} {v : Value} {n : Nat} {xs : List Value} {w w' : World} (h : w.ownsRow B e size v n xs) (hb : Below w.heap.size w w') : w'.ownsRow B e size v n xs :=
  h.kept (row := none) ⟨hb.os, hb.tape, hb.output, hb.size, fun k hk _ => hb.block k hk⟩ (by cases hv : v.ownBlock <;> simp)

set_option maxRecDepth 100000 in
theorem bad1_any (w : World) (v : Int) (t : Bool) : Calls Try.prog 46 #[.agg #[.int .i64 v, .bool t]] w fun e w' => e = .returned (.bool (t && !inB v (-1073741824) 1073741824)) ∧ Below w.heap.size w w' := by
  have hb0 : ∀ o, Below w.heap.size w (w.alloc o) := fun o => (Below.refl _ _).alloc (Nat.le_refl _) _
  have HI := Lib.hid fun w' => within_any v (-1073741824) 1073741824 w'
  have HB := Lib.hid hb0
  obtain ⟨b, hb⟩ : ∃ b, inB v (-1073741824) 1073741824 = b := ⟨_, rfl⟩
  rw [hb] at HI ⊢
  clear hb hb0
  cases t with
  | false =>
    go_enter Try.func46, Try.ntmps46
    go_wp2_with fail
    go_ret
    exact ⟨rfl, HB.out _⟩
  | true =>
    go_enter Try.func46, Try.ntmps46
    go_wp2_with fail
    refine (HI.out _).mono ?_
    rintro e w' ⟨rfl, rfl⟩
    go_wp2_with fail
    go_ret
    exact ⟨by cases b <;> rfl, HB.out _⟩
theorem badAny (w : World) (A : Option Addr) (c : Nat) (l : List RdD) (h : RdsAt w w.heap.size A l) :
    Calls Try.prog 45 #[.slice A l.length c, .func (.func 46) #[] #[]] w fun e w' => e = .returned (.bool (!(allN l.length fun i => !rdBad (rdAt l i)))) ∧ Below w.heap.size w w' :=
  conRdg w A l.length c _ h 46 #[] (fun i => rdBad (rdAt l i)) (fun args w => by kernel_rfl) fun w' _ i _ => bad1_any w' _ _
end Go.Proofs.Ytnmccbjdfdbgpaa
