/- What is proved: contracts of slices.Clone at rows of structs. Conditions: the slice lies in memory; it is short. -/
import Derived.Test.YtogobjmmgjfjjaaSys
import Derived.Lib.SliceRun
import Derived.Laws.AppendOwn
namespace Go.Proofs.Ytogobjmmgjfjjaa
open Go.RowKit

/-- The slice (A, n) lies in a block of its own, from block B on. -/
def Cl (w : World) (B : Nat) (T : TypeId) (k : Nat) (A : Option Addr) (n : Nat) (f : Nat → Nat → Value) : Prop :=
  n ≤ 4096 ∧ (0 < n → ∃ g cur, A = some ⟨g, 0, none⟩ ∧ B ≤ g ∧ Bk w g T cur ∧ ∀ i, i < n → ∀ j, j < k → cur[i * k + j]? = some (f i j))
theorem Cl.sl {w : World} {B k n : Nat} {T : TypeId} {A : Option Addr} {f : Nat → Nat → Value} (h : Cl w B T k A n f) : Sl w w.heap.size k A n f :=
  ⟨by have := h.1; omega, fun hn => by
    obtain ⟨g, cur, e, _, hb, hc⟩ := h.2 hn
    exact ⟨g, 0, e, hb.lt, fun i hi j hj => by rw [Nat.zero_add, hb.cell]; exact hc i hi j hj⟩⟩
theorem Cl.below {w w' : World} {B k n : Nat} {T : TypeId} {A : Option Addr} {f : Nat → Nat → Value} (h : Cl w B T k A n f) (hb : Below w.heap.size w w') : Cl w' B T k A n f :=
  ⟨h.1, fun hn => by obtain ⟨g, cur, e, h1, h2, h3⟩ := h.2 hn; exact ⟨g, cur, e, h1, h2.below hb h2.lt, h3⟩⟩
theorem Cl.nil (w : World) (B k : Nat) (T : TypeId) (A : Option Addr) (f : Nat → Nat → Value) : Cl w B T k A 0 f := ⟨by omega, fun h => absurd h (by omega)⟩

/-- The cells of n rows of k cells. -/
def rowsL (n k : Nat) (f : Nat → Nat → Value) : List Value := (List.range (n * k)).map fun m => f (m / k) (m % k)
theorem rowsL_get (n k : Nat) (f : Nat → Nat → Value) (i j : Nat) (hi : i < n) (hj : j < k) : (rowsL n k f)[i * k + j]? = some (f i j) := by
  have hm : i * k + j < n * k := by
    have : (i + 1) * k ≤ n * k := Nat.mul_le_mul_right _ hi
    rw [Nat.add_mul, Nat.one_mul] at this; omega
  unfold rowsL
  rw [List.getElem?_map, List.getElem?_range hm]
  simp only [Option.map_some]
  rw [Nat.mul_comm i k, Nat.mul_add_div (by omega), Nat.div_eq_of_lt hj, Nat.mul_add_mod, Nat.mod_eq_of_lt hj, Nat.add_zero]
theorem rowsL_len (n k : Nat) (f : Nat → Nat → Value) : (rowsL n k f).length = n * k := by simp [rowsL]
theorem rowsL_cell {w : World} {b off n k : Nat} {f : Nat → Nat → Value} (hc : ∀ i, i < n → ∀ j, j < k → w.cell? ⟨b, off + i * k + j, none⟩ = some (f i j)) (m : Nat) (u : Value) (hm : (rowsL n k f)[m]? = some u) : w.cell? ⟨b, off + m, none⟩ = some u := by
  have hl : m < n * k := by have := (List.getElem?_eq_some_iff.1 hm).1; rwa [rowsL_len] at this
  have hk : 0 < k := by rcases Nat.eq_zero_or_pos k with h | h
                        · subst h; simp at hl
                        · exact h
  have hi : m / k < n := (Nat.div_lt_iff_lt_mul hk).2 hl
  have hj : m % k < k := Nat.mod_lt _ hk
  have e : m / k * k + m % k = m := by rw [Nat.mul_comm]; exact Nat.div_add_mod m k
  have h1 := rowsL_get n k f (m / k) (m % k) hi hj
  rw [e] at h1
  rw [h1] at hm
  rw [← hm, ← hc _ hi _ hj, Nat.add_assoc, e]
theorem rowsL_one {n k : Nat} {f : Nat → Nat → Value} (h1 : ∀ i j, (f i j).oneCell' = true) : ∀ u ∈ rowsL n k f, u.oneCell' = true := by
  intro u hu
  unfold rowsL at hu
  obtain ⟨m, _, rfl⟩ := List.mem_map.1 hu
  exact h1 _ _
theorem Cl.of_own {w : World} {B k n : Nat} {T : TypeId} {v : Value} {f : Nat → Nat → Value} (hn : n ≤ 4096) (h : w.ownsRow B T k v n (rowsL n k f)) : ∃ A c, v = .slice A n c ∧ Cl w B T k A n f := by
  rcases h.2 with ⟨rfl, rfl⟩ | ⟨g, cap, cur, rfl, hb, hg, h1, h2, h3, h4⟩
  · exact ⟨none, 0, rfl, Cl.nil _ _ _ _ _ _⟩
  · refine ⟨some ⟨g, 0, none⟩, cap, rfl, hn, fun _ => ⟨g, cur, rfl, hb, hg, fun i hi j hj => ?_⟩⟩
    have := rowsL_get n k f i j hi hj
    rw [← h4, List.getElem?_take] at this
    split at this
    · simpa using this
    · cases this
theorem infoC_Tank : (Try.prog.info? 68).map (fun i => (i.zero, i.size, i.bytes)) = some (some (.agg #[.string ByteArray.empty, .int .i64 0, .int .i64 0, .int .i64 0]), 4, 40) := by kernel_rfl
set_option maxRecDepth 100000 in
set_option maxHeartbeats 1000000 in
theorem cloneTank (w : World) (A : Option Addr) (n c : Nat) (f : Nat → Nat → Value) (h : Sl w w.heap.size 4 A n f) (h1 : ∀ i j, (f i j).oneCell' = true) (hn : n ≤ 4096) :
    Calls Try.prog 54 #[.slice A n c] w fun e w' => ∃ A' c', e = .returned (.slice A' n c') ∧ Cl w' w.heap.size 68 4 A' n f ∧ Below w.heap.size w w' := by
  cases A with
  | none =>
    have h0 : n = 0 := by
      rcases Nat.eq_zero_or_pos n with h0 | h0
      · exact h0
      · obtain ⟨b, off, e, _⟩ := h.2 h0; cases e
    subst h0
    clear h h1
    have q : ∀ (w : World), (binOp .eql 28 (.slice none 0 c) (.slice none 0 0)).run Try.prog w = .ok (.bool true) w := fun w => Lib.run_eql_slice_nil w _ _ none 0 c 0 0 Try.underlying28
    go_enter Try.func54, Try.ntmps54
    go_wp2
    go_ret
    exact ⟨none, 0, rfl, Cl.nil _ _ _ _ _ _, Below.refl _ _⟩
  | some ad =>
    obtain ⟨i0, hi, hz0, hz1, hz2⟩ := info_parts infoC_Tank
    have q : ∀ (w : World), (binOp .eql 28 (.slice (some ad) n c) (.slice none 0 0)).run Try.prog w = .ok (.bool false) w := fun w => Lib.run_eql_slice_nil w _ _ (some ad) n c 0 0 Try.underlying28
    have hcell : Hid (∀ o j u, (rowsL n 4 f)[j]? = some u → (w.alloc o).cell? (ad.add j) = some u) := Lib.hid fun o j u hj => by
      have hl : j < n * 4 := by have := (List.getElem?_eq_some_iff.1 hj).1; rwa [rowsL_len] at this
      obtain ⟨b, off, e, _, hc⟩ := h.2 (by omega)
      cases e
      rw [Addr.add_lit]
      exact Lib.cell?_alloc_some _ (rowsL_cell hc j u hj)
    have H1 := Lib.hid h1
    clear h h1
    go_enter Try.func54, Try.ntmps54
    go_wp2_with (at_builtin; refine wpList_append_own _ rfl _ _ 28 rfl w.heap.size 68 i0 (.agg #[.string ByteArray.empty, .int .i64 0, .int .i64 0, .int .i64 0]) 4 40 Try.underlying28 hi hz0 hz1 hz2 rfl (by decide) _ _ _ rfl (World.ownsRow_made w #[] 0 (Nat.le_refl _) (Nat.zero_le _) rfl) ad n c (rowsL n 4 f) rfl ?qc1 ?qc2 ?qc3 ?qc4 ?qc5 ?qc6 ?_)
    case qc1 => exact rowsL_len _ _ _
    case qc2 => exact hcell.out _
    case qc3 => exact rowsL_one H1.out
    case qc4 => unfold maxLen; omega
    case qc5 => omega
    case qc6 => simp
    intro v' w1 hown hgrow _
    obtain ⟨A', c', rfl, hcl⟩ := Cl.of_own hn hown
    have hB : Below w.heap.size w w1 := ((Below.refl _ w).alloc (Nat.le_refl _) _).grown hgrow (by simp) (by intro k hk; simp [Value.ownBlock] at hk; omega)
    clear hown hgrow
    have HCL := Lib.hid hcl
    clear hcl
    go_wp2
    go_ret
    exact ⟨A', c', rfl, HCL.out, hB⟩
theorem infoC_Valve : (Try.prog.info? 59).map (fun i => (i.zero, i.size, i.bytes)) = some (some (.agg #[.string ByteArray.empty, .int .i64 0, .bool false]), 3, 32) := by kernel_rfl
set_option maxRecDepth 100000 in
set_option maxHeartbeats 1000000 in
theorem cloneValve (w : World) (A : Option Addr) (n c : Nat) (f : Nat → Nat → Value) (h : Sl w w.heap.size 3 A n f) (h1 : ∀ i j, (f i j).oneCell' = true) (hn : n ≤ 4096) :
    Calls Try.prog 55 #[.slice A n c] w fun e w' => ∃ A' c', e = .returned (.slice A' n c') ∧ Cl w' w.heap.size 59 3 A' n f ∧ Below w.heap.size w w' := by
  cases A with
  | none =>
    have h0 : n = 0 := by
      rcases Nat.eq_zero_or_pos n with h0 | h0
      · exact h0
      · obtain ⟨b, off, e, _⟩ := h.2 h0; cases e
    subst h0
    clear h h1
    have q : ∀ (w : World), (binOp .eql 29 (.slice none 0 c) (.slice none 0 0)).run Try.prog w = .ok (.bool true) w := fun w => Lib.run_eql_slice_nil w _ _ none 0 c 0 0 Try.underlying29
    go_enter Try.func55, Try.ntmps55
    go_wp2
    go_ret
    exact ⟨none, 0, rfl, Cl.nil _ _ _ _ _ _, Below.refl _ _⟩
  | some ad =>
    obtain ⟨i0, hi, hz0, hz1, hz2⟩ := info_parts infoC_Valve
    have q : ∀ (w : World), (binOp .eql 29 (.slice (some ad) n c) (.slice none 0 0)).run Try.prog w = .ok (.bool false) w := fun w => Lib.run_eql_slice_nil w _ _ (some ad) n c 0 0 Try.underlying29
    have hcell : Hid (∀ o j u, (rowsL n 3 f)[j]? = some u → (w.alloc o).cell? (ad.add j) = some u) := Lib.hid fun o j u hj => by
      have hl : j < n * 3 := by have := (List.getElem?_eq_some_iff.1 hj).1; rwa [rowsL_len] at this
      obtain ⟨b, off, e, _, hc⟩ := h.2 (by omega)
      cases e
      rw [Addr.add_lit]
      exact Lib.cell?_alloc_some _ (rowsL_cell hc j u hj)
    have H1 := Lib.hid h1
    clear h h1
    go_enter Try.func55, Try.ntmps55
    go_wp2_with (at_builtin; refine wpList_append_own _ rfl _ _ 29 rfl w.heap.size 59 i0 (.agg #[.string ByteArray.empty, .int .i64 0, .bool false]) 3 32 Try.underlying29 hi hz0 hz1 hz2 rfl (by decide) _ _ _ rfl (World.ownsRow_made w #[] 0 (Nat.le_refl _) (Nat.zero_le _) rfl) ad n c (rowsL n 3 f) rfl ?qc1 ?qc2 ?qc3 ?qc4 ?qc5 ?qc6 ?_)
    case qc1 => exact rowsL_len _ _ _
    case qc2 => exact hcell.out _
    case qc3 => exact rowsL_one H1.out
    case qc4 => unfold maxLen; omega
    case qc5 => omega
    case qc6 => simp
    intro v' w1 hown hgrow _
    obtain ⟨A', c', rfl, hcl⟩ := Cl.of_own hn hown
    have hB : Below w.heap.size w w1 := ((Below.refl _ w).alloc (Nat.le_refl _) _).grown hgrow (by simp) (by intro k hk; simp [Value.ownBlock] at hk; omega)
    clear hown hgrow
    have HCL := Lib.hid hcl
    clear hcl
    go_wp2
    go_ret
    exact ⟨A', c', rfl, HCL.out, hB⟩
theorem infoC_Line : (Try.prog.info? 66).map (fun i => (i.zero, i.size, i.bytes)) = some (some (.agg #[.int .i64 0, .int .i64 0, .int .i64 0, .bool false, .slice none 0 0]), 5, 56) := by kernel_rfl
set_option maxRecDepth 100000 in
set_option maxHeartbeats 1000000 in
theorem cloneLine (w : World) (A : Option Addr) (n c : Nat) (f : Nat → Nat → Value) (h : Sl w w.heap.size 5 A n f) (h1 : ∀ i j, (f i j).oneCell' = true) (hn : n ≤ 4096) :
    Calls Try.prog 56 #[.slice A n c] w fun e w' => ∃ A' c', e = .returned (.slice A' n c') ∧ Cl w' w.heap.size 66 5 A' n f ∧ Below w.heap.size w w' := by
  cases A with
  | none =>
    have h0 : n = 0 := by
      rcases Nat.eq_zero_or_pos n with h0 | h0
      · exact h0
      · obtain ⟨b, off, e, _⟩ := h.2 h0; cases e
    subst h0
    clear h h1
    have q : ∀ (w : World), (binOp .eql 30 (.slice none 0 c) (.slice none 0 0)).run Try.prog w = .ok (.bool true) w := fun w => Lib.run_eql_slice_nil w _ _ none 0 c 0 0 Try.underlying30
    go_enter Try.func56, Try.ntmps56
    go_wp2
    go_ret
    exact ⟨none, 0, rfl, Cl.nil _ _ _ _ _ _, Below.refl _ _⟩
  | some ad =>
    obtain ⟨i0, hi, hz0, hz1, hz2⟩ := info_parts infoC_Line
    have q : ∀ (w : World), (binOp .eql 30 (.slice (some ad) n c) (.slice none 0 0)).run Try.prog w = .ok (.bool false) w := fun w => Lib.run_eql_slice_nil w _ _ (some ad) n c 0 0 Try.underlying30
    have hcell : Hid (∀ o j u, (rowsL n 5 f)[j]? = some u → (w.alloc o).cell? (ad.add j) = some u) := Lib.hid fun o j u hj => by
      have hl : j < n * 5 := by have := (List.getElem?_eq_some_iff.1 hj).1; rwa [rowsL_len] at this
      obtain ⟨b, off, e, _, hc⟩ := h.2 (by omega)
      cases e
      rw [Addr.add_lit]
      exact Lib.cell?_alloc_some _ (rowsL_cell hc j u hj)
    have H1 := Lib.hid h1
    clear h h1
    go_enter Try.func56, Try.ntmps56
    go_wp2_with (at_builtin; refine wpList_append_own _ rfl _ _ 30 rfl w.heap.size 66 i0 (.agg #[.int .i64 0, .int .i64 0, .int .i64 0, .bool false, .slice none 0 0]) 5 56 Try.underlying30 hi hz0 hz1 hz2 rfl (by decide) _ _ _ rfl (World.ownsRow_made w #[] 0 (Nat.le_refl _) (Nat.zero_le _) rfl) ad n c (rowsL n 5 f) rfl ?qc1 ?qc2 ?qc3 ?qc4 ?qc5 ?qc6 ?_)
    case qc1 => exact rowsL_len _ _ _
    case qc2 => exact hcell.out _
    case qc3 => exact rowsL_one H1.out
    case qc4 => unfold maxLen; omega
    case qc5 => omega
    case qc6 => simp
    intro v' w1 hown hgrow _
    obtain ⟨A', c', rfl, hcl⟩ := Cl.of_own hn hown
    have hB : Below w.heap.size w w1 := ((Below.refl _ w).alloc (Nat.le_refl _) _).grown hgrow (by simp) (by intro k hk; simp [Value.ownBlock] at hk; omega)
    clear hown hgrow
    have HCL := Lib.hid hcl
    clear hcl
    go_wp2
    go_ret
    exact ⟨A', c', rfl, HCL.out, hB⟩
theorem infoC_Lits : (Try.prog.info? 34).map (fun i => (i.zero, i.size, i.bytes)) = some (some (.slice none 0 0), 1, 24) := by kernel_rfl
set_option maxRecDepth 100000 in
set_option maxHeartbeats 1000000 in
theorem cloneLits (w : World) (A : Option Addr) (n c : Nat) (f : Nat → Nat → Value) (h : Sl w w.heap.size 1 A n f) (h1 : ∀ i j, (f i j).oneCell' = true) (hn : n ≤ 4096) :
    Calls Try.prog 57 #[.slice A n c] w fun e w' => ∃ A' c', e = .returned (.slice A' n c') ∧ Cl w' w.heap.size 34 1 A' n f ∧ Below w.heap.size w w' := by
  cases A with
  | none =>
    have h0 : n = 0 := by
      rcases Nat.eq_zero_or_pos n with h0 | h0
      · exact h0
      · obtain ⟨b, off, e, _⟩ := h.2 h0; cases e
    subst h0
    clear h h1
    have q : ∀ (w : World), (binOp .eql 31 (.slice none 0 c) (.slice none 0 0)).run Try.prog w = .ok (.bool true) w := fun w => Lib.run_eql_slice_nil w _ _ none 0 c 0 0 Try.underlying31
    go_enter Try.func57, Try.ntmps57
    go_wp2
    go_ret
    exact ⟨none, 0, rfl, Cl.nil _ _ _ _ _ _, Below.refl _ _⟩
  | some ad =>
    obtain ⟨i0, hi, hz0, hz1, hz2⟩ := info_parts infoC_Lits
    have q : ∀ (w : World), (binOp .eql 31 (.slice (some ad) n c) (.slice none 0 0)).run Try.prog w = .ok (.bool false) w := fun w => Lib.run_eql_slice_nil w _ _ (some ad) n c 0 0 Try.underlying31
    have hcell : Hid (∀ o j u, (rowsL n 1 f)[j]? = some u → (w.alloc o).cell? (ad.add j) = some u) := Lib.hid fun o j u hj => by
      have hl : j < n * 1 := by have := (List.getElem?_eq_some_iff.1 hj).1; rwa [rowsL_len] at this
      obtain ⟨b, off, e, _, hc⟩ := h.2 (by omega)
      cases e
      rw [Addr.add_lit]
      exact Lib.cell?_alloc_some _ (rowsL_cell hc j u hj)
    have H1 := Lib.hid h1
    clear h h1
    go_enter Try.func57, Try.ntmps57
    go_wp2_with (at_builtin; refine wpList_append_own _ rfl _ _ 31 rfl w.heap.size 34 i0 (.slice none 0 0) 1 24 Try.underlying31 hi hz0 hz1 hz2 rfl (by decide) _ _ _ rfl (World.ownsRow_made w #[] 0 (Nat.le_refl _) (Nat.zero_le _) rfl) ad n c (rowsL n 1 f) rfl ?qc1 ?qc2 ?qc3 ?qc4 ?qc5 ?qc6 ?_)
    case qc1 => exact rowsL_len _ _ _
    case qc2 => exact hcell.out _
    case qc3 => exact rowsL_one H1.out
    case qc4 => unfold maxLen; omega
    case qc5 => omega
    case qc6 => simp
    intro v' w1 hown hgrow _
    obtain ⟨A', c', rfl, hcl⟩ := Cl.of_own hn hown
    have hB : Below w.heap.size w w1 := ((Below.refl _ w).alloc (Nat.le_refl _) _).grown hgrow (by simp) (by intro k hk; simp [Value.ownBlock] at hk; omega)
    clear hown hgrow
    have HCL := Lib.hid hcl
    clear hcl
    go_wp2
    go_ret
    exact ⟨A', c', rfl, HCL.out, hB⟩
theorem infoC_Int : (Try.prog.info? 3).map (fun i => (i.zero, i.size, i.bytes)) = some (some (.int .i64 0), 1, 8) := by kernel_rfl
set_option maxRecDepth 100000 in
set_option maxHeartbeats 1000000 in
theorem cloneInt (w : World) (A : Option Addr) (n c : Nat) (f : Nat → Nat → Value) (h : Sl w w.heap.size 1 A n f) (h1 : ∀ i j, (f i j).oneCell' = true) (hn : n ≤ 4096) :
    Calls Try.prog 58 #[.slice A n c] w fun e w' => ∃ A' c', e = .returned (.slice A' n c') ∧ Cl w' w.heap.size 3 1 A' n f ∧ Below w.heap.size w w' := by
  cases A with
  | none =>
    have h0 : n = 0 := by
      rcases Nat.eq_zero_or_pos n with h0 | h0
      · exact h0
      · obtain ⟨b, off, e, _⟩ := h.2 h0; cases e
    subst h0
    clear h h1
    have q : ∀ (w : World), (binOp .eql 62 (.slice none 0 c) (.slice none 0 0)).run Try.prog w = .ok (.bool true) w := fun w => Lib.run_eql_slice_nil w _ _ none 0 c 0 0 Try.underlying62
    go_enter Try.func58, Try.ntmps58
    go_wp2
    go_ret
    exact ⟨none, 0, rfl, Cl.nil _ _ _ _ _ _, Below.refl _ _⟩
  | some ad =>
    obtain ⟨i0, hi, hz0, hz1, hz2⟩ := info_parts infoC_Int
    have q : ∀ (w : World), (binOp .eql 62 (.slice (some ad) n c) (.slice none 0 0)).run Try.prog w = .ok (.bool false) w := fun w => Lib.run_eql_slice_nil w _ _ (some ad) n c 0 0 Try.underlying62
    have hcell : Hid (∀ o j u, (rowsL n 1 f)[j]? = some u → (w.alloc o).cell? (ad.add j) = some u) := Lib.hid fun o j u hj => by
      have hl : j < n * 1 := by have := (List.getElem?_eq_some_iff.1 hj).1; rwa [rowsL_len] at this
      obtain ⟨b, off, e, _, hc⟩ := h.2 (by omega)
      cases e
      rw [Addr.add_lit]
      exact Lib.cell?_alloc_some _ (rowsL_cell hc j u hj)
    have H1 := Lib.hid h1
    clear h h1
    go_enter Try.func58, Try.ntmps58
    go_wp2_with (at_builtin; refine wpList_append_own _ rfl _ _ 62 rfl w.heap.size 3 i0 (.int .i64 0) 1 8 Try.underlying62 hi hz0 hz1 hz2 rfl (by decide) _ _ _ rfl (World.ownsRow_made w #[] 0 (Nat.le_refl _) (Nat.zero_le _) rfl) ad n c (rowsL n 1 f) rfl ?qc1 ?qc2 ?qc3 ?qc4 ?qc5 ?qc6 ?_)
    case qc1 => exact rowsL_len _ _ _
    case qc2 => exact hcell.out _
    case qc3 => exact rowsL_one H1.out
    case qc4 => unfold maxLen; omega
    case qc5 => omega
    case qc6 => simp
    intro v' w1 hown hgrow _
    obtain ⟨A', c', rfl, hcl⟩ := Cl.of_own hn hown
    have hB : Below w.heap.size w w1 := ((Below.refl _ w).alloc (Nat.le_refl _) _).grown hgrow (by simp) (by intro k hk; simp [Value.ownBlock] at hk; omega)
    clear hown hgrow
    have HCL := Lib.hid hcl
    clear hcl
    go_wp2
    go_ret
    exact ⟨A', c', rfl, HCL.out, hB⟩
theorem infoC_Lit : (Try.prog.info? 51).map (fun i => (i.zero, i.size, i.bytes)) = some (some (.agg #[.int .i64 0, .bool false]), 2, 16) := by kernel_rfl
set_option maxRecDepth 100000 in
set_option maxHeartbeats 1000000 in
theorem cloneLit (w : World) (A : Option Addr) (n c : Nat) (f : Nat → Nat → Value) (h : Sl w w.heap.size 2 A n f) (h1 : ∀ i j, (f i j).oneCell' = true) (hn : n ≤ 4096) :
    Calls Try.prog 59 #[.slice A n c] w fun e w' => ∃ A' c', e = .returned (.slice A' n c') ∧ Cl w' w.heap.size 51 2 A' n f ∧ Below w.heap.size w w' := by
  cases A with
  | none =>
    have h0 : n = 0 := by
      rcases Nat.eq_zero_or_pos n with h0 | h0
      · exact h0
      · obtain ⟨b, off, e, _⟩ := h.2 h0; cases e
    subst h0
    clear h h1
    have q : ∀ (w : World), (binOp .eql 34 (.slice none 0 c) (.slice none 0 0)).run Try.prog w = .ok (.bool true) w := fun w => Lib.run_eql_slice_nil w _ _ none 0 c 0 0 Try.underlying34
    go_enter Try.func59, Try.ntmps59
    go_wp2
    go_ret
    exact ⟨none, 0, rfl, Cl.nil _ _ _ _ _ _, Below.refl _ _⟩
  | some ad =>
    obtain ⟨i0, hi, hz0, hz1, hz2⟩ := info_parts infoC_Lit
    have q : ∀ (w : World), (binOp .eql 34 (.slice (some ad) n c) (.slice none 0 0)).run Try.prog w = .ok (.bool false) w := fun w => Lib.run_eql_slice_nil w _ _ (some ad) n c 0 0 Try.underlying34
    have hcell : Hid (∀ o j u, (rowsL n 2 f)[j]? = some u → (w.alloc o).cell? (ad.add j) = some u) := Lib.hid fun o j u hj => by
      have hl : j < n * 2 := by have := (List.getElem?_eq_some_iff.1 hj).1; rwa [rowsL_len] at this
      obtain ⟨b, off, e, _, hc⟩ := h.2 (by omega)
      cases e
      rw [Addr.add_lit]
      exact Lib.cell?_alloc_some _ (rowsL_cell hc j u hj)
    have H1 := Lib.hid h1
    clear h h1
    go_enter Try.func59, Try.ntmps59
    go_wp2_with (at_builtin; refine wpList_append_own _ rfl _ _ 34 rfl w.heap.size 51 i0 (.agg #[.int .i64 0, .bool false]) 2 16 Try.underlying34 hi hz0 hz1 hz2 rfl (by decide) _ _ _ rfl (World.ownsRow_made w #[] 0 (Nat.le_refl _) (Nat.zero_le _) rfl) ad n c (rowsL n 2 f) rfl ?qc1 ?qc2 ?qc3 ?qc4 ?qc5 ?qc6 ?_)
    case qc1 => exact rowsL_len _ _ _
    case qc2 => exact hcell.out _
    case qc3 => exact rowsL_one H1.out
    case qc4 => unfold maxLen; omega
    case qc5 => omega
    case qc6 => simp
    intro v' w1 hown hgrow _
    obtain ⟨A', c', rfl, hcl⟩ := Cl.of_own hn hown
    have hB : Below w.heap.size w w1 := ((Below.refl _ w).alloc (Nat.le_refl _) _).grown hgrow (by simp) (by intro k hk; simp [Value.ownBlock] at hk; omega)
    clear hown hgrow
    have HCL := Lib.hid hcl
    clear hcl
    go_wp2
    go_ret
    exact ⟨A', c', rfl, HCL.out, hB⟩
end Go.Proofs.Ytogobjmmgjfjjaa
