/- What is proved: the texts Bh, one behind the other; each says at its head what it proves, and under which conditions. -/
import Derived.Test.Ytnmccbjdfdbgpaan11
/- What is proved: makes of lists; a list of lists of numbers that a call owns; counts of a table's slots. Conditions: those that each lemma states. -/
namespace Go.Proofs.Ytnmccbjdfdbgpaa
open Go.RowKit

theorem makeInts (n : Nat) (hn : n ≤ 100000) (w : World) : (Instr.makeSlice 36 (.int .i64 (n : Int)) (.int .i64 (n : Int))).run Try.prog w = .ok (.slice (some ⟨w.heap.size, 0, none⟩) n n) (w.alloc (.cells (intA n fun _ => 0) 3)) := by
  have hm := run_make_row' (P := Try.prog) 36 3 (.int .i64 0) 8 Try.underlying36 infoI rfl .i64 .i64 n (by omega) (by omega) w
  rw [hm, ← intA_zero 0 0 n, ← made_rep (.int .i64 0) (.int .i64 0) rfl n]
  rfl
theorem boolA_zero (v z : Bool) (k : Nat) : repA (.bool v) (.bool z) 0 k = boolA k fun _ => z := by
  apply Array.ext_getElem?
  intro i
  by_cases hi : i < k
  · rw [repA_get _ _ _ _ _ hi, boolA_get _ _ _ hi, if_neg (by omega)]
  · rw [Array.getElem?_eq_none (by rw [repA_size]; omega), Array.getElem?_eq_none (by rw [boolA_size]; omega)]
theorem makeBools (n : Nat) (hn : n ≤ 100000) (w : World) : (Instr.makeSlice 38 (.int .i64 (n : Int)) (.int .i64 (n : Int))).run Try.prog w = .ok (.slice (some ⟨w.heap.size, 0, none⟩) n n) (w.alloc (.cells (boolA n fun _ => false) 4)) := by
  have hm := run_make_row' (P := Try.prog) 38 4 (.bool false) 1 Try.underlying38 infoC_Bool rfl .i64 .i64 n (by omega) (by omega) w
  rw [hm, ← boolA_zero false false n, ← made_rep (.bool false) (.bool false) rfl n]
  rfl
/-- The cells of n lists, of which the first k are made: list i in block P i, R i numbers. -/
def sliA (n k : Nat) (P R : Nat → Nat) : Array Value := ((List.range n).map fun i => if i < k then Value.slice (some ⟨P i, 0, none⟩) (R i) (R i) else .slice none 0 0).toArray
theorem sliA_size (n k : Nat) (P R : Nat → Nat) : (sliA n k P R).size = n := by simp [sliA]
theorem sliA_get (n k : Nat) (P R : Nat → Nat) {i : Nat} (hi : i < n) : (sliA n k P R)[i]? = some (if i < k then Value.slice (some ⟨P i, 0, none⟩) (R i) (R i) else .slice none 0 0) := by simp [sliA, hi]
theorem sliA_zero (n : Nat) (P R : Nat → Nat) (v : Value) : repA v (.slice none 0 0) 0 n = sliA n 0 P R := by
  apply Array.ext_getElem?
  intro i
  by_cases hi : i < n
  · rw [repA_get _ _ _ _ _ hi, sliA_get _ _ _ _ hi, if_neg (by omega), if_neg (by omega)]
  · rw [Array.getElem?_eq_none (by rw [repA_size]; omega), Array.getElem?_eq_none (by rw [sliA_size]; omega)]
theorem sliA_set {n k : Nat} {P P' R : Nat → Nat} (hP : ∀ i, i < k → P' i = P i) : (sliA n k P R).setIfInBounds k (.slice (some ⟨P' k, 0, none⟩) (R k) (R k)) = sliA n (k + 1) P' R := by
  apply Array.ext_getElem?
  intro i
  rw [Array.getElem?_setIfInBounds]
  by_cases hi : i < n
  · rw [sliA_get _ _ _ _ hi, sliA_get _ _ _ _ hi]
    by_cases e : k = i
    · subst e; rw [if_pos rfl, if_pos (by rw [sliA_size]; exact hi), if_pos (by omega)]
    · rw [if_neg e]
      by_cases h2 : i < k
      · rw [if_pos h2, if_pos (by omega), hP i h2]
      · rw [if_neg h2, if_neg (by omega)]
  · rw [Array.getElem?_eq_none (xs := sliA n (k + 1) P' R) (by rw [sliA_size]; omega)]
    split
    · rw [if_neg (by rw [sliA_size]; omega)]
    · exact Array.getElem?_eq_none (by rw [sliA_size]; omega)
theorem infoRw : (Try.prog.info? 36).map (fun i => (i.zero, i.size, i.bytes)) = some (some (.slice none 0 0), 1, 24) := by kernel_rfl
theorem makeRows (n : Nat) (hn : n ≤ 100000) (P R : Nat → Nat) (w : World) : (Instr.makeSlice 55 (.int .i64 (n : Int)) (.int .i64 (n : Int))).run Try.prog w = .ok (.slice (some ⟨w.heap.size, 0, none⟩) n n) (w.alloc (.cells (sliA n 0 P R) 36)) := by
  have hm := run_make_row' (P := Try.prog) 55 36 (.slice none 0 0) 24 Try.underlying55 infoRw rfl .i64 .i64 n (by omega) (by omega) w
  rw [hm, ← sliA_zero n P R (.slice none 0 0), ← made_rep (.slice none 0 0) (.slice none 0 0) rfl n]
  rfl
/-- Block gb holds n lists, the first k of which are made. -/
structure GotAt (wr : World) (B gb n k : Nat) (P R : Nat → Nat) (f : Nat → Nat → Int) : Prop where
  box : Bk wr gb 36 (sliA n k P R)
  row : ∀ i, i < k → Bk wr (P i) 3 (intA (R i) (f i))
  lo : B ≤ gb ∧ ∀ i, i < k → B ≤ P i
  inj : ∀ i j, i < k → j < k → P i = P j → i = j
theorem GotAt.below {wr w' : World} {B gb n k : Nat} {P R : Nat → Nat} {f : Nat → Nat → Int} (h : GotAt wr B gb n k P R f) (hb : Below wr.heap.size wr w') : GotAt w' B gb n k P R f :=
  ⟨h.box.below hb h.box.lt, fun i hi => (h.row i hi).below hb (h.row i hi).lt, h.lo, h.inj⟩
theorem GotAt.ne {wr : World} {B gb n k : Nat} {P R : Nat → Nat} {f : Nat → Nat → Int} (h : GotAt wr B gb n k P R f) {i : Nat} (hi : i < k) : P i ≠ gb := Bk.neT (h.row i hi) h.box (by decide)
theorem GotAt.cell {wr : World} {B gb n k : Nat} {P R : Nat → Nat} {f : Nat → Nat → Int} (h : GotAt wr B gb n k P R f) {i : Nat} (hi : i < k) (hk : k ≤ n) : wr.cell? ⟨gb, i, none⟩ = some (.slice (some ⟨P i, 0, none⟩) (R i) (R i)) := by
  rw [h.box.cell, sliA_get _ _ _ _ (by omega), if_pos hi]
theorem GotAt.num {wr : World} {B gb n k : Nat} {P R : Nat → Nat} {f : Nat → Nat → Int} (h : GotAt wr B gb n k P R f) {i j : Nat} (hi : i < k) (hj : j < R i) : wr.cell? ⟨P i, j, none⟩ = some (.int .i64 (f i j)) ∧ wr.frozen? ⟨P i, j, none⟩ = false := by
  refine ⟨?_, (h.row i hi).free j⟩
  rw [(h.row i hi).cell, intA_get _ _ _ hj]
theorem GotAt.congr {wr : World} {B gb n k : Nat} {P R : Nat → Nat} {f g : Nat → Nat → Int} (h : GotAt wr B gb n k P R f) (hf : ∀ i, i < k → ∀ j, j < R i → f i j = g i j) : GotAt wr B gb n k P R g :=
  ⟨h.box, fun i hi => by
    have e : intA (R i) (f i) = intA (R i) (g i) := by
      unfold intA; congr 1
      exact List.map_congr_left fun j hj => by rw [hf i hi j (List.mem_range.1 hj)]
    rw [← e]; exact h.row i hi, h.lo, h.inj⟩
theorem GotAt.set {wr : World} {B gb n k : Nat} {P R : Nat → Nat} {f : Nat → Nat → Int} (h : GotAt wr B gb n k P R f) {i : Nat} (hi : i < k) (j : Nat) (v : Int) :
    GotAt (wr.setCell ⟨P i, j, none⟩ (.int .i64 v)) B gb n k P R fun a b => if a = i ∧ b = j then v else f a b := by
  refine ⟨h.box.far (p := ⟨P i, j, none⟩) (fun e => h.ne hi e.symm) _, fun a ha => ?_, h.lo, h.inj⟩
  by_cases e : a = i
  · subst e
    have := (h.row a hi).set j (.int .i64 v)
    rw [intA_set] at this
    rw [show (fun b => if a = a ∧ b = j then v else f a b) = fun b => if b = j then v else f a b from funext fun b => by simp]
    exact this
  · have := (h.row a ha).far (p := ⟨P i, j, none⟩) (fun e2 => e (h.inj a i ha hi e2)) (.int .i64 v)
    rw [show (fun b => if a = i ∧ b = j then v else f a b) = f a from funext fun b => by simp [e]]
    exact this
theorem GotAt.zero {wr : World} {B gb n : Nat} {P R : Nat → Nat} {f : Nat → Nat → Int} (h : Bk wr gb 36 (sliA n 0 P R)) (hB : B ≤ gb) : GotAt wr B gb n 0 P R f :=
  ⟨h, fun i hi => absurd hi (Nat.not_lt_zero i), ⟨hB, fun i hi => absurd hi (Nat.not_lt_zero i)⟩, fun i _ hi => absurd hi (Nat.not_lt_zero i)⟩
/-- One more list is made. -/
theorem GotAt.add {wr : World} {B gb n k : Nat} {P R : Nat → Nat} {f : Nat → Nat → Int} (h : GotAt wr B gb n k P R f) {w1 : World} (hb : Below wr.heap.size wr w1) (hB : B ≤ wr.heap.size) {g : Nat} (hg : wr.heap.size ≤ g) (hr : Bk w1 g 3 (intA (R k) (f k))) :
    GotAt (w1.setCell ⟨gb, k, none⟩ (.slice (some ⟨g, 0, none⟩) (R k) (R k))) B gb n (k + 1) (fun i => if i = k then g else P i) R f := by
  have h1 := h.below hb
  have hgb : gb < wr.heap.size := h.box.lt
  have hP : ∀ i, i < k → P i < wr.heap.size := fun i hi => (h.row i hi).lt
  refine ⟨?_, fun i hi => ?_, ⟨h.lo.1, fun i hi => ?_⟩, fun i j hi hj (e : (if i = k then g else P i) = if j = k then g else P j) => ?_⟩
  · have := h1.box.set k (.slice (some ⟨g, 0, none⟩) (R k) (R k))
    have e := sliA_set (n := n) (k := k) (P := P) (P' := fun i => if i = k then g else P i) (R := R) (fun i hi => if_neg (by omega))
    simp only [if_true] at e
    rwa [e] at this
  · by_cases e : i = k
    · subst e
      rw [if_pos rfl]
      exact hr.far (p := ⟨gb, i, none⟩) (by show g ≠ gb; omega) _
    · rw [if_neg e]
      have hik : i < k := by omega
      exact (h1.row i hik).far (p := ⟨gb, k, none⟩) (h1.ne hik) _
  · by_cases e : i = k
    · rw [if_pos e]; omega
    · rw [if_neg e]; exact h.lo.2 i (by omega)
  · by_cases e1 : i = k
    · by_cases e2 : j = k
      · omega
      · rw [if_pos e1, if_neg e2] at e
        have := hP j (by omega); omega
    · by_cases e2 : j = k
      · rw [if_neg e1, if_pos e2] at e
        have := hP i (by omega); omega
      · rw [if_neg e1, if_neg e2] at e
        exact h.inj i j (by omega) (by omega) e
/-- How many of the first q slots are for message i in its round r. -/
def rowC (T : Nat → Int) (per i r : Nat) (q : Nat) : Nat := cntB (fun s => isM T i s && decide (s / per = r)) q
theorem rowC_succ (T : Nat → Int) (per i r q : Nat) : rowC T per i r (q + 1) = rowC T per i r q + if isM T i q && decide (q / per = r) then 1 else 0 := rfl
theorem rowC_le (T : Nat → Int) (per i r q : Nat) : rowC T per i r q ≤ q := cntB_le _ _
theorem rowC_all {T : Nat → Int} {per i r C : Nat} (hp : 0 < per) (hr : r < C / per) : rowC T per i r C = cntB (fun s => isM T i (r * per + s)) per := by
  unfold rowC
  have h1 : (r + 1) * per ≤ C := Nat.le_trans (Nat.mul_le_mul_right _ hr) (Nat.div_mul_le_self C per)
  obtain ⟨e, he⟩ : ∃ e, C = r * per + (per + e) := ⟨C - (r + 1) * per, by rw [Nat.add_mul, Nat.one_mul] at h1 ⊢; omega⟩
  rw [he, cntB_add, cntB_add]
  have z1 : cntB (fun s => isM T i s && decide (s / per = r)) (r * per) = 0 := cntB_zero.2 fun s hs => by
    have : s / per < r := (Nat.div_lt_iff_lt_mul hp).2 hs
    rw [decide_eq_false (by omega), Bool.and_false]
  have z3 : cntB (fun s => isM T i (r * per + (per + s)) && decide ((r * per + (per + s)) / per = r)) e = 0 := cntB_zero.2 fun s _ => by
    have : r + 1 ≤ (r * per + (per + s)) / per := (Nat.le_div_iff_mul_le hp).2 (by rw [Nat.add_mul, Nat.one_mul]; omega)
    rw [decide_eq_false (by omega), Bool.and_false]
  have z2 : cntB (fun s => isM T i (r * per + s) && decide ((r * per + s) / per = r)) per = cntB (fun s => isM T i (r * per + s)) per := by
    refine Nat.le_antisymm (cntB_mono fun s _ h => ?_) (cntB_mono fun s hs h => ?_)
    · rw [Bool.and_eq_true] at h; exact h.1
    · rw [h, Bool.true_and, decide_eq_true_eq, Nat.mul_comm, Nat.mul_add_div hp, Nat.div_eq_of_lt hs, Nat.add_zero]
  rw [z1, z3, z2]; omega
/-- Is slot s of table T right for the program? -/
def slotP (m : MsgN) (T : Nat → Int) (s : Nat) : Prop := T s = -1 ∨ ∃ i, i < m.n ∧ T s = (i : Int) ∧ s % m.per i < m.dead i
/-- Whether a table serves messages. -/
def servQ (l : List MsgD) (T : List Int) : Prop := (cycleB l).2 = 0 ∧ T.length = cycleN l ∧ ServP (msgN l) (cycleN l) (getI T)
def ServPost (w : World) (l : List MsgD) (T : List Int) (e : Ending) (w' : World) : Prop := ∃ b, e = .returned (.bool b) ∧ (b = true ↔ servQ l T) ∧ Below w.heap.size w w'
theorem servQ_slot {l : List MsgD} {T : List Int} {s : Nat} (h : servQ l T) (hs : s < cycleN l) : slotP (msgN l) (getI T) s := h.2.2.slot s hs
theorem servQ_of {l : List MsgD} {T : List Int} {C : Nat} (h1 : (cycleB l).2 = 0) (hC : cycleN l = C) (h2 : T.length = C) (h3 : ∀ s, s < C → slotP (msgN l) (getI T) s)
    (h4 : ∀ i, i < l.length → ∀ r, r < C / perN l i → rowC (getI T) (perN l i) i r C = (msgN l).size i) : servQ l T := by
  subst hC
  obtain ⟨_, hok⟩ := cycle_ok h1
  refine ⟨h1, h2, h3, fun i r hi hr => ?_⟩
  have hm := validB_msg hok.valid (k := i) hi
  have := h4 i hi r hr
  rw [rowC_all (by unfold perN; omega) (show r < cycleN l / perN l i from hr)] at this
  exact this
theorem servQ_row {l : List MsgD} {T : List Int} (h : servQ l T) {i r : Nat} (hi : i < l.length) (hr : r < cycleN l / perN l i) : rowC (getI T) (perN l i) i r (cycleN l) = (msgN l).size i := by
  obtain ⟨_, hok⟩ := cycle_ok h.1
  have hm := validB_msg hok.valid (k := i) hi
  rw [rowC_all (by unfold perN; omega) hr]
  exact h.2.2.cnt i r hi hr
end Go.Proofs.Ytnmccbjdfdbgpaa
