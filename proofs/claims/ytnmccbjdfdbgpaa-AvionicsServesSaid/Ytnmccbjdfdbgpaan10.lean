/- What is proved: the texts Bh Bf, one behind the other; each says at its head what it proves, and under which conditions. -/
import Derived.Test.Ytnmccbjdfdbgpaan9
/- What is proved: makes of lists; a list of lists of numbers that a call owns; counts of a table's slots. Conditions: those that each lemma states. -/
namespace Go.Proofs.Ytnmccbjdfdbgpaa
open Go.RowKit

theorem makeInts (n : Nat) (hn : n ≤ 100000) (w : World) : (Instr.makeSlice 36 (.int .i64 (n : Int)) (.int .i64 (n : Int))).run Try.prog w = .ok (.slice (some ⟨w.heap.size, 0, none⟩) n n) (w.alloc (.cells (intA n fun _ => 0) 3)) := by
  have hm := run_make_row' (P := Try.prog) 36 3 (.int .i64 0) 8 Try.underlying36 infoI rfl .i64 .i64 n (by omega) (by omega) w
  rw [hm, ← intA_zero 0 0 n, ← made_rep (.int .i64 0) (.int .i64 0) rfl n]
  rfl
theorem boolA_zero (v z : Bool) (k : Nat) : repA (.bool v) (.bool z) 0 k = boolA k fun _ => z := by
  apply Array.ext_getElem?
  intro i
  by_cases hi : i < k
  · rw [repA_get _ _ _ _ _ hi, boolA_get _ _ _ hi, if_neg (by omega)]
  · rw [Array.getElem?_eq_none (by rw [repA_size]; omega), Array.getElem?_eq_none (by rw [boolA_size]; omega)]
theorem makeBools (n : Nat) (hn : n ≤ 100000) (w : World) : (Instr.makeSlice 38 (.int .i64 (n : Int)) (.int .i64 (n : Int))).run Try.prog w = .ok (.slice (some ⟨w.heap.size, 0, none⟩) n n) (w.alloc (.cells (boolA n fun _ => false) 4)) := by
  have hm := run_make_row' (P := Try.prog) 38 4 (.bool false) 1 Try.underlying38 infoC_Bool rfl .i64 .i64 n (by omega) (by omega) w
  rw [hm, ← boolA_zero false false n, ← made_rep (.bool false) (.bool false) rfl n]
  rfl
/-- The cells of n lists, of which the first k are made: list i in block P i, R i numbers. -/
def sliA (n k : Nat) (P R : Nat → Nat) : Array Value := ((List.range n).map fun i => if i < k then Value.slice (some ⟨P i, 0, none⟩) (R i) (R i) else .slice none 0 0).toArray
theorem sliA_size (n k : Nat) (P R : Nat → Nat) : (sliA n k P R).size = n := by simp [sliA]
theorem sliA_get (n k : Nat) (P R : Nat → Nat) {i : Nat} (hi : i < n) : (sliA n k P R)[i]? = some (if i < k then Value.slice (some ⟨P i, 0, none⟩) (R i) (R i) else .slice none 0 0) := by simp [sliA, hi]
theorem sliA_zero (n : Nat) (P R : Nat → Nat) (v : Value) : repA v (.slice none 0 0) 0 n = sliA n 0 P R := by
  apply Array.ext_getElem?
  intro i
  by_cases hi : i < n
  · rw [repA_get _ _ _ _ _ hi, sliA_get _ _ _ _ hi, if_neg (by omega), if_neg (by omega)]
  · rw [Array.getElem?_eq_none (by rw [repA_size]; omega), Array.getElem?_eq_none (by rw [sliA_size]; omega)]
theorem sliA_set {n k : Nat} {P P' R : Nat → Nat} (hP : ∀ i, i < k → P' i = P i) : (sliA n k P R).setIfInBounds k (.slice (some ⟨P' k, 0, none⟩) (R k) (R k)) = sliA n (k + 1) P' R := by
  apply Array.ext_getElem?
  intro i
  rw [Array.getElem?_setIfInBounds]
  by_cases hi : i < n
  · rw [sliA_get _ _ _ _ hi, sliA_get _ _ _ _ hi]
    by_cases e : k = i
    · subst e; rw [if_pos rfl, if_pos (by rw [sliA_size]; exact hi), if_pos (by omega)]
    · rw [if_neg e]
      by_cases h2 : i < k
      · rw [if_pos h2, if_pos (by omega), hP i h2]
      · rw [if_neg h2, if_neg (by omega)]
  · rw [Array.getElem?_eq_none (xs := sliA n (k + 1) P' R) (by rw [sliA_size]; omega)]
    split
    · rw [if_neg (by rw [sliA_size]; omega)]
    · exact Array.getElem?_eq_none (by rw [sliA_size]; omega)
theorem infoRw : (Try.prog.info? 36).map (fun i => (i.zero, i.size, i.bytes)) = some (some (.slice none 0 0), 1, 24) := by kernel_rfl
theorem makeRows (n : Nat) (hn : n ≤ 100000) (P R : Nat → Nat) (w : World) : (Instr.makeSlice 55 (.int .i64 (n : Int)) (.int .i64 (n : Int))).run Try.prog w = .ok (.slice (some ⟨w.heap.size, 0, none⟩) n n) (w.alloc (.cells (sliA n 0 P R) 36)) := by
  have hm := run_make_row' (P := Try.prog) 55 36 (.slice none 0 0) 24 Try.underlying55 infoRw rfl .i64 .i64 n (by omega) (by omega) w
  rw [hm, ← sliA_zero n P R (.slice none 0 0), ← made_rep (.slice none 0 0) (.slice none 0 0) rfl n]
  rfl
/-- Block gb holds n lists, the first k of which are made. -/
structure GotAt (wr : World) (B gb n k : Nat) (P R : Nat → Nat) (f : Nat → Nat → Int) : Prop where
  box : Bk wr gb 36 (sliA n k P R)
  row : ∀ i, i < k → Bk wr (P i) 3 (intA (R i) (f i))
  lo : B ≤ gb ∧ ∀ i, i < k → B ≤ P i
  inj : ∀ i j, i < k → j < k → P i = P j → i = j
theorem GotAt.below {wr w' : World} {B gb n k : Nat} {P R : Nat → Nat} {f : Nat → Nat → Int} (h : GotAt wr B gb n k P R f) (hb : Below wr.heap.size wr w') : GotAt w' B gb n k P R f :=
  ⟨h.box.below hb h.box.lt, fun i hi => (h.row i hi).below hb (h.row i hi).lt, h.lo, h.inj⟩
theorem GotAt.ne {wr : World} {B gb n k : Nat} {P R : Nat → Nat} {f : Nat → Nat → Int} (h : GotAt wr B gb n k P R f) {i : Nat} (hi : i < k) : P i ≠ gb := Bk.neT (h.row i hi) h.box (by decide)
theorem GotAt.cell {wr : World} {B gb n k : Nat} {P R : Nat → Nat} {f : Nat → Nat → Int} (h : GotAt wr B gb n k P R f) {i : Nat} (hi : i < k) (hk : k ≤ n) : wr.cell? ⟨gb, i, none⟩ = some (.slice (some ⟨P i, 0, none⟩) (R i) (R i)) := by
  rw [h.box.cell, sliA_get _ _ _ _ (by omega), if_pos hi]
theorem GotAt.num {wr : World} {B gb n k : Nat} {P R : Nat → Nat} {f : Nat → Nat → Int} (h : GotAt wr B gb n k P R f) {i j : Nat} (hi : i < k) (hj : j < R i) : wr.cell? ⟨P i, j, none⟩ = some (.int .i64 (f i j)) ∧ wr.frozen? ⟨P i, j, none⟩ = false := by
  refine ⟨?_, (h.row i hi).free j⟩
  rw [(h.row i hi).cell, intA_get _ _ _ hj]
theorem GotAt.congr {wr : World} {B gb n k : Nat} {P R : Nat → Nat} {f g : Nat → Nat → Int} (h : GotAt wr B gb n k P R f) (hf : ∀ i, i < k → ∀ j, j < R i → f i j = g i j) : GotAt wr B gb n k P R g :=
  ⟨h.box, fun i hi => by
    have e : intA (R i) (f i) = intA (R i) (g i) := by
      unfold intA; congr 1
      exact List.map_congr_left fun j hj => by rw [hf i hi j (List.mem_range.1 hj)]
    rw [← e]; exact h.row i hi, h.lo, h.inj⟩
theorem GotAt.set {wr : World} {B gb n k : Nat} {P R : Nat → Nat} {f : Nat → Nat → Int} (h : GotAt wr B gb n k P R f) {i : Nat} (hi : i < k) (j : Nat) (v : Int) :
    GotAt (wr.setCell ⟨P i, j, none⟩ (.int .i64 v)) B gb n k P R fun a b => if a = i ∧ b = j then v else f a b := by
  refine ⟨h.box.far (p := ⟨P i, j, none⟩) (fun e => h.ne hi e.symm) _, fun a ha => ?_, h.lo, h.inj⟩
  by_cases e : a = i
  · subst e
    have := (h.row a hi).set j (.int .i64 v)
    rw [intA_set] at this
    rw [show (fun b => if a = a ∧ b = j then v else f a b) = fun b => if b = j then v else f a b from funext fun b => by simp]
    exact this
  · have := (h.row a ha).far (p := ⟨P i, j, none⟩) (fun e2 => e (h.inj a i ha hi e2)) (.int .i64 v)
    rw [show (fun b => if a = i ∧ b = j then v else f a b) = f a from funext fun b => by simp [e]]
    exact this
theorem GotAt.zero {wr : World} {B gb n : Nat} {P R : Nat → Nat} {f : Nat → Nat → Int} (h : Bk wr gb 36 (sliA n 0 P R)) (hB : B ≤ gb) : GotAt wr B gb n 0 P R f :=
  ⟨h, fun i hi => absurd hi (Nat.not_lt_zero i), ⟨hB, fun i hi => absurd hi (Nat.not_lt_zero i)⟩, fun i _ hi => absurd hi (Nat.not_lt_zero i)⟩
/-- One more list is made. -/
theorem GotAt.add {wr : World} {B gb n k : Nat} {P R : Nat → Nat} {f : Nat → Nat → Int} (h : GotAt wr B gb n k P R f) {w1 : World} (hb : Below wr.heap.size wr w1) (hB : B ≤ wr.heap.size) {g : Nat} (hg : wr.heap.size ≤ g) (hr : Bk w1 g 3 (intA (R k) (f k))) :
    GotAt (w1.setCell ⟨gb, k, none⟩ (.slice (some ⟨g, 0, none⟩) (R k) (R k))) B gb n (k + 1) (fun i => if i = k then g else P i) R f := by
  have h1 := h.below hb
  have hgb : gb < wr.heap.size := h.box.lt
  have hP : ∀ i, i < k → P i < wr.heap.size := fun i hi => (h.row i hi).lt
  refine ⟨?_, fun i hi => ?_, ⟨h.lo.1, fun i hi => ?_⟩, fun i j hi hj (e : (if i = k then g else P i) = if j = k then g else P j) => ?_⟩
  · have := h1.box.set k (.slice (some ⟨g, 0, none⟩) (R k) (R k))
    have e := sliA_set (n := n) (k := k) (P := P) (P' := fun i => if i = k then g else P i) (R := R) (fun i hi => if_neg (by omega))
    simp only [if_true] at e
    rwa [e] at this
  · by_cases e : i = k
    · subst e
      rw [if_pos rfl]
      exact hr.far (p := ⟨gb, i, none⟩) (by show g ≠ gb; omega) _
    · rw [if_neg e]
      have hik : i < k := by omega
      exact (h1.row i hik).far (p := ⟨gb, k, none⟩) (h1.ne hik) _
  · by_cases e : i = k
    · rw [if_pos e]; omega
    · rw [if_neg e]; exact h.lo.2 i (by omega)
  · by_cases e1 : i = k
    · by_cases e2 : j = k
      · omega
      · rw [if_pos e1, if_neg e2] at e
        have := hP j (by omega); omega
    · by_cases e2 : j = k
      · rw [if_neg e1, if_pos e2] at e
        have := hP i (by omega); omega
      · rw [if_neg e1, if_neg e2] at e
        exact h.inj i j (by omega) (by omega) e
/-- How many of the first q slots are for message i in its round r. -/
def rowC (T : Nat → Int) (per i r : Nat) (q : Nat) : Nat := cntB (fun s => isM T i s && decide (s / per = r)) q
theorem rowC_succ (T : Nat → Int) (per i r q : Nat) : rowC T per i r (q + 1) = rowC T per i r q + if isM T i q && decide (q / per = r) then 1 else 0 := rfl
theorem rowC_le (T : Nat → Int) (per i r q : Nat) : rowC T per i r q ≤ q := cntB_le _ _
theorem rowC_all {T : Nat → Int} {per i r C : Nat} (hp : 0 < per) (hr : r < C / per) : rowC T per i r C = cntB (fun s => isM T i (r * per + s)) per := by
  unfold rowC
  have h1 : (r + 1) * per ≤ C := Nat.le_trans (Nat.mul_le_mul_right _ hr) (Nat.div_mul_le_self C per)
  obtain ⟨e, he⟩ : ∃ e, C = r * per + (per + e) := ⟨C - (r + 1) * per, by rw [Nat.add_mul, Nat.one_mul] at h1 ⊢; omega⟩
  rw [he, cntB_add, cntB_add]
  have z1 : cntB (fun s => isM T i s && decide (s / per = r)) (r * per) = 0 := cntB_zero.2 fun s hs => by
    have : s / per < r := (Nat.div_lt_iff_lt_mul hp).2 hs
    rw [decide_eq_false (by omega), Bool.and_false]
  have z3 : cntB (fun s => isM T i (r * per + (per + s)) && decide ((r * per + (per + s)) / per = r)) e = 0 := cntB_zero.2 fun s _ => by
    have : r + 1 ≤ (r * per + (per + s)) / per := (Nat.le_div_iff_mul_le hp).2 (by rw [Nat.add_mul, Nat.one_mul]; omega)
    rw [decide_eq_false (by omega), Bool.and_false]
  have z2 : cntB (fun s => isM T i (r * per + s) && decide ((r * per + s) / per = r)) per = cntB (fun s => isM T i (r * per + s)) per := by
    refine Nat.le_antisymm (cntB_mono fun s _ h => ?_) (cntB_mono fun s hs h => ?_)
    · rw [Bool.and_eq_true] at h; exact h.1
    · rw [h, Bool.true_and, decide_eq_true_eq, Nat.mul_comm, Nat.mul_add_div hp, Nat.div_eq_of_lt hs, Nat.add_zero]
  rw [z1, z3, z2]; omega
/-- Is slot s of table T right for the program? -/
def slotP (m : MsgN) (T : Nat → Int) (s : Nat) : Prop := T s = -1 ∨ ∃ i, i < m.n ∧ T s = (i : Int) ∧ s % m.per i < m.dead i
/-- Whether a table serves messages. -/
def servQ (l : List MsgD) (T : List Int) : Prop := (cycleB l).2 = 0 ∧ T.length = cycleN l ∧ ServP (msgN l) (cycleN l) (getI T)
def ServPost (w : World) (l : List MsgD) (T : List Int) (e : Ending) (w' : World) : Prop := ∃ b, e = .returned (.bool b) ∧ (b = true ↔ servQ l T) ∧ Below w.heap.size w w'
theorem servQ_slot {l : List MsgD} {T : List Int} {s : Nat} (h : servQ l T) (hs : s < cycleN l) : slotP (msgN l) (getI T) s := h.2.2.slot s hs
theorem servQ_of {l : List MsgD} {T : List Int} {C : Nat} (h1 : (cycleB l).2 = 0) (hC : cycleN l = C) (h2 : T.length = C) (h3 : ∀ s, s < C → slotP (msgN l) (getI T) s)
    (h4 : ∀ i, i < l.length → ∀ r, r < C / perN l i → rowC (getI T) (perN l i) i r C = (msgN l).size i) : servQ l T := by
  subst hC
  obtain ⟨_, hok⟩ := cycle_ok h1
  refine ⟨h1, h2, h3, fun i r hi hr => ?_⟩
  have hm := validB_msg hok.valid (k := i) hi
  have := h4 i hi r hr
  rw [rowC_all (by unfold perN; omega) (show r < cycleN l / perN l i from hr)] at this
  exact this
theorem servQ_row {l : List MsgD} {T : List Int} (h : servQ l T) {i r : Nat} (hi : i < l.length) (hr : r < cycleN l / perN l i) : rowC (getI T) (perN l i) i r (cycleN l) = (msgN l).size i := by
  obtain ⟨_, hok⟩ := cycle_ok h.1
  have hm := validB_msg hok.valid (k := i) hi
  rw [rowC_all (by unfold perN; omega) hr]
  exact h.2.2.cnt i r hi hr
end Go.Proofs.Ytnmccbjdfdbgpaa
/- What is proved: AvionicsMids returns true, and makes only memory. Conditions: the lists lie in memory. -/
namespace Go.Proofs.Ytnmccbjdfdbgpaa
open Go.RowKit

/-- Block g begins with the numbers l. -/
def CurI (w : World) (g : Nat) (l : List Int) : Prop := ∃ cur, Bk w g 3 cur ∧ ∀ i, i < l.length → cur[i]? = some (.int .i64 (getI l i))
theorem CurI.below {w w' : World} {g : Nat} {l : List Int} (h : CurI w g l) (hb : Below w.heap.size w w') : CurI w' g l := by
  obtain ⟨cur, h1, h2⟩ := h
  exact ⟨cur, h1.below hb h1.lt, h2⟩
theorem CurI.lt {w : World} {g : Nat} {l : List Int} (h : CurI w g l) : g < w.heap.size := by obtain ⟨_, h1, _⟩ := h; exact h1.lt
theorem CurI.cell {w : World} {g : Nat} {l : List Int} (h : CurI w g l) {i : Nat} (hi : i < l.length) : w.cell? ⟨g, i, none⟩ = some (.int .i64 (getI l i)) := by
  obtain ⟨cur, h1, h2⟩ := h
  rw [h1.cell]; exact h2 i hi
theorem CurI.free {w : World} {g : Nat} {l : List Int} (h : CurI w g l) (i : Nat) : w.frozen? ⟨g, i, none⟩ = false := by obtain ⟨_, h1, _⟩ := h; exact h1.free i
theorem CurI.set {w : World} {g : Nat} {l : List Int} (h : CurI w g l) {k : Nat} (hk : k < l.length) (v : Int) : CurI (w.setCell ⟨g, k, none⟩ (.int .i64 v)) g (l.set k v) := by
  obtain ⟨cur, h1, h2⟩ := h
  refine ⟨_, h1.set k _, fun i hi => ?_⟩
  rw [List.length_set] at hi
  rw [Array.getElem?_setIfInBounds, getI_set hk]
  by_cases e : i = k
  · subst e
    have := (Array.getElem?_eq_some_iff.1 (h2 i hi)).1
    rw [if_pos rfl, if_pos rfl, if_pos this]
  · rw [if_neg (fun x => e x.symm), if_neg e]; exact h2 i hi
theorem CurI.far {w : World} {g : Nat} {l : List Int} (h : CurI w g l) {p : Addr} (hp : g ≠ p.block) (u : Value) : CurI (w.setCell p u) g l := by
  obtain ⟨cur, h1, h2⟩ := h
  exact ⟨cur, h1.far hp u, h2⟩
theorem CurI.ints {w : World} {g : Nat} {l : List Int} (h : CurI w g l) (hn : l.length ≤ 4096) : IntsAt w w.heap.size (some ⟨g, 0, none⟩) l := by
  obtain ⟨cur, h1, h2⟩ := h
  refine ⟨by omega, fun _ => ⟨g, 0, rfl, h1.lt, fun i hi j hj => ?_⟩⟩
  obtain rfl : j = 0 := by omega
  rw [h1.cell]
  simpa using h2 i hi
theorem Cl.curI {w : World} {B : Nat} {A : Option Addr} {l : List Int} (h : Cl w B 3 1 A l.length fun i _ => .int .i64 (getI l i)) (hn : 0 < l.length) : ∃ g, A = some ⟨g, 0, none⟩ ∧ B ≤ g ∧ CurI w g l := by
  obtain ⟨g, cur, e, h1, h2, h3⟩ := h.2 hn
  exact ⟨g, e, h1, cur, h2, fun i hi => by have := h3 i hi 0 (by omega); simpa using this⟩
/-- The world of a round of AvionicsMids: the box, the list that turns, the marks. -/
structure MidW (w : World) (qb gb sb : Nat) (q p : Int) (m : List Int) (n : Nat) (s : Nat → Bool) (wr : World) : Prop where
  bel : Below qb w wr
  box : Bk wr qb 23 #[.int .i64 q, .int .i64 p]
  cur : CurI wr gb m
  mark : Bk wr sb 4 (boolA n s)
  ne1 : qb < gb
  ne2 : qb < sb
  ne3 : gb ≠ sb
theorem MidW.setM {w : World} {qb gb sb : Nat} {q p : Int} {m : List Int} {n : Nat} {s : Nat → Bool} {wr : World} (h : MidW w qb gb sb q p m n s wr) {k : Nat} (hk : k < m.length) (v : Int) :
    MidW w qb gb sb q p (m.set k v) n s (wr.setCell ⟨gb, k, none⟩ (.int .i64 v)) :=
  ⟨h.bel.setCell (p := ⟨gb, k, none⟩) (Nat.le_of_lt h.ne1) _, h.box.far (p := ⟨gb, k, none⟩) (Nat.ne_of_lt h.ne1) _, h.cur.set hk v, h.mark.far (p := ⟨gb, k, none⟩) (fun e => h.ne3 e.symm) _, h.ne1, h.ne2, h.ne3⟩
theorem MidW.setS {w : World} {qb gb sb : Nat} {q p : Int} {m : List Int} {n : Nat} {s s' : Nat → Bool} {wr : World} (h : MidW w qb gb sb q p m n s wr) (k : Nat) (v : Bool) (hs : ∀ j, j < n → (if j = k then v else s j) = s' j) :
    MidW w qb gb sb q p m n s' (wr.setCell ⟨sb, k, none⟩ (.bool v)) :=
  ⟨h.bel.setCell (p := ⟨sb, k, none⟩) (Nat.le_of_lt h.ne2) _, h.box.far (p := ⟨sb, k, none⟩) (Nat.ne_of_lt h.ne2) _, h.cur.far (p := ⟨sb, k, none⟩) h.ne3 _, by
    have := h.mark.set k (.bool v)
    rw [boolA_set] at this
    have e : boolA n (fun j => if j = k then v else s j) = boolA n s' := by
      unfold boolA; congr 1
      exact List.map_congr_left fun j hj => congrArg Value.bool (hs j (List.mem_range.1 hj))
    rwa [e] at this, h.ne1, h.ne2, h.ne3⟩
theorem MidW.below {w : World} {qb gb sb : Nat} {q p : Int} {m : List Int} {n : Nat} {s : Nat → Bool} {wr w' : World} (h : MidW w qb gb sb q p m n s wr) (hb : Below wr.heap.size wr w') : MidW w qb gb sb q p m n s w' :=
  ⟨h.bel.trans (hb.mono (Nat.le_of_lt h.box.lt)), h.box.below hb h.box.lt, h.cur.below hb, h.mark.below hb h.mark.lt, h.ne1, h.ne2, h.ne3⟩
set_option maxRecDepth 100000 in
set_option maxHeartbeats 16000000 in
theorem mids_any (w : World) (A : Option Addr) (c : Nat) (l : List Int) (h : IntsAt w w.heap.size A l) (_hw : ∀ n ∈ l, Wd n) (A' : Option Addr) (c' : Nat) (o : List Int) (h' : IntsAt w w.heap.size A' o) (_hw2 : ∀ n ∈ o, Wd n) (q p : Int) (_hq : Wd q) (_hp : Wd p) :
    Calls Try.prog 10 #[.slice A l.length c, .slice A' o.length c', .agg #[.int .i64 q, .int .i64 p]] w fun e w' => e = .returned (.bool true) ∧ Below w.heap.size w w' := by
  clear _hw _hw2 _hq _hp
  have HL := Lib.hid h
  have HO := Lib.hid h'
  have hll := h.1
  have hlo := h'.1
  obtain ⟨qb, hqb⟩ : ∃ qb, w.heap.size = qb := ⟨_, rfl⟩
  have HQB := Lib.hid hqb
  obtain ⟨W0, hW0⟩ : ∃ W0, w.alloc (.cells #[.int .i64 q, .int .i64 p] 23) = W0 := ⟨_, rfl⟩
  have HB0 : Hid (Below qb w W0) := Lib.hid (by rw [← hW0, ← hqb]; exact (Below.refl _ w).alloc (Nat.le_refl _) _)
  have HK0 : Hid (Bk W0 qb 23 #[.int .i64 q, .int .i64 p]) := Lib.hid (by rw [← hW0, ← hqb]; exact Bk.new _ _ _)
  have HM1 := Lib.hid fun (w1 : World) (hb : Below qb w w1) => mid_any w1 A c l q (Sl.mono (Sl.below h (by rw [hqb]; exact hb)) hb.size)
  have HM2 := Lib.hid fun (w1 : World) (hb : Below qb w w1) => refMid_any w1 A c l q (Sl.mono (Sl.below h (by rw [hqb]; exact hb)) hb.size)
  have HTR : Hid (∀ a b, Below qb w a → Below a.heap.size a b → Below qb w b) := Lib.hid fun a b h1 h2 => h1.trans (h2.mono (by rw [← hqb]; exact h1.size))
  have HFIN : Hid (∀ (e : Ending) (w' : World), e = .returned (.bool true) → Below qb w w' → e = .returned (.bool true) ∧ Below qb w w') := Lib.hid fun _ _ a b => ⟨a, b⟩
  obtain ⟨n, hn⟩ : ∃ n, l.length = n := ⟨_, rfl⟩
  have HN := Lib.hid hn
  obtain ⟨no, hno⟩ : ∃ n, o.length = n := ⟨_, rfl⟩
  have HNO := Lib.hid hno
  obtain ⟨a, ha⟩ : ∃ a, (midpB l q).1 = a := ⟨_, rfl⟩
  obtain ⟨er, her⟩ : ∃ er, (midpB l q).2 = er := ⟨_, rfl⟩
  have HMP := Lib.hid (midpB_ok (l := l) (f := q))
  rw [her, ha] at HMP
  rw [ha, her] at HM1 HM2
  rw [hn] at hll HM1 HM2 HMP ⊢
  rw [hno] at hlo ⊢
  rw [hqb]
  clear h h' hn hno ha her
  go_enter Try.func10, Try.ntmps10
  go_upto_region 1 with (fail)
  have hsz0 : qb < W0.heap.size := HK0.out.lt
  have q0 : W0.cell? ⟨qb, 0, none⟩ = some (.int .i64 q) := HK0.out.cell 0
  clear hW0 hqb
  by_cases h1 : 110 < n
  · have h1i : (110 : Int) < (n : Int) := by omega
    go_wp2_with fail
    refine (awake_any _).mono ?_
    rintro e w1 ⟨rfl, hb1⟩
    go_wp2_with fail
    go_ret
    exact HFIN.out _ _ rfl (HTR.out _ _ HB0.out hb1)
  have h1i : ¬ (110 : Int) < (n : Int) := by omega
  by_cases h2 : 110 < no
  · have h2i : (110 : Int) < (no : Int) := by omega
    go_wp2_with fail
    refine (awake_any _).mono ?_
    rintro e w1 ⟨rfl, hb1⟩
    go_wp2_with fail
    go_ret
    exact HFIN.out _ _ rfl (HTR.out _ _ HB0.out hb1)
  have h2i : ¬ (110 : Int) < (no : Int) := by omega
  go_wp2_with fail
  refine (HM1.out _ HB0.out).mono ?_
  rintro e w1 ⟨rfl, hb1⟩
  have HB1 := Lib.hid (HTR.out _ _ HB0.out hb1)
  have HK1 := Lib.hid (HK0.out.below hb1 HK0.out.lt)
  have q1 : w1.cell? ⟨qb, 0, none⟩ = some (.int .i64 q) := HK1.out.cell 0
  clear hb1
  go_wp2_with fail
  refine (HM2.out _ HB1.out).mono ?_
  rintro e w2 ⟨rfl, hb2⟩
  have HB2 := Lib.hid (HTR.out _ _ HB1.out hb2)
  have HK2 := Lib.hid (HK1.out.below hb2 HK1.out.lt)
  have q2 : w2.cell? ⟨qb, 0, none⟩ = some (.int .i64 q) := HK2.out.cell 0
  have q3 : w2.cell? ⟨qb, 1, none⟩ = some (.int .i64 p) := HK2.out.cell 1
  clear hb2
  by_cases he : er = 0
  case neg =>
    go_wp2_with fail
    refine (awake_any _).mono ?_
    rintro e w3 ⟨rfl, hb3⟩
    go_wp2_with fail
    go_ret
    exact HFIN.out _ _ rfl (HTR.out _ _ HB2.out hb3)
  subst he
  obtain ⟨hf0, hf1, haF, hf2, hf3, hrng⟩ := HMP.out rfl
  obtain ⟨F, rfl⟩ : ∃ F : Nat, q = F := ⟨q.toNat, by omega⟩
  rw [Int.toNat_natCast] at haF
  have HRNG := Lib.hid hrng
  have HA := Lib.hid haF
  have hab : -1073741825 ≤ a ∧ a ≤ 1073741824 := by
    rw [haF]; exact midB_bd (by rw [HN.out]; exact hrng) (by rw [HN.out]; omega)
  clear hrng haF
  by_cases h3 : n < 3 * F + 1
  · have h3i : (n : Int) < 3 * (F : Int) + 1 := by omega
    go_wp2_with fail
    refine (awake_any _).mono ?_
    rintro e w3 ⟨rfl, hb3⟩
    go_wp2_with fail
    go_ret
    exact HFIN.out _ _ rfl (HTR.out _ _ HB2.out hb3)
  have h3i : ¬ (n : Int) < 3 * (F : Int) + 1 := by omega
  by_cases h4 : no < F
  · have h4i : (no : Int) < (F : Int) := by omega
    go_wp2_with fail
    refine (awake_any _).mono ?_
    rintro e w3 ⟨rfl, hb3⟩
    go_wp2_with fail
    go_ret
    exact HFIN.out _ _ rfl (HTR.out _ _ HB2.out hb3)
  have h4i : ¬ (no : Int) < (F : Int) := by omega
  have hn1 : 0 < n := by omega
  obtain ⟨i0, hi, hz0, hz1, hz2⟩ := info_parts infoC_Int
  obtain ⟨ad, rfl⟩ : ∃ ad, A = some ad := by
    obtain ⟨b, off, e, _⟩ := HL.out.2 (by rw [HN.out]; exact hn1)
    exact ⟨_, e⟩
  have HCELL : Hid (∀ ob j u, (rowsL n 1 fun i _ => .int .i64 (getI l i))[j]? = some u → (w2.alloc ob).cell? (ad.add j) = some u) := Lib.hid fun ob j u hj => by
    have h5 := Sl.below HL.out (by rw [HQB.out]; exact HB2.out)
    obtain ⟨b, off, e, _, hc⟩ := h5.2 (by rw [HN.out]; exact hn1)
    cases e
    rw [Addr.add_lit]
    exact Lib.cell?_alloc_some _ (rowsL_cell (fun i hi => hc i (by rw [HN.out]; exact hi)) j u hj)
  obtain ⟨t1, ht1⟩ : ∃ t1, p.tmod (n : Int) = t1 := ⟨_, rfl⟩
  have ht2 : -(n : Int) < t1 ∧ t1 < (n : Int) := by
    rw [← ht1]
    have h5 := Int.tmod_lt_of_pos p (b := (n : Int)) (by omega)
    have h6 := Int.lt_tmod_of_pos p (b := (n : Int)) (by omega)
    omega
  obtain ⟨fi, hfi⟩ : ∃ fi : Nat, (t1 + (n : Int)).tmod (n : Int) = fi := ⟨((t1 + (n : Int)).tmod (n : Int)).toNat, by
    have := Int.tmod_nonneg (n : Int) (a := t1 + n) (by omega)
    omega⟩
  have hfi2 : fi < n := by
    have := Int.tmod_lt_of_pos (t1 + (n : Int)) (b := (n : Int)) (by omega)
    omega
  go_wp2_with (at_builtin; refine wpList_append_own _ rfl _ _ 36 rfl w2.heap.size 3 i0 (.int .i64 0) 1 8 Try.underlying36 hi hz0 hz1 hz2 rfl (by decide) _ _ _ rfl (World.ownsRow_made w2 #[] 0 (Nat.le_refl _) (Nat.zero_le _) rfl) ad n c (rowsL n 1 fun i _ => .int .i64 (getI l i)) rfl ?qc1 ?qc2 ?qc3 ?qc4 ?qc5 ?qc6 ?_)
  case qc1 => exact rowsL_len _ _ _
  case qc2 => exact HCELL.out _
  case qc3 => exact rowsL_one fun _ _ => rfl
  case qc4 => unfold maxLen; omega
  case qc5 => omega
  case qc6 => simp
  intro v' w3 hown hgrow _
  obtain ⟨A3, c3, rfl, hcl⟩ := Cl.of_own (by omega) hown
  have hb3 : Below w2.heap.size w2 w3 := ((Below.refl _ w2).alloc (Nat.le_refl _) _).grown hgrow (by simp) (by intro k hk; simp [Value.ownBlock] at hk; omega)
  obtain ⟨gb, rfl, hgb, hcur⟩ : ∃ g, A3 = some ⟨g, 0, none⟩ ∧ w2.heap.size ≤ g ∧ CurI w3 g l := by
    rw [← HN.out] at hcl
    exact Cl.curI hcl (by rw [HN.out]; exact hn1)
  have KM := makeBools n (by omega) w3
  obtain ⟨sb, hsb⟩ : ∃ sb, w3.heap.size = sb := ⟨_, rfl⟩
  obtain ⟨W4, hW4⟩ : ∃ W4, w3.alloc (.cells (boolA n fun _ => false) 4) = W4 := ⟨_, rfl⟩
  have HMW : Hid (MidW w qb gb sb F p l n (fun j => decide (j < 0)) W4) := Lib.hid (by
    have hb4 : Below w3.heap.size w3 W4 := by rw [← hW4]; exact (Below.refl _ _).alloc (Nat.le_refl _) _
    have hk3 := HK2.out.below hb3 HK2.out.lt
    have h5 := HK2.out.lt
    have h6 := hcur.lt
    refine ⟨HTR.out _ _ (HTR.out _ _ HB2.out hb3) hb4, hk3.below hb4 hk3.lt, hcur.below hb4, ?_, by omega, by have := hk3.lt; omega, by omega⟩
    have e : (boolA n fun j => decide (j < 0)) = boolA n fun _ => false := by unfold boolA; simp
    rw [e, ← hW4, ← hsb]; exact Bk.new _ _ _)
  have r3 : w3.cell? ⟨qb, 1, none⟩ = some (.int .i64 p) := (HK2.out.below hb3 HK2.out.lt).cell 1
  have HGS : Hid (gb ≠ sb) := Lib.hid (by have := hcur.lt; omega)
  rw [hW4, hsb] at KM
  clear hown hgrow hcl hb3 hgb hcur hW4 hsb q2 q3 HCELL
  go_wp2_with fail
  clear r3 KM
  go_loopw [14] (fun i wr => ∃ k : Nat, k ≤ n ∧ i = .int .i64 k ∧ Hid (MidW w qb gb sb F p l n (fun j => decide (j < k)) wr)) (fun i _ => n - (intOf i).toNat)
  case atStart => exact ⟨0, Nat.zero_le _, rfl, HMW⟩
  case round =>
    clear HMW
    obtain ⟨k, hk, rfl, hs⟩ := hrel
    by_cases hlt : k < n
    · have hki : (k : Int) < (n : Int) := by omega
      have h0k : (0 : Int) ≤ (k : Int) := by omega
      have d0 : wr.cell? ⟨sb, k, none⟩ = some (.bool (decide (k < k))) := by rw [hs.out.mark.cell, boolA_get _ _ _ hlt]
      have d1 := hs.out.mark.free k
      have HNX := Lib.hid (hs.out.setS k true (s' := fun j => decide (j < k + 1)) (fun j _ => by
        by_cases e : j = k
        · subst e; simp
        · rw [if_neg e]; exact decide_eq_decide.2 (by omega)))
      go_wp2_with fail
      obtain ⟨w5, hw5⟩ : ∃ w5, wr.setCell ⟨sb, k, none⟩ (.bool true) = w5 := ⟨_, rfl⟩
      rw [hw5] at HNX
      try rw [hw5]
      clear hw5 d0 d1
      go_roundw
      case rel => exact ⟨k + 1, by omega, by go_num, HNX⟩
      case measure => simp [intOf]; omega
    · obtain rfl : k = n := by omega
      have HM2 : Hid (MidW w qb gb sb F p (midM l o fi 0) k (midS k fi 0) wr) := Lib.hid (by
        have h5 := hs.out
        refine ⟨h5.bel, h5.box, h5.cur, ?_, h5.ne1, h5.ne2, h5.ne3⟩
        have e : (boolA k fun j => decide (j < k)) = boolA k (midS k fi 0) := by
          unfold boolA; congr 1
          exact List.map_congr_left fun j hj => congrArg Value.bool (decide_eq_true (List.mem_range.1 hj))
        rw [← e]; exact h5.mark)
      clear hs
      go_wp2_with fail
      go_loopw [15] (fun i w2 => ∃ q : Nat, q ≤ F ∧ i = .int .i64 q ∧ Hid (MidW w qb gb sb F p (midM l o fi q) k (midS k fi q) w2)) (fun i _ => F - (intOf i).toNat)
      case atStart => exact ⟨0, Nat.zero_le _, rfl, HM2⟩
      case round =>
        clear HM2
        obtain ⟨q, hq, rfl, hs⟩ := hrel
        have c0 : wr.cell? ⟨qb, 0, none⟩ = some (.int .i64 F) := hs.out.box.cell 0
        by_cases hqF : q < F
        · have hqi : (q : Int) < (F : Int) := by omega
          have h0q : (0 : Int) ≤ (q : Int) := by omega
          have hqo : (q : Int) < (no : Int) := by omega
          have htm : ((fi : Int) + (q : Int)).tmod (k : Int) = (((fi + q) % k : Nat) : Int) := by rw [Int.tmod_eq_emod_of_nonneg (by omega)]; rfl
          have hml : (fi + q) % k < k := Nat.mod_lt _ hn1
          have HMM : Hid (midM l o fi (q + 1) = (midM l o fi q).set ((fi + q) % k) (getI o q)) := Lib.hid (by show _ = _; rw [midM, HN.out])
          have HSS : Hid (∀ j, (if j = (fi + q) % k then false else midS k fi q j) = midS k fi (q + 1) j) := Lib.hid fun j => rfl
          obtain ⟨m, hm⟩ : ∃ m, (fi + q) % k = m := ⟨_, rfl⟩
          rw [hm] at htm hml HMM HSS
          have hmi : (m : Int) < (k : Int) := by omega
          have h0m : (0 : Int) ≤ (m : Int) := by omega
          obtain ⟨bo, oo, rfl, hbo, d0⟩ := Sl.at1 (Sl.below HO.out (by rw [HQB.out]; exact hs.out.bel)) (i := q) (by rw [HNO.out]; omega)
          obtain ⟨y, hy⟩ : ∃ y, getI o q = y := ⟨_, rfl⟩
          try dsimp only at d0
          rw [hy] at d0 HMM
          have hlen : m < (midM l o fi q).length := by rw [midM_len, HN.out]; exact hml
          have d1 := hs.out.cur.cell hlen
          have d2 := hs.out.cur.free m
          have HN1 := Lib.hid ((hs.out.setM hlen y).setS m false (s' := midS k fi (q + 1)) fun j _ => HSS.out j)
          rw [← HMM.out] at HN1
          have d3 : (wr.setCell ⟨gb, m, none⟩ (.int .i64 y)).cell? ⟨sb, m, none⟩ = some (.bool (midS k fi q m)) := by
            rw [(hs.out.setM hlen y).mark.cell, boolA_get _ _ _ hml]
          have d4 := (hs.out.setM hlen y).mark.free m
          clear hm hy hlen HMM
          go_wp2_with fail
          obtain ⟨w5, hw5⟩ : ∃ w5, (wr.setCell ⟨gb, m, none⟩ (.int .i64 y)).setCell ⟨sb, m, none⟩ (.bool false) = w5 := ⟨_, rfl⟩
          rw [hw5] at HN1
          try rw [hw5]
          clear hw5 d0 d1 d2 d3 d4 c0
          go_roundw
          case rel => exact ⟨q + 1, by omega, by go_num, HN1⟩
          case measure => simp [intOf]; omega
        · obtain rfl : q = F := by omega
          have HML : Hid ((midM l o fi q).length = k) := Lib.hid (by rw [midM_len, HN.out])
          obtain ⟨M, hM⟩ : ∃ M, midM l o fi q = M := ⟨_, rfl⟩
          have HMQ := Lib.hid hM
          rw [hM] at hs HML
          have HM3 := Lib.hid (mid_any wr (some ⟨gb, 0, none⟩) c3 M q (hs.out.cur.ints (by rw [HML.out]; omega)))
          have HMP3 := Lib.hid (midpB_ok (l := M) (f := q))
          rw [HML.out] at HM3 HMP3
          obtain ⟨cc, hcc⟩ : ∃ cc, (midpB M q).1 = cc := ⟨_, rfl⟩
          obtain ⟨e3, he3⟩ : ∃ e3, (midpB M q).2 = e3 := ⟨_, rfl⟩
          rw [hcc, he3] at HM3 HMP3
          have HBR : Hid (Below qb w wr) := Lib.hid hs.out.bel
          clear hM hcc he3
          go_wp2_with fail
          refine HM3.out.mono ?_
          rintro e w5 ⟨rfl, hb5⟩
          have HB5 := Lib.hid (HTR.out _ _ HBR.out hb5)
          have HM5 := Lib.hid (hs.out.below hb5)
          clear hb5 hs
          by_cases he : e3 = 0
          case neg =>
            go_wp2_with fail
            refine (awake_any _).mono ?_
            rintro e w6 ⟨rfl, hb6⟩
            go_wp2_with fail
            go_ret
            exact HFIN.out _ _ rfl (HTR.out _ _ HB5.out hb6)
          subst he
          obtain ⟨_, _, hcm, _, _, hrm⟩ := HMP3.out rfl
          rw [Int.toNat_natCast] at hcm
          have HCB : Hid (-1073741825 ≤ cc ∧ cc ≤ 1073741824) := Lib.hid (by
            rw [hcm]
            exact midB_bd (by rw [HML.out]; exact hrm) (by rw [HML.out]; omega))
          have HLAW := Lib.hid (mids_law (l := l) (o := o) (first := fi) (f := q) (by rw [HN.out]; omega) (c := cc) (by rw [hcm, HMQ.out]))
          rw [← HA.out, HN.out] at HLAW
          have HLB := Lib.hid (low_bd (l := l) (s := midS k fi q) (by rw [HN.out]; exact HRNG.out))
          rw [HN.out] at HLB
          clear hcm hrm
          go_wp2_with fail
          go_loopw [19, 20, 21] (fun lo hi i w6 => ∃ j : Nat, j ≤ k ∧ i = .int .i64 j ∧ lo = .int .i64 (lowK l (midS k fi q) j) ∧ hi = .int .i64 (highK l (midS k fi q) j) ∧ w6 = w5) (fun _ _ i _ => k - (intOf i).toNat)
          case atStart => exact ⟨0, Nat.zero_le _, rfl, rfl, rfl, rfl⟩
          case round =>
            obtain ⟨j, hj, rfl, rfl, rfl, rfl⟩ := hrel
            have HLS : Hid (lowK l (midS k fi q) (j + 1) = if midS k fi q j then min (lowK l (midS k fi q) j) (getI l j) else lowK l (midS k fi q) j) := Lib.hid rfl
            have HHS : Hid (highK l (midS k fi q) (j + 1) = if midS k fi q j then max (highK l (midS k fi q) j) (getI l j) else highK l (midS k fi q) j) := Lib.hid rfl
            have hbd := HLB.out j hj
            obtain ⟨lo, hlo⟩ : ∃ lo, lowK l (midS k fi q) j = lo := ⟨_, rfl⟩
            obtain ⟨hi, hhi⟩ : ∃ hi, highK l (midS k fi q) j = hi := ⟨_, rfl⟩
            rw [hlo] at HLS hbd ⊢
            rw [hhi] at HHS hbd ⊢
            by_cases hjk : j < k
            · have hji : (j : Int) < (k : Int) := by omega
              have h0j : (0 : Int) ≤ (j : Int) := by omega
              obtain ⟨x, hx⟩ : ∃ x, getI l j = x := ⟨_, rfl⟩
              obtain ⟨bl, ol, hel, _, d0⟩ := Sl.at1 (Sl.below HL.out (by rw [HQB.out]; exact HB5.out)) (i := j) (by rw [HN.out]; exact hjk)
              injection hel with hel
              subst hel
              try dsimp only at d0
              rw [hx] at d0 HLS HHS
              have d1 : wr.cell? ⟨sb, j, none⟩ = some (.bool (midS k fi q j)) := by rw [HM5.out.mark.cell, boolA_get _ _ _ hjk]
              obtain ⟨s, hs⟩ : ∃ s, midS k fi q j = s := ⟨_, rfl⟩
              rw [hs] at d1 HLS HHS
              clear hlo hhi hx hs
              cases s with
              | false =>
                go_wp2_with fail
                go_roundw
                case rel => exact ⟨j + 1, by omega, by go_num, by rw [HLS.out]; rfl, by rw [HHS.out]; rfl, trivial⟩
                case measure => simp [intOf]; omega
              | true =>
                go_wp2_with fail
                go_roundw
                case rel => exact ⟨j + 1, by omega, by go_num, by rw [HLS.out]; rfl, by rw [HHS.out]; rfl, trivial⟩
                case measure => simp [intOf]; omega
            · obtain rfl : j = k := by omega
              have hlaw := HLAW.out
              have hcb := HCB.out
              rw [hlo, hhi] at hlaw
              have hmx : 2 * max (a - cc) (cc - a) ≤ hi - lo + 2 := by omega
              have hmb : 0 ≤ max (a - cc) (cc - a) ∧ max (a - cc) (cc - a) ≤ 3000000000 := by omega
              obtain ⟨mx, hmxe⟩ : ∃ mx, max (a - cc) (cc - a) = mx := ⟨_, rfl⟩
              rw [hmxe] at hmx hmb
              clear hlo hhi hlaw
              go_wp2_with fail
              refine (awake_any _).mono ?_
              rintro e w6 ⟨rfl, hb6⟩
              go_wp2_with fail
              go_ret
              exact HFIN.out _ _ rfl (HTR.out _ _ HB5.out hb6)
end Go.Proofs.Ytnmccbjdfdbgpaa
