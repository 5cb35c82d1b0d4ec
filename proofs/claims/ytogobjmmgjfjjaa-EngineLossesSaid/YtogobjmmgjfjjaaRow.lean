/- What is proved: laws for a load, a store and a result of several cells, at a block that is known whole. Conditions: those that each law states. -/
import Derived.Test.YtogobjmmgjfjjaaLib
namespace Go.Proofs.Ytogobjmmgjfjjaa
open Go.RowKit

/-- Block g is just the cells cs, of type t, none frozen. -/
def Bk (w : World) (g : Nat) (t : TypeId) (cs : Array Value) : Prop := w.heap[g]? = some (.cells cs t (0, 0))

section
variable {w w' : World} {g : Nat} {t : TypeId} {cs : Array Value}
theorem Bk.lt (h : Bk w g t cs) : g < w.heap.size := by
  rcases Nat.lt_or_ge g w.heap.size with h1 | h1
  · exact h1
  · unfold Bk at h; rw [Array.getElem?_eq_none h1] at h; cases h
theorem Bk.cell (h : Bk w g t cs) (i : Nat) : w.cell? ⟨g, i, none⟩ = cs[i]? := cell_of_row w g i cs t (0, 0) h
theorem Bk.free (h : Bk w g t cs) (i : Nat) : w.frozen? ⟨g, i, none⟩ = false := by unfold Bk at h; simp [World.frozen?, h]
theorem Bk.new (w : World) (t : TypeId) (cs : Array Value) : Bk (w.alloc (.cells cs t)) w.heap.size t cs := heap_alloc_new w _
theorem Bk.newAt (w : World) (t : TypeId) (cs : Array Value) (n : Nat) (hn : n = w.heap.size) : Bk (w.alloc (.cells cs t)) n t cs := by subst hn; exact Bk.new w t cs
theorem Bk.alloc (h : Bk w g t cs) (o : Obj) : Bk (w.alloc o) g t cs := (Below.heap_alloc w o g h.lt).trans h
theorem Bk.set (h : Bk w g t cs) (i : Nat) (u : Value) : Bk (w.setCell ⟨g, i, none⟩ u) g t (cs.setIfInBounds i u) := by
  unfold Bk at h ⊢
  simp [World.setCell, Array.getElem?_modify, h]
theorem Bk.far (h : Bk w g t cs) {p : Addr} (hp : g ≠ p.block) (u : Value) : Bk (w.setCell p u) g t cs := (Below.heap_setCell w p u g hp).trans h
theorem Bk.below {B : Nat} (h : Bk w g t cs) (hb : Below B w w') (hg : g < B) : Bk w' g t cs := (hb.block g hg).trans h
theorem Bk.drewN (h : Bk w g t cs) (n : Nat) : Bk (w.drewN n) g t cs := h
end

/-- cs with S written over it from place o on. -/
def splA (cs : Array Value) (o : Nat) : List Value → Array Value
  | [] => cs
  | u :: S => splA (cs.setIfInBounds o u) (o + 1) S
theorem splA_size (S : List Value) : ∀ (cs : Array Value) (o : Nat), (splA cs o S).size = cs.size := by
  induction S with
  | nil => intro cs o; rfl
  | cons u S ih => intro cs o; simp [splA, ih]
theorem splA_get (S : List Value) : ∀ (cs : Array Value) (o i : Nat), o + S.length ≤ cs.size → (splA cs o S)[i]? = if o ≤ i ∧ i < o + S.length then S[i - o]? else cs[i]? := by
  induction S with
  | nil => intro cs o i _; simp [splA]; intro h1 h2; omega
  | cons u S ih =>
    intro cs o i h
    simp only [List.length_cons] at h
    rw [splA, ih _ _ _ (by simp; omega)]
    simp only [List.length_cons, Array.getElem?_setIfInBounds]
    by_cases h1 : o + 1 ≤ i ∧ i < o + 1 + S.length
    · rw [if_pos h1, if_pos (by omega), show i - o = (i - (o + 1)) + 1 from by omega, List.getElem?_cons_succ]
    · rw [if_neg h1]
      by_cases h2 : i = o
      · subst h2; rw [if_pos rfl, if_pos (by omega), if_pos (by omega)]; simp
      · rw [if_neg (by omega), if_neg (by omega)]

/-- w' is w but that block g has turned. -/
structure Only (g : Nat) (w w' : World) : Prop where
  os : w'.os = w.os
  tape : w'.tape = w.tape
  output : w'.output = w.output
  size : w'.heap.size = w.heap.size
  block : ∀ k, k ≠ g → w'.heap[k]? = w.heap[k]?
theorem Only.refl (g : Nat) (w : World) : Only g w w := ⟨rfl, rfl, rfl, rfl, fun _ _ => rfl⟩
theorem Only.trans {g : Nat} {a b c : World} (h : Only g a b) (k : Only g b c) : Only g a c :=
  ⟨k.os.trans h.os, k.tape.trans h.tape, k.output.trans h.output, k.size.trans h.size, fun i hi => (k.block i hi).trans (h.block i hi)⟩
theorem Only.setCell (w : World) (g i : Nat) (u : Value) : Only g w (w.setCell ⟨g, i, none⟩ u) := ⟨rfl, rfl, rfl, by simp, fun k hk => Below.heap_setCell w _ u k hk⟩
theorem Only.below {g B : Nat} {w w' : World} (h : Only g w w') (hB : B ≤ g) : Below B w w' := ⟨h.os, h.tape, h.output, by rw [h.size]; exact Nat.le_refl _, fun k hk => h.block k (by omega)⟩
theorem Bk.only {w w' : World} {g g' : Nat} {t : TypeId} {cs : Array Value} (h : Bk w g t cs) (ho : Only g' w w') (hne : g ≠ g') : Bk w' g t cs := (ho.block g hne).trans h

section
variable {P : Program}
theorem run_storeCells_row (t : TypeId) (g : Nat) : ∀ (S : List Value) (w : World) (cs : Array Value) (o i : Nat), Bk w g t cs → o + i + S.length ≤ cs.size → (∀ u ∈ S, u.oneCell' = true) →
    ∃ w', (storeCells ⟨g, o, none⟩ S i).run P w = .ok () w' ∧ Bk w' g t (splA cs (o + i) S) ∧ Only g w w'
  | [], w, cs, o, i, h, _, _ => ⟨w, by simp [storeCells], h, Only.refl g w⟩
  | u :: S, w, cs, o, i, h, hl, h1 => by
    simp only [List.length_cons] at hl
    have hc : (w.cell? ⟨g, o + i, none⟩).isSome = true := by rw [h.cell]; simp; omega
    have hst : (store ⟨g, o + i, none⟩ u).run P w = .ok () (w.setCell ⟨g, o + i, none⟩ u) := by
      have hu := h1 u (List.mem_cons_self ..)
      obtain ⟨x, hx⟩ := Option.isSome_iff_exists.1 hc
      have hf := h.free (o + i)
      unfold store
      cases u <;> simp_all [Sem.run, Value.oneCell']
    obtain ⟨w', r1, r2, r3⟩ := run_storeCells_row t g S (w.setCell ⟨g, o + i, none⟩ u) (cs.setIfInBounds (o + i) u) o (i + 1) (h.set _ _) (by simp; omega) (fun x hx => h1 x (List.mem_cons_of_mem _ hx))
    refine ⟨w', ?_, ?_, (Only.setCell w g (o + i) u).trans r3⟩
    · simp only [storeCells, Sem.run_bind, Addr.add_lit, hst, Result.andThen_ok]
      exact r1
    · rw [splA]; exact r2

theorem run_loadVar_at (w : World) (g o : Nat) (ty : TypeId) (S : Array Value) (d : TypeDesc) (hc : ∀ j u, S[j]? = some u → w.cell? ⟨g, o + j, none⟩ = some u)
    (hu : P.underlying ty = some d) (hd : (match d with | .struct _ | .array _ _ => true | _ => false) = true) (hi : (P.info? ty).map (·.size) = some S.size) :
    (loadVar ty ⟨g, o, none⟩).run P w = .ok (.agg S) w := by
  have hl : (loadCells ⟨g, o, none⟩ S.toList.length).run P w = .ok S.toList.toArray w :=
    run_loadCells_list (P := P) w ⟨g, o, none⟩ S.toList (fun j v hv => by
      rw [Addr.add_lit]
      exact hc j v (by simpa using hv))
  cases hq : P.info? ty with
  | none => simp [hq] at hi
  | some i =>
    have hs : i.size = S.size := by simpa [hq] using hi
    have hagg : (isAgg ty).run P w = .ok true w := by
      unfold isAgg
      rw [Sem.run_bind, run_underlying hu w]
      cases d <;> simp_all
    simp only [Array.length_toList, Array.toArray_toList] at hl
    simp [loadVar, Sem.run_bind, hagg, sizeOf, typeInfo, hq, hs, hl]

theorem run_storeVar_at (w : World) (g o : Nat) (t ty : TypeId) (cs S : Array Value) (h : Bk w g t cs) (hl : o + S.size ≤ cs.size) (h1 : ∀ u ∈ S.toList, u.oneCell' = true) (hi : (P.info? ty).map (·.size) = some S.size) :
    ∃ w', (storeVar ty ⟨g, o, none⟩ (.agg S)).run P w = .ok () w' ∧ Bk w' g t (splA cs o S.toList) ∧ Only g w w' := by
  obtain ⟨w', r1, r2, r3⟩ := run_storeCells_row (P := P) t g S.toList w cs o 0 h (by simpa using hl) h1
  refine ⟨w', ?_, by simpa using r2, r3⟩
  cases hq : P.info? ty with
  | none => simp [hq] at hi
  | some i =>
    have hs : i.size = S.size := by simpa [hq] using hi
    simp [storeVar, Sem.run_bind, Value.cells, sizeOf, typeInfo, hq, hs, r1]

/-- A load of several cells. -/
theorem wpLoadAt {ops : Array Oper} {rest : List Oper} {o : Oper} {a : Act} {w : World} {Q : Exit → Act → World → Prop} (hgd : o.guard = none) (ty : TypeId) (x : Operand) (ho : o.op = .load ty x)
    (g off : Nat) (hx : a.eval x = .pointer (some ⟨g, off, none⟩)) (S : Array Value) (d : TypeDesc) (hc : ∀ j u, S[j]? = some u → w.cell? ⟨g, off + j, none⟩ = some u)
    (hu : P.underlying ty = some d) (hd : (match d with | .struct _ | .array _ _ => true | _ => false) = true) (hi : (P.info? ty).map (·.size) = some S.size)
    (h : wpList P ops Q rest (a.put o.dst (.agg S)) w) : wpList P ops Q (o :: rest) a w :=
  wpList_plain hgd fun _ hK => by
    unfold Oper.wp execOp
    simp only [ho, hx, Instr.loadAt, Instr.sureAddr, Sem.run_bind, Sem.run_pure, Result.andThen_ok, run_loadVar_at w g off ty S d hc hu hd hi]
    exact hK _ _ h

/-- A store of several cells into a block that is known whole. -/
theorem wpStoreAt {ops : Array Oper} {rest : List Oper} {o : Oper} {a : Act} {w : World} {Q : Exit → Act → World → Prop} (hgd : o.guard = none) (hdst : o.dst = none) (ty : TypeId) (x y : Operand) (ho : o.op = .store ty x y)
    (g off : Nat) (hx : a.eval x = .pointer (some ⟨g, off, none⟩)) (S : Array Value) (hy : a.eval y = .agg S) (t : TypeId) (cs : Array Value) (hb : Bk w g t cs)
    (hl : off + S.size ≤ cs.size) (h1 : ∀ u ∈ S.toList, u.oneCell' = true) (hi : (P.info? ty).map (·.size) = some S.size)
    (h : ∀ w', Bk w' g t (splA cs off S.toList) → Only g w w' → wpList P ops Q rest a w') : wpList P ops Q (o :: rest) a w :=
  wpList_plain hgd fun _ hK => by
    obtain ⟨w', r1, r2, r3⟩ := run_storeVar_at (P := P) w g off t ty cs S hb hl h1 hi
    unfold Oper.wp execOp
    simp only [ho, hx, hy, Instr.storeAt, Instr.sureAddr, Sem.run_bind, Sem.run_pure, Result.andThen_ok, r1]
    have := hK _ _ (h w' r2 r3)
    simpa [Oper.upon, hdst, Act.put] using this

theorem results_cellS {fn : Func} {p : Tmp} {ty : TypeId} (h : fn.results = #[.cell p ty]) (tmps : Array Value) (w : World) (g : Nat) (t : TypeId) (cs : Array Value) (d : TypeDesc)
    (hp : tmps.getD p undef = .pointer (some ⟨g, 0, none⟩)) (hg : Bk w g t cs)
    (hu : P.underlying ty = some d) (hd : (match d with | .struct _ | .array _ _ => true | _ => false) = true) (hi : (P.info? ty).map (·.size) = some cs.size) :
    (results fn tmps).run P w = .ok (.agg cs) w := results_cell_row h tmps w g t cs (0, 0) d hp hg hu hd hi
theorem results_cellS_tmp {fn : Func} {p u : Tmp} {ty : TypeId} (h : fn.results = #[.cell p ty, .tmp u]) (tmps : Array Value) (w : World) (g : Nat) (t : TypeId) (cs : Array Value) (d : TypeDesc)
    (hp : tmps.getD p undef = .pointer (some ⟨g, 0, none⟩)) (hg : Bk w g t cs)
    (hu : P.underlying ty = some d) (hd : (match d with | .struct _ | .array _ _ => true | _ => false) = true) (hi : (P.info? ty).map (·.size) = some cs.size) :
    (results fn tmps).run P w = .ok (.tuple #[.agg cs, tmps.getD u undef]) w := by
  have hl := run_loadVar_at (P := P) w g 0 ty cs d (fun j v hj => by rw [Nat.zero_add, hg.cell]; exact hj) hu hd hi
  have hp' : tmps[p]?.getD undef = .pointer (some ⟨g, 0, none⟩) := by simpa using hp
  simp [results, h, hp', asAddr, hl]
end
end Go.Proofs.Ytogobjmmgjfjjaa
