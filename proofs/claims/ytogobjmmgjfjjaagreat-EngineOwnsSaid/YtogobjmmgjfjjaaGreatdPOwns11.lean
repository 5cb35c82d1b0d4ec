/- What is proved: the texts Z1 Z2, one behind the other; each says at its head what it proves, and under which conditions. -/
import Derived.StillTailTactics
import Derived.BigQuiet
import Derived.Outline
import Derived.Deep.CutBlock
import Derived.Deep.DeepCutAuto
import Derived.Test.YtogobjmmgjfjjaaGreatdPOwns10
/- What is proved: how a plant lies in memory while a law builds a copy of it by append, and while the law then turns the copy's cells. Conditions: those that each lemma states. -/
namespace Go.Proofs.YtogobjmmgjfjjaaGreat
open Go.RowKit

/-! append([]T{}, xs...) of a list that is not empty. -/
section
variable {P : Program}
theorem run_copy (w : World) (t e : TypeId) (i : TypeInfo) (z : Value) (ht : P.underlying t = some (.slice e)) (hi : P.info? e = some i) (hz : i.zero = some z) (k : Nat) (hk : i.size = k) (hby : i.bytes ≤ 1024)
    (b : Addr) (A : Option Addr) (n c : Nat) (f : Nat → Nat → Value) (h : Sl w w.heap.size k A n f) (h0 : 0 < n) (hn : n ≤ 4096) (ty : TypeId) :
    ∃ A' c' w', (Builtin.append_ #[t, t] ty #[.slice (some b) 0 0, .slice A n c]).run P w = .ok (.slice A' n c') w' ∧ Cl w' w.heap.size e k A' n f ∧ Below w.heap.size w w' := by
  obtain ⟨bb, off, rfl, hB, hc⟩ := h.2 h0
  subst hk
  have hb2 : n * i.bytes ≤ 4096 * 1024 := Nat.mul_le_mul hn hby
  have hr := run_append_grow (P := P) (w := w) t ty e i z ht hi hz b 0 0 [] (by simp) (by intro j v hj; simp at hj) ⟨bb, off, none⟩ n c (rowsL n i.size f) (rowsL_len _ _ _) (fun j v hj => by rw [Addr.add_lit]; exact rowsL_cell hc j v hj) (by omega) (by omega)
    (by rw [Nat.zero_add, nextslicecap_zero h0]; omega)
  rw [Nat.zero_add] at hr
  refine ⟨_, _, _, hr, ⟨hn, fun _ => ⟨w.heap.size, _, rfl, Nat.le_refl _, Bk.newAt _ _ _ _ (by simp), fun i' hi' j hj => ?_⟩⟩, ((Below.refl _ w).drew).alloc (by simp) _⟩
  have h1 := rowsL_get n i.size f i' j hi' hj
  have h2 := (List.getElem?_eq_some_iff.1 h1).1
  rw [Array.getElem?_append, if_pos (by simpa using h2), Array.getElem?_append]
  simp [h1]
theorem wpo_copy {o : Oper} {a : Act} {w : World} {K : Act → World → Prop} {Q : Exit → Act → World → Prop} (t : TypeId) (s x : Operand) (ho : o.op = .call { callee := .builtin .append, args := #[s, x], argTypes := #[t, t] })
    (e : TypeId) (i : TypeInfo) (z : Value) (ht : P.underlying t = some (.slice e)) (hi : P.info? e = some i) (hz : i.zero = some z) (k : Nat) (hk : i.size = k) (hby : i.bytes ≤ 1024)
    (b : Addr) (hs : a.eval s = .slice (some b) 0 0) (A : Option Addr) (n c : Nat) (hx : a.eval x = .slice A n c) (f : Nat → Nat → Value) (h : Sl w w.heap.size k A n f) (h0 : 0 < n) (hn : n ≤ 4096)
    (hK : ∀ A' c' w', Cl w' w.heap.size e k A' n f → Below w.heap.size w w' → K (a.put o.dst (.slice A' n c')) w') : o.wp P a w K Q := by
  obtain ⟨A', c', w', hr, h1, h2⟩ := run_copy (P := P) w t e i z ht hi hz k hk hby b A n c f h h0 hn o.type
  unfold Oper.wp execOp
  simp only [ho, resolve, invoke, builtin, Sem.run_bind, Sem.run_pure, Result.andThen_ok, List.map_toArray, List.map_cons, List.map_nil, hs, hx, hr]
  exact hK A' c' w' h1 h2
theorem wpList_copy1 {ops : Array Oper} {rest : List Oper} {o : Oper} {a : Act} {w : World} {Q : Exit → Act → World → Prop} (hgd : o.guard = none) (t : TypeId) (s x : Operand) (ho : o.op = .call { callee := .builtin .append, args := #[s, x], argTypes := #[t, t] })
    (e : TypeId) (i : TypeInfo) (z : Value) (ht : P.underlying t = some (.slice e)) (hi : P.info? e = some i) (hz : i.zero = some z) (k : Nat) (hk : i.size = k) (hby : i.bytes ≤ 1024)
    (b : Addr) (hs : a.eval s = .slice (some b) 0 0) (A : Option Addr) (n c : Nat) (hx : a.eval x = .slice A n c) (f : Nat → Nat → Value) (h : Sl w w.heap.size k A n f) (h0 : 0 < n) (hn : n ≤ 4096)
    (hK : ∀ A' c' w', Cl w' w.heap.size e k A' n f → Below w.heap.size w w' → wpList P ops Q rest (a.put o.dst (.slice A' n c')) w') : wpList P ops Q (o :: rest) a w :=
  wpList_plain hgd fun _ hK' => wpo_copy t s x ho e i z ht hi hz k hk hby b hs A n c hx f h h0 hn fun A' c' w' h1 h2 => hK' _ _ (hK A' c' w' h1 h2)
end

/-! Only blocks of one type have turned. -/
def KT (t : TypeId) (w w' : World) : Prop := w.heap.size ≤ w'.heap.size ∧ ∀ b t' cs, t' ≠ t → Bk w b t' cs → Bk w' b t' cs
theorem KT.below {t : TypeId} {w w' : World} (h : Below w.heap.size w w') : KT t w w' := ⟨h.size, fun _ _ _ _ hb => hb.below h hb.lt⟩
theorem KT.only {t : TypeId} {w w' : World} {g : Nat} {cs : Array Value} (h : Only g w w') (hg : Bk w g t cs) : KT t w w' := ⟨by rw [h.size]; exact Nat.le_refl _, fun b t' cs' ht hb => hb.only h (hb.ne hg ht)⟩
theorem KT.grown {t : TypeId} {w w' : World} {B k n : Nat} {v : Value} {xs : List Value} (h : w.ownsRow B t k v n xs) (hg : w.grownBy w' v.ownBlock) : KT t w w' := by
  refine ⟨hg.size, fun b t' cs ht hb => ?_⟩
  have hne : some b ≠ v.ownBlock := by
    rcases h.2 with ⟨rfl, _⟩ | ⟨g, cap, cur, rfl, _, h3, _⟩
    · simp [Value.ownBlock]
    · intro e
      have e2 : b = g := by simpa [Value.ownBlock] using e
      subst e2
      have h4 := hb.symm.trans h3
      simp only [Option.some.injEq, Obj.cells.injEq] at h4
      exact ht h4.2.1
  exact (hg.block b hb.lt hne).trans hb
theorem Cl.kt {t T : TypeId} {w w' : World} {B k n : Nat} {A : Option Addr} {f : Nat → Nat → Value} (h : Cl w B T k A n f) (hk : KT t w w') (hne : T ≠ t) : Cl w' B T k A n f :=
  ⟨h.1, fun hn => by obtain ⟨g, cur, e, h1, h2, h3⟩ := h.2 hn; exact ⟨g, cur, e, h1, hk.2 _ _ _ hne h2, h3⟩⟩
theorem ownsKt {t T : TypeId} {w w' : World} {B k n : Nat} {v : Value} {xs : List Value} (h : w.ownsRow B T k v n xs) (hk : KT t w w') (hne : T ≠ t) : w'.ownsRow B T k v n xs := by
  refine ⟨h.1, ?_⟩
  rcases h.2 with h1 | ⟨g, cap, cur, e, h2, h3, h4, h5, h6, h7⟩
  · exact Or.inl h1
  · exact Or.inr ⟨g, cap, cur, e, h2, hk.2 _ _ _ hne h3, h4, h5, h6, h7⟩
theorem rowsL_succ (n k : Nat) (hk : 0 < k) (F : Nat → Nat → Value) : rowsL (n + 1) k F = rowsL n k F ++ (List.range k).map (F n) := by
  unfold rowsL
  rw [Nat.add_mul, Nat.one_mul, List.range_add, List.map_append, List.map_map]
  congr 1
  apply List.map_congr_left
  intro j hj
  have hj' := List.mem_range.1 hj
  simp only [Function.comp_apply]
  rw [Nat.mul_comm n k, Nat.mul_add_div hk, Nat.div_eq_of_lt hj', Nat.mul_add_mod, Nat.mod_eq_of_lt hj', Nat.add_zero]
theorem rowsL_congr (n k : Nat) (hk : 0 < k) {F G : Nat → Nat → Value} (h : ∀ i, i < n → ∀ j, j < k → F i j = G i j) : rowsL n k F = rowsL n k G := by
  unfold rowsL
  apply List.map_congr_left
  intro m hm
  have hm' := List.mem_range.1 hm
  exact h _ ((Nat.div_lt_iff_lt_mul hk).2 hm') _ (Nat.mod_lt _ hk)

/-! The copy while it is built. -/
structure CopyQ (wr : World) (B : Nat) (p : PlantD) (qb : Nat) (tA vA : Option Addr) (tc vc : Nat) (iA : Nat → Option Addr) (ic : Nat → Nat) (jA : Nat → Option Addr) (jc : Nat → Nat) (lv nv : Value) (ln nn : Nat) : Prop where
  box : Bk wr qb 27 #[.slice tA p.tanks.length tc, .slice vA p.valves.length vc, lv, nv]
  tanks : Cl wr B 72 4 tA p.tanks.length fun i => tankC (p.tank i)
  valves : Cl wr B 78 3 vA p.valves.length fun i => valveC (p.valve i)
  lines : wr.ownsRow B 76 5 lv ln (rowsL ln 5 fun i => lineC (iA i) (ic i) (p.line i))
  lval : ∀ i, i < ln → Cl wr B 3 1 (iA i) (p.line i).valves.length fun k _ => .int .i64 ((p.line i).valves.getD k 0)
  never : wr.ownsRow B 28 1 nv nn (rowsL nn 1 fun i _ => .slice (jA i) (p.nev i).length (jc i))
  nval : ∀ i, i < nn → Cl wr B 79 2 (jA i) (p.nev i).length fun k => litC ((p.nev i).getD k lit0)
  qlt : B ≤ qb
section
variable {wr w1 w2 : World} {B qb ln nn : Nat} {p : PlantD} {tA vA : Option Addr} {tc vc : Nat} {iA jA : Nat → Option Addr} {ic jc : Nat → Nat} {lv nv : Value}
theorem CopyQ.later (h : CopyQ wr B p qb tA vA tc vc iA ic jA jc lv nv ln nn) (hb : Below wr.heap.size wr w1) : CopyQ w1 B p qb tA vA tc vc iA ic jA jc lv nv ln nn :=
  ⟨h.box.below hb h.box.lt, h.tanks.below hb, h.valves.below hb, World.ownsRow.of_below h.lines hb, fun i hi => (h.lval i hi).below hb, World.ownsRow.of_below h.never hb, fun i hi => (h.nval i hi).below hb, h.qlt⟩
def updA (f : Nat → Option Addr) (i : Nat) (A : Option Addr) : Nat → Option Addr := fun j => if j = i then A else f j
def updC (f : Nat → Nat) (i : Nat) (c : Nat) : Nat → Nat := fun j => if j = i then c else f j
theorem CopyQ.line (h : CopyQ w1 B p qb tA vA tc vc iA ic jA jc lv nv ln nn) {A : Option Addr} {c : Nat} (hA : Cl w1 B 3 1 A (p.line ln).valves.length fun k _ => .int .i64 ((p.line ln).valves.getD k 0)) {v' : Value} {news : List Value}
    (hnews : news = (List.range 5).map (lineC A c (p.line ln))) (hown : w2.ownsRow B 76 5 v' (ln + 1) (rowsL ln 5 (fun i => lineC (iA i) (ic i) (p.line i)) ++ news)) (hg : w1.grownBy w2 lv.ownBlock) (hB : B ≤ w1.heap.size) :
    CopyQ (w2.setCell ⟨qb, 2, none⟩ v') B p qb tA vA tc vc (updA iA ln A) (updC ic ln c) jA jc v' nv (ln + 1) nn ∧ Below B w1 (w2.setCell ⟨qb, 2, none⟩ v') := by
  have k1 : KT 76 w1 w2 := KT.grown h.lines hg
  have hb2 : Bk w2 qb 27 _ := k1.2 _ _ _ (by decide) h.box
  have ho := Only.setCell w2 qb 2 v'
  have k2 : KT 27 w2 (w2.setCell ⟨qb, 2, none⟩ v') := KT.only ho hb2
  refine ⟨⟨hb2.set 2 v', (h.tanks.kt k1 (by decide)).kt k2 (by decide), (h.valves.kt k1 (by decide)).kt k2 (by decide), ?_, fun i hi => ?_, ownsKt (ownsKt h.never k1 (by decide)) k2 (by decide), fun i hi => ((h.nval i hi).kt k1 (by decide)).kt k2 (by decide), h.qlt⟩, ?_⟩
  · have e : rowsL (ln + 1) 5 (fun i => lineC (updA iA ln A i) (updC ic ln c i) (p.line i)) = rowsL ln 5 (fun i => lineC (iA i) (ic i) (p.line i)) ++ news := by
      rw [rowsL_succ ln 5 (by omega), hnews]
      congr 1
      · refine rowsL_congr ln 5 (by omega) fun i hi j _ => ?_
        unfold updA updC
        rw [if_neg (by omega), if_neg (by omega)]
      · show (List.range 5).map (lineC (updA iA ln A ln) (updC ic ln c ln) (p.line ln)) = _
        unfold updA updC
        rw [if_pos rfl, if_pos rfl]
    rw [e]
    exact ownsKt hown k2 (by decide)
  · by_cases e : i = ln
    · subst e
      have := (hA.kt k1 (by decide)).kt k2 (by decide)
      unfold updA; rw [if_pos rfl]; exact this
    · unfold updA; rw [if_neg e]; exact ((h.lval i (by omega)).kt k1 (by decide)).kt k2 (by decide)
  · refine Below.trans ((Below.refl B w1).grown hg hB fun k hk => (h.lines.lt k hk).1) (ho.below h.qlt)
theorem CopyQ.nev (h : CopyQ w1 B p qb tA vA tc vc iA ic jA jc lv nv ln nn) {A : Option Addr} {c : Nat} (hA : Cl w1 B 79 2 A (p.nev nn).length fun k => litC ((p.nev nn).getD k lit0)) {v' : Value} {news : List Value}
    (hnews : news = [.slice A (p.nev nn).length c]) (hown : w2.ownsRow B 28 1 v' (nn + 1) (rowsL nn 1 (fun i _ => .slice (jA i) (p.nev i).length (jc i)) ++ news)) (hg : w1.grownBy w2 nv.ownBlock) (hB : B ≤ w1.heap.size) :
    CopyQ (w2.setCell ⟨qb, 3, none⟩ v') B p qb tA vA tc vc iA ic (updA jA nn A) (updC jc nn c) lv v' ln (nn + 1) ∧ Below B w1 (w2.setCell ⟨qb, 3, none⟩ v') := by
  have k1 : KT 28 w1 w2 := KT.grown h.never hg
  have hb2 : Bk w2 qb 27 _ := k1.2 _ _ _ (by decide) h.box
  have ho := Only.setCell w2 qb 3 v'
  have k2 : KT 27 w2 (w2.setCell ⟨qb, 3, none⟩ v') := KT.only ho hb2
  refine ⟨⟨hb2.set 3 v', (h.tanks.kt k1 (by decide)).kt k2 (by decide), (h.valves.kt k1 (by decide)).kt k2 (by decide), ownsKt (ownsKt h.lines k1 (by decide)) k2 (by decide), fun i hi => ((h.lval i hi).kt k1 (by decide)).kt k2 (by decide), ?_, fun i hi => ?_, h.qlt⟩, ?_⟩
  · have e : rowsL (nn + 1) 1 (fun i _ => .slice (updA jA nn A i) (p.nev i).length (updC jc nn c i)) = rowsL nn 1 (fun i _ => .slice (jA i) (p.nev i).length (jc i)) ++ news := by
      rw [rowsL_succ nn 1 (by omega), hnews]
      congr 1
      · refine rowsL_congr nn 1 (by omega) fun i hi j _ => ?_
        unfold updA updC
        rw [if_neg (by omega), if_neg (by omega)]
      · show [Value.slice (updA jA nn A nn) (p.nev nn).length (updC jc nn c nn)] = _
        unfold updA updC
        rw [if_pos rfl, if_pos rfl]
    rw [e]
    exact ownsKt hown k2 (by decide)
  · by_cases e : i = nn
    · subst e
      have := (hA.kt k1 (by decide)).kt k2 (by decide)
      unfold updA; rw [if_pos rfl]; exact this
    · unfold updA; rw [if_neg e]; exact ((h.nval i (by omega)).kt k1 (by decide)).kt k2 (by decide)
  · refine Below.trans ((Below.refl B w1).grown hg hB fun k hk => (h.never.lt k hk).1) (ho.below h.qlt)
end

/-! The copy while its cells are turned. -/
def Blk (w : World) (B hi : Nat) (t : TypeId) (A : Option Addr) (P : Array Value → Prop) : Prop := ∃ g cur, A = some ⟨g, 0, none⟩ ∧ B ≤ g ∧ g < hi ∧ Bk w g t cur ∧ P cur
theorem Blk.ne {w w' : World} {B hi g : Nat} {t t0 : TypeId} {A : Option Addr} {P : Array Value → Prop} {cs : Array Value} (h : Blk w B hi t A P) (ho : Only g w w') (hg : Bk w g t0 cs) (hne : t ≠ t0) : Blk w' B hi t A P := by
  obtain ⟨g', cur, h1, h2, h3, h4, h5⟩ := h
  exact ⟨g', cur, h1, h2, h3, h4.only ho (h4.ne hg hne), h5⟩
theorem Blk.set {w : World} {B hi g j : Nat} {t : TypeId} {A : Option Addr} {P : Array Value → Prop} {v : Value} (h : Blk w B hi t A P) (hP : ∀ cur, P cur → P (cur.setIfInBounds j v)) : Blk (w.setCell ⟨g, j, none⟩ v) B hi t A P := by
  obtain ⟨g', cur, h1, h2, h3, h4, h5⟩ := h
  by_cases e : g' = g
  · subst e; exact ⟨g', _, h1, h2, h3, h4.set j v, hP _ h5⟩
  · exact ⟨g', cur, h1, h2, h3, h4.only (Only.setCell w g j v) e, h5⟩
structure TurnQ (wr : World) (B hi qb : Nat) (x : PV) (p : PlantD) : Prop where
  box : Bk wr qb 27 (plantA x p)
  tanks : Blk wr B hi 72 x.tA fun c => p.tanks.length * 4 ≤ c.size
  valves : Blk wr B hi 78 x.vA fun c => p.valves.length * 3 ≤ c.size
  lines : 0 < p.lines.length → Blk wr B hi 76 x.lA fun c => ∀ i, i < p.lines.length → c[i * 5 + 4]? = some (.slice (x.iA i) (p.line i).valves.length (x.ic i))
  lval : ∀ i, i < p.lines.length → Blk wr B hi 3 (x.iA i) fun c => 1 ≤ c.size
  never : 0 < p.never.length → Blk wr B hi 28 x.nA fun c => ∀ i, i < p.never.length → c[i]? = some (.slice (x.jA i) (p.nev i).length (x.jc i))
  nval : ∀ i, i < p.never.length → Blk wr B hi 79 (x.jA i) fun c => ∃ b : Bool, c[1]? = some (.bool b)
/-- Blocks from B up to hi alone have turned. -/
structure Mid (B hi : Nat) (w w' : World) : Prop where
  os : w'.os = w.os
  tape : w'.tape = w.tape
  output : w'.output = w.output
  size : w.heap.size = w'.heap.size
  block : ∀ b, b < B ∨ hi ≤ b → w'.heap[b]? = w.heap[b]?
theorem Mid.refl (B hi : Nat) (w : World) : Mid B hi w w := ⟨rfl, rfl, rfl, rfl, fun _ _ => rfl⟩
theorem Mid.set {B hi g j : Nat} {w w' : World} {v : Value} (h : Mid B hi w w') (h1 : B ≤ g) (h2 : g < hi) : Mid B hi w (w'.setCell ⟨g, j, none⟩ v) := by
  have ho := Only.setCell w' g j v
  exact ⟨ho.os.trans h.os, ho.tape.trans h.tape, ho.output.trans h.output, h.size.trans ho.size.symm, fun b hb => (ho.block b (by omega)).trans (h.block b hb)⟩
theorem Mid.drew {B hi : Nat} {w w' : World} (h : Mid B hi w w') : Mid B hi w w'.drew := ⟨h.os, h.tape, h.output, h.size, h.block⟩
theorem Mid.below {B hi : Nat} {w w' : World} (h : Mid B hi w w') : Below B w w' := ⟨h.os, h.tape, h.output, by rw [h.size]; exact Nat.le_refl _, fun b hb => h.block b (Or.inl hb)⟩
theorem Mid.sys {B hi : Nat} {w w' : World} {X : SX} {S : Sys} (h : Mid B hi w w') (hs : SysAt w X S) (hX : hi ≤ X.lo) : SysAt w' X S := hs.keep (fun b hb _ => h.block b (Or.inr (by omega))) (by rw [h.size]; exact Nat.le_refl _)
section
variable {wr : World} {B hi qb : Nat} {x : PV} {p : PlantD}
theorem TurnQ.drew (h : TurnQ wr B hi qb x p) : TurnQ wr.drew B hi qb x p := ⟨h.box, h.tanks, h.valves, h.lines, h.lval, h.never, h.nval⟩
theorem TurnQ.tank (h : TurnQ wr B hi qb x p) (j : Nat) (v : Value) : ∃ g, x.tA = some ⟨g, 0, none⟩ ∧ B ≤ g ∧ g < hi ∧ TurnQ (wr.setCell ⟨g, j, none⟩ v) B hi qb x p := by
  obtain ⟨g, cur, e, h1, h2, h3, h4⟩ := h.tanks
  have ho := Only.setCell wr g j v
  exact ⟨g, e, h1, h2, h.box.only ho (h.box.ne h3 (by decide)), h.tanks.set fun c hc => by simpa using hc, h.valves.ne ho h3 (by decide), fun h0 => (h.lines h0).ne ho h3 (by decide), fun i hi => (h.lval i hi).ne ho h3 (by decide), fun h0 => (h.never h0).ne ho h3 (by decide), fun i hi => (h.nval i hi).ne ho h3 (by decide)⟩
theorem TurnQ.valve (h : TurnQ wr B hi qb x p) (j : Nat) (v : Value) : ∃ g, x.vA = some ⟨g, 0, none⟩ ∧ B ≤ g ∧ g < hi ∧ TurnQ (wr.setCell ⟨g, j, none⟩ v) B hi qb x p := by
  obtain ⟨g, cur, e, h1, h2, h3, h4⟩ := h.valves
  have ho := Only.setCell wr g j v
  exact ⟨g, e, h1, h2, h.box.only ho (h.box.ne h3 (by decide)), h.tanks.ne ho h3 (by decide), h.valves.set fun c hc => by simpa using hc, fun h0 => (h.lines h0).ne ho h3 (by decide), fun i hi => (h.lval i hi).ne ho h3 (by decide), fun h0 => (h.never h0).ne ho h3 (by decide), fun i hi => (h.nval i hi).ne ho h3 (by decide)⟩
theorem TurnQ.line (h : TurnQ wr B hi qb x p) (h0 : 0 < p.lines.length) (i : Nat) (v : Value) : ∃ g, x.lA = some ⟨g, 0, none⟩ ∧ B ≤ g ∧ g < hi ∧ TurnQ (wr.setCell ⟨g, i * 5 + 2, none⟩ v) B hi qb x p := by
  obtain ⟨g, cur, e, h1, h2, h3, h4⟩ := h.lines h0
  have ho := Only.setCell wr g (i * 5 + 2) v
  refine ⟨g, e, h1, h2, h.box.only ho (h.box.ne h3 (by decide)), h.tanks.ne ho h3 (by decide), h.valves.ne ho h3 (by decide), fun h0 => (h.lines h0).set fun c hc k hk => ?_, fun i hi => (h.lval i hi).ne ho h3 (by decide), fun h0 => (h.never h0).ne ho h3 (by decide), fun i hi => (h.nval i hi).ne ho h3 (by decide)⟩
  rw [Array.getElem?_setIfInBounds, if_neg (by omega)]; exact hc k hk
theorem TurnQ.lv (h : TurnQ wr B hi qb x p) {i : Nat} (hi' : i < p.lines.length) (v : Value) : ∃ g, x.iA i = some ⟨g, 0, none⟩ ∧ B ≤ g ∧ g < hi ∧ TurnQ (wr.setCell ⟨g, 0, none⟩ v) B hi qb x p := by
  obtain ⟨g, cur, e, h1, h2, h3, h4⟩ := h.lval i hi'
  have ho := Only.setCell wr g 0 v
  exact ⟨g, e, h1, h2, h.box.only ho (h.box.ne h3 (by decide)), h.tanks.ne ho h3 (by decide), h.valves.ne ho h3 (by decide), fun h0 => (h.lines h0).ne ho h3 (by decide), fun i hi => (h.lval i hi).set fun c hc => by simpa using hc, fun h0 => (h.never h0).ne ho h3 (by decide), fun i hi => (h.nval i hi).ne ho h3 (by decide)⟩
theorem TurnQ.nlit (h : TurnQ wr B hi qb x p) {i : Nat} (hi' : i < p.never.length) (b : Bool) : ∃ g, x.jA i = some ⟨g, 0, none⟩ ∧ B ≤ g ∧ g < hi ∧ TurnQ (wr.setCell ⟨g, 1, none⟩ (.bool b)) B hi qb x p := by
  obtain ⟨g, cur, e, h1, h2, h3, h4⟩ := h.nval i hi'
  have ho := Only.setCell wr g 1 (.bool b)
  refine ⟨g, e, h1, h2, h.box.only ho (h.box.ne h3 (by decide)), h.tanks.ne ho h3 (by decide), h.valves.ne ho h3 (by decide), fun h0 => (h.lines h0).ne ho h3 (by decide), fun i hi => (h.lval i hi).ne ho h3 (by decide), fun h0 => (h.never h0).ne ho h3 (by decide), fun i hi => (h.nval i hi).set fun c hc => ?_⟩
  obtain ⟨b', hb'⟩ := hc
  exact ⟨b, by rw [Array.getElem?_setIfInBounds, if_pos rfl, if_pos (Array.getElem?_eq_some_iff.1 hb').1]⟩
end
theorem Cl.blk {w w' : World} {B hi k n : Nat} {t : TypeId} {A : Option Addr} {f : Nat → Nat → Value} {P : Array Value → Prop} (h : Cl w B t k A n f) (h0 : 0 < n) (hb : Below w.heap.size w w') (hh : w.heap.size ≤ hi) (hP : ∀ cur : Array Value, (∀ i, i < n → ∀ j, j < k → cur[i * k + j]? = some (f i j)) → P cur) : Blk w' B hi t A P := by
  obtain ⟨g, cur, e, h1, h2, h3⟩ := h.2 h0
  exact ⟨g, cur, e, h1, Nat.lt_of_lt_of_le h2.lt hh, h2.below hb h2.lt, hP cur h3⟩
theorem CopyQ.done {wr : World} {B qb ln nn : Nat} {p : PlantD} {tA vA lA nA : Option Addr} {tc vc lc nc : Nat} {iA jA : Nat → Option Addr} {ic jc : Nat → Nat} (h : CopyQ wr B p qb tA vA tc vc iA ic jA jc (.slice lA ln lc) (.slice nA nn nc) ln nn)
    (hl : p.lines.length = ln) (hn : p.never.length = nn) (h1 : 1 ≤ p.tanks.length) (h2 : 1 ≤ p.valves.length) (h3 : ∀ i, i < p.lines.length → 1 ≤ (p.line i).valves.length) (h4 : ∀ i, i < p.never.length → 1 ≤ (p.nev i).length) (h5 : ln ≤ 4096) (h6 : nn ≤ 4096) :
    PlantAt wr wr.heap.size ⟨tA, tc, vA, vc, lA, lc, nA, nc, iA, ic, jA, jc⟩ p ∧ ∀ w5 hi, Below wr.heap.size wr w5 → wr.heap.size ≤ hi → TurnQ w5 B hi qb ⟨tA, tc, vA, vc, lA, lc, nA, nc, iA, ic, jA, jc⟩ p := by
  subst hl
  subst hn
  obtain ⟨A1, c1, e1, hL⟩ := Cl.of_own h5 h.lines
  obtain ⟨A2, c2, e2, hN⟩ := Cl.of_own h6 h.never
  obtain ⟨rfl, _⟩ : lA = A1 ∧ lc = c1 := by simpa using e1
  obtain ⟨rfl, _⟩ : nA = A2 ∧ nc = c2 := by simpa using e2
  have ht := h.tanks.1
  have hv := h.valves.1
  refine ⟨⟨h.tanks.sl, h.valves.sl, hL.sl, fun i hi => (h.lval i hi).sl, hN.sl, fun i hi => (h.nval i hi).sl, by omega⟩, fun w5 hi hb hh => ⟨h.box.below hb h.box.lt, ?_, ?_, fun h0 => ?_, fun i hi' => ?_, fun h0 => ?_, fun i hi' => ?_⟩⟩
  · refine h.tanks.blk h1 hb hh fun cur hc => ?_
    have := (Array.getElem?_eq_some_iff.1 (hc (p.tanks.length - 1) (by omega) 3 (by omega))).1
    omega
  · refine h.valves.blk h2 hb hh fun cur hc => ?_
    have := (Array.getElem?_eq_some_iff.1 (hc (p.valves.length - 1) (by omega) 2 (by omega))).1
    omega
  · exact hL.blk h0 hb hh fun cur hc i hi => hc i hi 4 (by omega)
  · refine (h.lval i hi').blk (h3 i hi') hb hh fun cur hc => ?_
    have := (Array.getElem?_eq_some_iff.1 (hc 0 (h3 i hi') 0 (by omega))).1
    omega
  · exact hN.blk h0 hb hh fun cur hc i hi => by have := hc i hi 0 (by omega); simpa using this
  · exact (h.nval i hi').blk (h4 i hi') hb hh fun cur hc => ⟨((p.nev i).getD 0 lit0).opn, by have := hc 0 (h4 i hi') 1 (by omega); rw [Nat.zero_mul, Nat.zero_add] at this; exact this⟩
end Go.Proofs.YtogobjmmgjfjjaaGreat
/- What is proved: the law EngineOwns answers true. Conditions: the plant and the acts lie in memory. -/
-- IND38=32
namespace Go.Proofs.YtogobjmmgjfjjaaGreat
open Go.RowKit

/-! What is left by the operations of 'q := api.Plant{..}'. -/
def Own3 (B : Nat) (p : PlantD) (ix : Nat) (u : Value) (d : Nat → Value) (w1 : World) : Prop :=
  (ix = 0 ∨ ix = 4 → ∃ g, u = .slice (some ⟨g, 0, none⟩) 0 0) ∧
  (ix = 3 → ∃ A c, u = .slice A p.tanks.length c ∧ Cl w1 B 72 4 A p.tanks.length fun i => tankC (p.tank i)) ∧
  (ix = 7 → ∃ A c, u = .slice A p.valves.length c ∧ Cl w1 B 78 3 A p.valves.length fun i => valveC (p.valve i)) ∧
  (ix = 8 → ∃ A c A' c', u = .agg #[.slice A p.tanks.length c, .slice A' p.valves.length c', .slice none 0 0, .slice none 0 0] ∧ Cl w1 B 72 4 A p.tanks.length (fun i => tankC (p.tank i)) ∧ Cl w1 B 78 3 A' p.valves.length fun i => valveC (p.valve i)) ∧
  (ix = 9 → ∃ g cs, u = .pointer (some ⟨g, 0, none⟩) ∧ B ≤ g ∧ Bk w1 g 27 cs ∧ cs.size = 4) ∧
  (ix = 10 → ∃ g A c A' c', d 9 = .pointer (some ⟨g, 0, none⟩) ∧ B ≤ g ∧ Bk w1 g 27 #[.slice A p.tanks.length c, .slice A' p.valves.length c', .slice none 0 0, .slice none 0 0] ∧ Cl w1 B 72 4 A p.tanks.length (fun i => tankC (p.tank i)) ∧ Cl w1 B 78 3 A' p.valves.length fun i => valveC (p.valve i))
def OwE3 (j : Nat) (w1 w2 : World) : Prop := KT 27 w1 w2 ∧ (j ≠ 10 → Below w1.heap.size w1 w2) ∧ (j = 10 → ∀ g cs, Bk w1 g 27 cs → cs.size = 4 → ∃ cs', Bk w2 g 27 cs' ∧ cs'.size = 4)
theorem Own3.keep {B : Nat} {p : PlantD} {i j : Nat} {u : Value} {d : Nat → Value} {w1 w2 : World} (hij : i ≠ j) (h : Own3 B p i u d w1) (he : OwE3 j w1 w2) : Own3 B p i u d w2 := by
  obtain ⟨h1, h2, h3, h4, h5, h6⟩ := h
  obtain ⟨k1, k2, k3⟩ := he
  refine ⟨h1, fun e => ?_, fun e => ?_, fun e => ?_, fun e => ?_, fun e => ?_⟩
  · obtain ⟨A, c, a, b⟩ := h2 e; exact ⟨A, c, a, b.kt k1 (by decide)⟩
  · obtain ⟨A, c, a, b⟩ := h3 e; exact ⟨A, c, a, b.kt k1 (by decide)⟩
  · obtain ⟨A, c, A', c', a, b, b'⟩ := h4 e; exact ⟨A, c, A', c', a, b.kt k1 (by decide), b'.kt k1 (by decide)⟩
  · obtain ⟨g, cs, a, b, b', b''⟩ := h5 e
    by_cases hj : j = 10
    · obtain ⟨cs', y1, y2⟩ := k3 hj g cs b' b''; exact ⟨g, cs', a, b, y1, y2⟩
    · exact ⟨g, cs, a, b, b'.below (k2 hj) b'.lt, b''⟩
  · obtain ⟨g, A, c, A', c', a, b, b', b'', b3⟩ := h6 e
    exact ⟨g, A, c, A', c', a, b, b'.below (k2 fun hj => hij (e.trans hj.symm)) b'.lt, b''.kt k1 (by decide), b3.kt k1 (by decide)⟩
theorem OwE3.same (w : World) {j : Nat} (hj : j ≠ 10) : OwE3 j w w := ⟨KT.below (Below.refl _ _), fun _ => Below.refl _ _, fun e => absurd e hj⟩
theorem OwE3.below {w w' : World} {j : Nat} (hj : j ≠ 10) (hb : Below w.heap.size w w') : OwE3 j w w' := ⟨KT.below hb, fun _ => hb, fun e => absurd e hj⟩
theorem OwE3.store {w w' : World} {g : Nat} {cs cs' : Array Value} (ho : Only g w w') (hg : Bk w g 27 cs) (hg' : Bk w' g 27 cs') (hs : cs'.size = 4) : OwE3 10 w w' :=
  ⟨KT.only ho hg, fun e => absurd rfl e, fun _ g' cs'' hb hz => if e : g' = g then ⟨cs', by rw [e]; exact hg', hs⟩ else ⟨cs'', hb.only ho e, hz⟩⟩

/-! What is left by the operations of 'q.Never = append(q.Never, append([]api.Lit{}, p.Never[i]...))'. -/
def NevJ (wr : World) (B : Nat) (p : PlantD) (qb : Nat) (tA vA : Option Addr) (tc vc : Nat) (iA : Nat → Option Addr) (ic : Nat → Nat) (jA : Nat → Option Addr) (jc : Nat → Nat) (lv nv : Value) (ln k : Nat) (a b : Bool) (v10 : Value) (w1 : World) : Prop :=
  if b = true then ∃ A c, CopyQ w1 B p qb tA vA tc vc iA ic (updA jA k A) (updC jc k c) lv v10 ln (k + 1) ∧ Below B wr w1
  else if a = true then ∃ w0 A c, Below wr.heap.size wr w0 ∧ Cl w0 B 79 2 A (p.nev k).length (fun m => litC ((p.nev k).getD m lit0)) ∧ w1.ownsRow B 28 1 v10 (k + 1) (rowsL k 1 (fun i _ => .slice (jA i) (p.nev i).length (jc i)) ++ [.slice A (p.nev k).length c]) ∧ w0.grownBy w1 nv.ownBlock
  else Below wr.heap.size wr w1
def NevR (B : Nat) (p : PlantD) (nv : Value) (k : Nat) (ix : Nat) (u : Value) (w1 : World) : Prop :=
  (ix = 2 → ∃ g, u = .slice (some ⟨g, 0, none⟩) 0 0) ∧
  (ix = 8 → ∃ A c, u = .slice A (p.nev k).length c ∧ Cl w1 B 79 2 A (p.nev k).length fun m => litC ((p.nev k).getD m lit0)) ∧
  (ix = 9 → ∃ g A c, u = .slice (some ⟨g, 0, none⟩) 1 1 ∧ some g ≠ nv.ownBlock ∧ Bk w1 g 28 #[.slice A (p.nev k).length c] ∧ Cl w1 B 79 2 A (p.nev k).length fun m => litC ((p.nev k).getD m lit0))
def NevE (nv : Value) (j : Nat) (w1 w2 : World) : Prop := (∀ b t cs, t ≠ 27 → some b ≠ nv.ownBlock → Bk w1 b t cs → Bk w2 b t cs) ∧ (∀ B A n f, Cl w1 B 79 2 A n f → Cl w2 B 79 2 A n f) ∧ (j ≠ 10 ∧ j ≠ 12 → Below w1.heap.size w1 w2)
theorem NevR.keep {B : Nat} {p : PlantD} {nv : Value} {k i j : Nat} {u : Value} {w1 w2 : World} (h : NevR B p nv k i u w1) (he : NevE nv j w1 w2) : NevR B p nv k i u w2 := by
  obtain ⟨h1, h2, h3⟩ := h
  obtain ⟨k1, k2, _⟩ := he
  refine ⟨h1, fun e => ?_, fun e => ?_⟩
  · obtain ⟨A, c, a, b⟩ := h2 e; exact ⟨A, c, a, k2 _ _ _ _ b⟩
  · obtain ⟨g, A, c, a, b, b', b''⟩ := h3 e; exact ⟨g, A, c, a, b, k1 _ _ _ (by decide) b b', k2 _ _ _ _ b''⟩
theorem NevE.below {nv : Value} {j : Nat} {w w' : World} (hb : Below w.heap.size w w') : NevE nv j w w' := ⟨fun _ _ _ _ _ h => h.below hb h.lt, fun _ _ _ _ h => h.below hb, fun _ => hb⟩
theorem NevE.grow {nv : Value} {w w' : World} {B n : Nat} {xs : List Value} (h : w.ownsRow B 28 1 nv n xs) (hg : w.grownBy w' nv.ownBlock) : NevE nv 10 w w' :=
  ⟨fun b t cs _ hne hb => (hg.block b hb.lt hne).trans hb, fun _ _ _ _ hc => hc.kt (KT.grown h hg) (by decide), fun e => absurd rfl e.1⟩
theorem NevE.store {nv : Value} {w w' : World} {g : Nat} {cs : Array Value} (ho : Only g w w') (hg : Bk w g 27 cs) : NevE nv 12 w w' :=
  ⟨fun b t cs' ht _ hb => hb.only ho (hb.ne hg ht), fun _ _ _ _ hc => hc.kt (KT.only ho hg) (by decide), fun e => absurd rfl e.2⟩
theorem owns_slice {w : World} {B k n : Nat} {e : TypeId} {v : Value} {xs : List Value} (h : w.ownsRow B e k v n xs) : ∃ A c, v = .slice A n c := by
  rcases h.2 with ⟨rfl, rfl⟩ | ⟨g, cap, cur, rfl, _⟩
  · exact ⟨_, _, rfl⟩
  · exact ⟨_, _, rfl⟩
theorem never_pos {p : PlantD} (h : plantB p = true) {i : Nat} (hi : i < p.never.length) : 1 ≤ (p.nev i).length := by
  unfold plantB at h
  simp only [Bool.and_eq_true] at h
  have h5 := h.1.2
  rw [allN_iff] at h5
  have := h5 i hi
  unfold litsOk at this
  simp only [Bool.and_eq_true, inB_iff] at this
  omega
/-- A list of numbers of one's own. -/
def OwnI (w : World) (B : Nat) (A : Option Addr) (n : Nat) : Prop := 0 < n → ∃ g cur, A = some ⟨g, 0, none⟩ ∧ B ≤ g ∧ Bk w g 3 cur ∧ n ≤ cur.size
theorem OwnI.of {w : World} {B n : Nat} {A : Option Addr} {f : Nat → Nat → Value} (h : Cl w B 3 1 A n f) : OwnI w B A n := fun hn => by
  obtain ⟨g, cur, e, h1, h2, h3⟩ := h.2 hn
  refine ⟨g, cur, e, h1, h2, ?_⟩
  have h4 := h3 (n - 1) (by omega) 0 (by omega)
  have := (Array.getElem?_eq_some_iff.1 h4).1
  omega
theorem OwnI.below {w w' : World} {B n : Nat} {A : Option Addr} (h : OwnI w B A n) (hb : Below w.heap.size w w') : OwnI w' B A n := fun hn => by
  obtain ⟨g, cur, e, h1, h2, h3⟩ := h hn
  exact ⟨g, cur, e, h1, h2.below hb h2.lt, h3⟩
theorem OwnI.mono {w : World} {B B' n : Nat} {A : Option Addr} (h : OwnI w B A n) (hb : B' ≤ B) : OwnI w B' A n := fun hn => by
  obtain ⟨g, cur, e, h1, h2, h3⟩ := h hn
  exact ⟨g, cur, e, by omega, h2, h3⟩
theorem OwnI.set {w : World} {B n g j : Nat} {A : Option Addr} {v : Value} (h : OwnI w B A n) : OwnI (w.setCell ⟨g, j, none⟩ v) B A n := fun hn => by
  obtain ⟨g', cur, e, h1, h2, h3⟩ := h hn
  by_cases eg : g' = g
  · subst eg; exact ⟨g', _, e, h1, h2.set j v, by simpa using h3⟩
  · exact ⟨g', cur, e, h1, h2.only (Only.setCell w g j v) eg, h3⟩
theorem Bk.has {w : World} {g : Nat} {t : TypeId} {cur : Array Value} (h : Bk w g t cur) {j : Nat} (hj : j < cur.size) : ∃ u, w.cell? ⟨g, j, none⟩ = some u := ⟨cur[j], by rw [h.cell]; exact Array.getElem?_eq_getElem hj⟩

set_option maxRecDepth 100000 in
set_option maxHeartbeats 32000000 in
theorem owns_any (w : World) (x : PV) (p : PlantD) (hp : PlantAt w w.heap.size x p) (A : Option Addr) (c : Nat) (l : List ActD) (hl : ActsAt w w.heap.size A l) :
    Calls Tryz.prog 8 #[.agg (plantA x p), .slice A l.length c] w fun e w' => e = .returned (.bool true) ∧ Below w.heap.size w w' := by
  obtain ⟨W, hW⟩ : ∃ W, W = w.alloc (.cells (plantA x p) 27) := ⟨_, rfl⟩
  have hbW : Below w.heap.size w W := by rw [hW]; exact (Below.refl _ _).alloc (Nat.le_refl _) _
  have hb0 : Bk W w.heap.size 27 (plantA x p) := by rw [hW]; exact Bk.new _ _ _
  have HC : Hid (∀ wx, Below W.heap.size W wx → Bk wx w.heap.size 27 (plantA x p)) := Lib.hid fun wx hx => hb0.below hx hb0.lt
  have HC4 : Hid (∀ wx, Below W.heap.size W wx → wx.cell? ⟨w.heap.size, 0, none⟩ = some (.slice x.tA p.tanks.length x.tc) ∧ wx.cell? ⟨w.heap.size, 1, none⟩ = some (.slice x.vA p.valves.length x.vc) ∧
      wx.cell? ⟨w.heap.size, 2, none⟩ = some (.slice x.lA p.lines.length x.lc) ∧ wx.cell? ⟨w.heap.size, 3, none⟩ = some (.slice x.nA p.never.length x.nc)) := Lib.hid fun wx hx =>
    have h0 := HC.out wx hx
    ⟨h0.cell 0, h0.cell 1, h0.cell 2, h0.cell 3⟩
  have HP : Hid (∀ wx, Below W.heap.size W wx → PlantAt wx wx.heap.size x p) := Lib.hid fun wx hx => ((hp.below hbW).below (hx.mono hbW.size)).mono (Nat.le_trans hbW.size hx.size)
  have HL : Hid (∀ wx, Below W.heap.size W wx → ActsAt wx wx.heap.size A l) := Lib.hid fun wx hx => Sl.mono (Sl.below (Sl.below hl hbW) (hx.mono hbW.size)) (Nat.le_trans hbW.size hx.size)
  have HB := Lib.hid hbW
  have HW := Lib.hid hW
  have HA := Lib.hid awake_any
  have HWs := Lib.hid hbW.size
  simp only [plantA] at HW
  clear hp hl hbW hb0 hW
  have HG := Lib.hid fun wx hx => great_any wx x p (HP.out wx hx)
  have HRP := Lib.hid fun wx hx => refCheckPlant_any wx x p (HP.out wx hx)
  simp only [plantA] at HG HRP
  have END : Hid (∀ wx, Below W.heap.size W wx → Calls Tryz.prog 14 #[] wx fun e w' => e = .returned (.bool true) ∧ Below W.heap.size W w') := Lib.hid fun wx hx =>
    (HA.out wx).mono fun e w' ⟨he, hb⟩ => ⟨he, hx.trans (hb.mono hx.size)⟩
  have FIN : Hid (∀ wx, Below W.heap.size W wx → Below w.heap.size w wx) := Lib.hid fun wx hx => HB.out.trans (hx.mono HB.out.size)
  dsimp only [plantA]
  obtain ⟨n, hn⟩ : ∃ n, l.length = n := ⟨_, rfl⟩
  rw [hn]
  have HNL := Lib.hid hn
  clear hn
  obtain ⟨c0, c1, c2, c3⟩ := HC4.out W (Below.refl _ _)
  go_enter Tryz.func8, Tryz.ntmps8
  go_wp2_with fail
  rw [← HW.out]
  refine (HG.out W (Below.refl _ _)).mono ?_
  rintro e w1 ⟨b1, rfl, _, hb1⟩
  have HB1 : Hid (Below W.heap.size W w1) := Lib.hid hb1
  clear hb1 c0 c1 c2 c3
  obtain ⟨c0, c1, c2, c3⟩ := HC4.out w1 HB1.out
  cases b1 with
  | true =>
    go_wp2_with fail
    refine (END.out w1 HB1.out).mono ?_
    rintro e w3 ⟨rfl, hb3⟩
    go_wp2_with fail
    go_ret
    exact ⟨rfl, FIN.out _ hb3⟩
  | false =>
  by_cases h60 : (60 : Int) < (n : Int)
  · go_wp2_with fail
    refine (END.out w1 HB1.out).mono ?_
    rintro e w3 ⟨rfl, hb3⟩
    go_wp2_with fail
    go_ret
    exact ⟨rfl, FIN.out _ hb3⟩
  have cc := HRP.out w1 HB1.out
  have HCC := Lib.hid cc
  clear cc
  go_wp2_with fail
  refine HCC.out.mono ?_
  rintro e w3 ⟨rfl, hb3⟩
  have HB3 : Hid (Below W.heap.size W w3) := Lib.hid (HB1.out.trans (hb3.mono HB1.out.size))
  clear hb3 HCC c0 c1 c2 c3
  cases hpb : plantB p with
  | false =>
    go_wp2_with fail
    refine (END.out w3 HB3.out).mono ?_
    rintro e w4 ⟨rfl, hb4⟩
    go_wp2_with fail
    go_ret
    exact ⟨rfl, FIN.out _ hb4⟩
  | true =>
  have HPB := Lib.hid hpb
  obtain ⟨hl1, hl2, hl3, hl4, hl5⟩ := plantB_lens hpb
  obtain ⟨_, _, _, hz4, hz5, hz6⟩ := plantB_sizes hpb
  have HZ5 := Lib.hid hz5
  have HZ6 := Lib.hid hz6
  clear hpb hz5 hz6
  obtain ⟨iT, hiT, hzT, hsT, hbT⟩ := info_parts infoC_Tank
  obtain ⟨iV, hiV, hzV, hsV, hbV⟩ := info_parts infoC_Valve
  have HIT := Lib.hid hiT; have HZT := Lib.hid hzT; have HST := Lib.hid hsT; have HBT : Hid (iT.bytes ≤ 1024) := Lib.hid (by omega)
  have HIV := Lib.hid hiV; have HZV := Lib.hid hzV; have HSV := Lib.hid hsV; have HBV : Hid (iV.bytes ≤ 1024) := Lib.hid (by omega)
  clear hiT hzT hsT hbT hiV hzV hsV hbV
  have HB3' : Hid (∀ z, Below w3.heap.size w3 z → Below W.heap.size W z) := Lib.hid fun z hz => HB3.out.trans (hz.mono HB3.out.size)
  go_wp2_with fail
  refine wp_region_steps (by kernel_rfl) (by kernel_rfl) (fun w1 => Below w3.heap.size w3 w1) (OwE3)
    (fun ix u d w1 => (match ix with
      | 0 => True
      | 1 => u = .pointer (some ⟨w.heap.size, 0, none⟩)
      | 2 => u = .slice x.tA p.tanks.length x.tc
      | 3 => True
      | 4 => True
      | 5 => u = .pointer (some ⟨w.heap.size, 1, none⟩)
      | 6 => u = .slice x.vA p.valves.length x.vc
      | 7 => True
      | 8 => True
      | 9 => True
      | _ => True) ∧ Own3 w3.heap.size p ix u d w1) (Below.refl _ _).drew (fun i j hij _ u d w1 w2 ⟨hr1, hr2⟩ _ he => ⟨hr1, hr2.keep hij he⟩) ?_ ?_
  · refine ⟨?_, ?_, ?_, ?_, ?_, ?_, ?_, ?_, ?_, ?_, ?_, trivial⟩
    · intro a w1 vs K HJ HK HD HN kk
      go_simp; exact kk _ _ (by simp) (HJ.alloc HJ.size _) (OwE3.below (by omega) ((Below.refl _ _).alloc (Nat.le_refl _) _)) ⟨trivial, ⟨fun _ => ⟨_, rfl⟩, fun e => by omega, fun e => by omega, fun e => by omega, fun e => by omega, fun e => by omega⟩⟩
    · intro a w1 vs K HJ HK HD HN kk
      have e2 := HK 2 (by decide)
      go_simp; exact kk _ _ (by simp) HJ (OwE3.same _ (by omega)) ⟨rfl, ⟨fun e => by omega, fun e => by omega, fun e => by omega, fun e => by omega, fun e => by omega, fun e => by omega⟩⟩
    · intro a w1 vs K HJ HK HD HN kk
      have e38 := (HD 1 _ 38 rfl rfl rfl).1.trans (HD 1 _ 38 rfl rfl rfl).2.1
      have ca := (HC4.out w1 (HB3'.out w1 HJ)).1
      go_simp; exact kk _ _ (by simp) HJ (OwE3.same _ (by omega)) ⟨rfl, ⟨fun e => by omega, fun e => by omega, fun e => by omega, fun e => by omega, fun e => by omega, fun e => by omega⟩⟩
    · intro a w1 vs K HJ HK HD HN kk
      have e39 := (HD 2 _ 39 rfl rfl rfl).1.trans (HD 2 _ 39 rfl rfl rfl).2.1
      obtain ⟨q0, r0⟩ := HD 0 _ 37 rfl rfl rfl
      obtain ⟨g, y1⟩ := r0.2.1 (Or.inl rfl)
      have e37 := q0.trans y1
      exact wpo_copy 22 _ _ rfl 72 _ _ Tryz.underlying22 HIT.out HZT.out 4 HST.out HBT.out ⟨g, 0, none⟩ (by simpa [Act.eval] using e37) x.tA p.tanks.length x.tc (by simpa [Act.eval] using e39) (fun i => tankC (p.tank i)) ((HP.out w1 (HB3'.out w1 HJ)).tanks) (by omega) (by omega) fun A' c' w' h1 h2 =>
        kk _ _ (by simp) (HJ.trans (h2.mono HJ.size)) (OwE3.below (by omega) h2) ⟨trivial, ⟨fun e => by omega, fun _ => ⟨A', c', rfl, h1.mono HJ.size⟩, fun e => by omega, fun e => by omega, fun e => by omega, fun e => by omega⟩⟩
    · intro a w1 vs K HJ HK HD HN kk
      go_simp; exact kk _ _ (by simp) (HJ.alloc HJ.size _) (OwE3.below (by omega) ((Below.refl _ _).alloc (Nat.le_refl _) _)) ⟨trivial, ⟨fun _ => ⟨_, rfl⟩, fun e => by omega, fun e => by omega, fun e => by omega, fun e => by omega, fun e => by omega⟩⟩
    · intro a w1 vs K HJ HK HD HN kk
      have e2 := HK 2 (by decide)
      go_simp; exact kk _ _ (by simp) HJ (OwE3.same _ (by omega)) ⟨rfl, ⟨fun e => by omega, fun e => by omega, fun e => by omega, fun e => by omega, fun e => by omega, fun e => by omega⟩⟩
    · intro a w1 vs K HJ HK HD HN kk
      have e42 := (HD 5 _ 42 rfl rfl rfl).1.trans (HD 5 _ 42 rfl rfl rfl).2.1
      have ca := (HC4.out w1 (HB3'.out w1 HJ)).2.1
      go_simp; exact kk _ _ (by simp) HJ (OwE3.same _ (by omega)) ⟨rfl, ⟨fun e => by omega, fun e => by omega, fun e => by omega, fun e => by omega, fun e => by omega, fun e => by omega⟩⟩
    · intro a w1 vs K HJ HK HD HN kk
      have e43 := (HD 6 _ 43 rfl rfl rfl).1.trans (HD 6 _ 43 rfl rfl rfl).2.1
      obtain ⟨q0, r0⟩ := HD 4 _ 41 rfl rfl rfl
      obtain ⟨g, y1⟩ := r0.2.1 (Or.inr rfl)
      have e41 := q0.trans y1
      exact wpo_copy 23 _ _ rfl 78 _ _ Tryz.underlying23 HIV.out HZV.out 3 HSV.out HBV.out ⟨g, 0, none⟩ (by simpa [Act.eval] using e41) x.vA p.valves.length x.vc (by simpa [Act.eval] using e43) (fun i => valveC (p.valve i)) ((HP.out w1 (HB3'.out w1 HJ)).valves) (by omega) (by omega) fun A' c' w' h1 h2 =>
        kk _ _ (by simp) (HJ.trans (h2.mono HJ.size)) (OwE3.below (by omega) h2) ⟨trivial, ⟨fun e => by omega, fun e => by omega, fun _ => ⟨A', c', rfl, h1.mono HJ.size⟩, fun e => by omega, fun e => by omega, fun e => by omega⟩⟩
    · intro a w1 vs K HJ HK HD HN kk
      obtain ⟨q3, r3⟩ := HD 3 _ 40 rfl rfl rfl
      obtain ⟨A1, c1, y1, y2⟩ := r3.2.2.1 rfl
      obtain ⟨q7, r7⟩ := HD 7 _ 44 rfl rfl rfl
      obtain ⟨A2, c2, y3, y4⟩ := r7.2.2.2.1 rfl
      have e40 := q3.trans y1
      have e44 := q7.trans y3
      clear q3 r3 q7 r7 y1 y3
      go_simp; exact kk _ _ (by simp) HJ (OwE3.same _ (by omega)) ⟨trivial, ⟨fun e => by omega, fun e => by omega, fun e => by omega, fun _ => ⟨_, _, _, _, rfl, y2, y4⟩, fun e => by omega, fun e => by omega⟩⟩
    · intro a w1 vs K HJ HK HD HN kk
      go_simp; exact kk _ _ (by simp) (HJ.alloc HJ.size _) (OwE3.below (by omega) ((Below.refl _ _).alloc (Nat.le_refl _) _)) ⟨trivial, ⟨fun e => by omega, fun e => by omega, fun e => by omega, fun e => by omega, fun _ => ⟨_, _, rfl, HJ.size, Bk.new _ _ _, rfl⟩, fun e => by omega⟩⟩
    · intro a w1 vs K HJ HK HD HN kk
      obtain ⟨q9, r9⟩ := HD 9 _ 5 rfl rfl rfl
      obtain ⟨g, cs, y1, y2, y3, y4⟩ := r9.2.2.2.2.2.1 rfl
      obtain ⟨q8, r8⟩ := HD 8 _ 45 rfl rfl rfl
      obtain ⟨A1, c1, A2, c2, y5, y6, y7⟩ := r8.2.2.2.2.1 rfl
      exact wpo_storeS 27 (.tmp 5) (.tmp 45) rfl rfl g 0 (by simpa [Act.eval] using q9.trans y1) #[.slice A1 p.tanks.length c1, .slice A2 p.valves.length c2, .slice none 0 0, .slice none 0 0] (by simpa [Act.eval] using q8.trans y5) 27 cs y3 (by rw [y4]; show 0 + 4 ≤ 4; omega) (by simp [Value.oneCell']) info_plant fun w2 hk2 ho2 => by
        have hk3 : Bk w2 g 27 #[.slice A1 p.tanks.length c1, .slice A2 p.valves.length c2, .slice none 0 0, .slice none 0 0] := by rw [splA_all _ _ (by rw [y4]; rfl)] at hk2; exact hk2
        have hkt : KT 27 w1 w2 := KT.only ho2 y3
        exact kk undef _ (by simp) (HJ.trans (ho2.below y2)) (OwE3.store ho2 y3 hk3 rfl) ⟨trivial, ⟨fun e => by omega, fun e => by omega, fun e => by omega, fun e => by omega, fun e => by omega, fun _ => ⟨g, A1, c1, A2, c2, y1, y2, hk3, y6.kt hkt (by decide), y7.kt hkt (by decide)⟩⟩⟩
  · intro vs w4 hw4 hrr
    obtain ⟨qb, tA, tc, vA, vc, z1, z2, z3, z4, z5⟩ := (hrr 10 _ rfl).2.2.2.2.2.2 rfl
    have z1' : vs 9 = .pointer (some ⟨qb, 0, none⟩) := z1
    have HQ0 : Hid (CopyQ w4 w3.heap.size p qb tA vA tc vc (fun _ => none) (fun _ => 0) (fun _ => none) (fun _ => 0) (.slice none 0 0) (.slice none 0 0) 0 0) := Lib.hid
      ⟨z3, z4, z5, World.ownsRow_nil _ _ _ _, fun i hi => absurd hi (by omega), World.ownsRow_nil _ _ _ _, fun i hi => absurd hi (by omega), z2⟩
    have HB4 : Hid (Below w3.heap.size w3 w4) := Lib.hid hw4
    clear hrr z1 z2 z3 z4 z5 hw4 HIT HZT HST HBT HIV HZV HSV HBV
    simp only [putAll, Act.put, List.setIfInBounds_toArray, List.set_cons_zero, List.set_cons_succ]
    rw [z1']
    clear z1'
    obtain ⟨B, hB⟩ : ∃ B, w3.heap.size = B := ⟨_, rfl⟩
    rw [hB] at HQ0 HB4 HB3'
    have HB44 : Hid (Below B w3 w4 ∧ B ≤ w4.heap.size ∧ W.heap.size ≤ B) := Lib.hid ⟨HB4.out, by have := HB4.out.size; omega, by rw [← hB]; exact HB3.out.size⟩
    obtain ⟨nl, hnl⟩ : ∃ m, p.lines.length = m := ⟨_, rfl⟩
    rw [hnl] at hl5
    have HNLL := Lib.hid hnl
    have HC2 : Hid (∀ z, Below B w3 z → z.cell? ⟨w.heap.size, 2, none⟩ = some (.slice x.lA nl x.lc)) := Lib.hid fun z hz => by rw [← hnl]; exact (HC4.out z (HB3'.out z hz)).2.2.1
    obtain ⟨iI, hiI, hzI, hsI, hbI⟩ := info_parts infoC_Int
    obtain ⟨iL, hiL, hzL, hsL, hbL⟩ := info_parts infoC_Line
    have HINT : Hid (Tryz.prog.info? 3 = some iI ∧ iI.zero = some (.int .i64 0) ∧ iI.size = 1 ∧ iI.bytes ≤ 1024) := Lib.hid ⟨hiI, hzI, hsI, by omega⟩
    have HLIN : Hid (Tryz.prog.info? 76 = some iL ∧ iL.zero = some (.agg #[.int .i64 0, .int .i64 0, .int .i64 0, .bool false, .slice none 0 0]) ∧ iL.size = 5 ∧ iL.bytes = 56) := Lib.hid ⟨hiL, hzL, hsL, hbL⟩
    clear hB hnl HB4 hiI hzI hsI hbI hiL hzL hsL hbL
    go_wp2_with fail
    go_loopw [6] (fun i wr => ∃ (k : Nat) (lv : Value) (iA : Nat → Option Addr) (ic : Nat → Nat), k ≤ nl ∧ i = .int .i64 k ∧ Hid (CopyQ wr B p qb tA vA tc vc iA ic (fun _ => none) (fun _ => 0) lv (.slice none 0 0) k 0 ∧ Below B w3 wr ∧ B ≤ wr.heap.size)) (fun i _ => nl - (intOf i).toNat)
    case atStart => exact ⟨0, _, _, _, Nat.zero_le _, rfl, Lib.hid ⟨HQ0.out, HB44.out.1, HB44.out.2.1⟩⟩
    case round =>
      obtain ⟨k, lv, iA, ic, hk, rfl, hs⟩ := hrel
      have p2 := HC2.out wr hs.out.2.1
      by_cases hlt : k < nl
      · have hki : (k : Int) < (nl : Int) := by omega
        have h0k : (0 : Int) ≤ (k : Int) := by omega
        have hkp : k < p.lines.length := by rw [HNLL.out]; exact hlt
        have hpl := HP.out wr (HB3'.out wr hs.out.2.1)
        obtain ⟨b, off, hA, hBb, d0, d1, d2, d3, d4⟩ := hpl.lines.at5 hkp
        simp only [lineC] at d0 d1 d2 d3 d4
        rw [hA] at p2
        obtain ⟨ln, hln⟩ : ∃ ln, p.line k = ln := ⟨_, rfl⟩
        have hlo := lineOk_of HPB.out k hkp
        rw [hln] at hlo
        have hv1 : 1 ≤ ln.valves.length ∧ ln.valves.length ≤ 4 := by
          unfold lineOk at hlo
          simp only [Bool.and_eq_true, inB_iff] at hlo
          omega
        have HLV : Hid (∀ z, Below wr.heap.size wr z → Sl z z.heap.size 1 (x.iA k) ln.valves.length fun m _ => .int .i64 (ln.valves.getD m 0)) := Lib.hid fun z hz => by
          have h := (HP.out z (HB3'.out z (hs.out.2.1.trans (hz.mono hs.out.2.2)))).lv k hkp
          rw [hln] at h; exact h
        rw [hln] at d0 d1 d2 d3 d4
        obtain ⟨lsrc, ldst, lflow, lgas, lvs⟩ := ln
        simp only at d0 d1 d2 d3 d4 hv1 HLV
        obtain ⟨nv, hnv⟩ : ∃ m, lvs.length = m := ⟨_, rfl⟩
        rw [hnv] at d4 hv1 HLV
        have HLN := Lib.hid hln
        have HNV := Lib.hid hnv
        clear hlo hln hnv hA hpl
        go_upto_region 8 with (fail)
        have HB5 : Hid (Below wr.heap.size wr (wr.alloc (.cells #[.int .i64 lsrc, .int .i64 ldst, .int .i64 lflow, .bool lgas, .slice (x.iA k) nv (x.ic k)] 76))) := Lib.hid ((Below.refl _ _).alloc (Nat.le_refl _) _)
        have HX5 := Lib.hid (Bk.new wr 76 #[.int .i64 lsrc, .int .i64 ldst, .int .i64 lflow, .bool lgas, .slice (x.iA k) nv (x.ic k)])
        obtain ⟨w5, hw5⟩ : ∃ w5, wr.alloc (.cells #[.int .i64 lsrc, .int .i64 ldst, .int .i64 lflow, .bool lgas, .slice (x.iA k) nv (x.ic k)] 76) = w5 := ⟨_, rfl⟩
        rw [hw5] at HB5 HX5 ⊢
        obtain ⟨xb, hxb⟩ : ∃ xb, wr.heap.size = xb := ⟨_, rfl⟩
        rw [hxb] at HX5 ⊢
        have hxl : xb < w5.heap.size := HX5.out.lt
        have x4 := HX5.out.cell 4
        simp at x4
        have hwx : wr.heap.size ≤ xb := by omega
        have HXB := Lib.hid hxb
        clear hw5 hxb d0 d1 d2 d3 d4 p2
        go_upto_region 9 with (at_builtin; refine wpList_copy1 rfl 50 _ _ rfl 3 iI _ Tryz.underlying50 HINT.out.1 HINT.out.2.1 1 HINT.out.2.2.1 HINT.out.2.2.2 ⟨w5.heap.size, 0, none⟩ rfl (x.iA k) nv (x.ic k) rfl (fun m _ => .int .i64 (lvs.getD m 0)) (HLV.out _ (HB5.out.alloc HB5.out.size _)) (by omega) (by omega) ?_; intro A' c' w6 hcl hb6; have HCL := Lib.hid hcl; have HB6 : Hid (Below w5.heap.size w5 w6) := Lib.hid (((Below.refl _ _).alloc (Nat.le_refl _) _).trans (hb6.mono (by simp))); have HX6 := Lib.hid (HX5.out.below HB6.out HX5.out.lt); have y4 := HX6.out.cell 4; have f4 := HX6.out.free 4; simp at y4; clear hcl hb6 x4)
        have HX7 := Lib.hid (HX6.out.set 4 (.slice A' nv c'))
        have ho7 := Only.setCell w6 xb 4 (.slice A' nv c')
        have hbr6 : Below wr.heap.size wr w6 := HB5.out.trans (HB6.out.mono HB5.out.size)
        have HB7 : Hid (Below wr.heap.size wr (w6.setCell ⟨xb, 4, none⟩ (.slice A' nv c'))) := Lib.hid (hbr6.trans (ho7.below hwx))
        have HCL7 : Hid (Cl (w6.setCell ⟨xb, 4, none⟩ (.slice A' nv c')) B 3 1 A' nv fun m _ => .int .i64 (lvs.getD m 0)) := Lib.hid ((HCL.out.mono (by have := HB5.out.size; have := hs.out.2.2; simp; omega)).kt (KT.only ho7 HX6.out) (by decide))
        obtain ⟨w7, hw7⟩ : ∃ w7, w6.setCell ⟨xb, 4, none⟩ (.slice A' nv c') = w7 := ⟨_, rfl⟩
        rw [hw7] at HX7 HB7 HCL7 ⊢
        have HQ7 := Lib.hid (hs.out.1.later HB7.out)
        have q2 := HQ7.out.box.cell 2
        have x0 := HX7.out.cell 0; have x1 := HX7.out.cell 1; have x2 := HX7.out.cell 2; have x3 := HX7.out.cell 3; have x4 := HX7.out.cell 4
        simp at q2 x0 x1 x2 x3 x4
        have hq7 : qb < w7.heap.size := HQ7.out.box.lt
        have hx7 : xb < w7.heap.size := HX7.out.lt
        have HQ8 : Hid (∀ o, CopyQ (w7.alloc o) B p qb tA vA tc vc iA ic (fun _ => none) (fun _ => 0) lv (.slice none 0 0) k 0) := Lib.hid fun o => HQ7.out.later ((Below.refl _ _).alloc (Nat.le_refl _) _)
        clear ho7 hbr6 hw7 HB5 HX5 HB6 HX6 HCL y4 f4
        go_wp2_with (at_builtin; refine wpList_append_own _ rfl _ _ 24 rfl B 76 iL (.agg #[.int .i64 0, .int .i64 0, .int .i64 0, .bool false, .slice none 0 0]) 5 56 Tryz.underlying24 HLIN.out.1 HLIN.out.2.1 HLIN.out.2.2.1 HLIN.out.2.2.2 rfl (by decide) _ _ _ rfl (HQ8.out _).lines ⟨w7.heap.size, 0, none⟩ 1 1 [.int .i64 lsrc, .int .i64 ldst, .int .i64 lflow, .bool lgas, .slice A' nv c'] rfl rfl ?qc1 ?qc2 ?qc3 ?qc4 ?qc5 ?_)
        case qc1 => intro j u hj; rw [Addr.add_lit, Nat.zero_add, (Bk.new w7 76 _).cell]; simpa using hj
        case qc2 => intro u hu; simp at hu; rcases hu with rfl | rfl | rfl | rfl | rfl <;> rfl
        case qc3 => unfold maxLen; omega
        case qc4 => omega
        case qc5 => have := HB7.out.size; have := hs.out.2.2; simp; omega
        intro v' w8 hown hgrow _
        obtain ⟨A9, c9, rfl⟩ := owns_slice hown
        have hst := (HQ8.out _).line (A := A') (c := c') (by rw [HLN.out]; simp only; rw [HNV.out]; exact Cl.below HCL7.out ((Below.refl _ _).alloc (Nat.le_refl _) _)) (news := [.int .i64 lsrc, .int .i64 ldst, .int .i64 lflow, .bool lgas, .slice A' nv c']) (by rw [HLN.out, ← HNV.out]; rfl) hown hgrow (by have := HB7.out.size; have := hs.out.2.2; simp; omega)
        have hk8 := (KT.grown (HQ8.out _).lines hgrow).2 qb 27 _ (by decide) (HQ8.out _).box
        have HST : Hid (CopyQ (w8.setCell ⟨qb, 2, none⟩ (.slice A9 (k + 1) c9)) B p qb tA vA tc vc (updA iA k A') (updC ic k c') (fun _ => none) (fun _ => 0) (.slice A9 (k + 1) c9) (.slice none 0 0) (k + 1) 0 ∧ Below B w3 (w8.setCell ⟨qb, 2, none⟩ (.slice A9 (k + 1) c9)) ∧ B ≤ (w8.setCell ⟨qb, 2, none⟩ (.slice A9 (k + 1) c9)).heap.size) := Lib.hid ⟨hst.1, ((hs.out.2.1.trans (HB7.out.mono hs.out.2.2)).trans (((Below.refl _ _).alloc (Nat.le_refl _) _).mono (by have := HB7.out.size; have := hs.out.2.2; omega))).trans hst.2, by have := hst.2.size; have := HB7.out.size; have := hs.out.2.2; simp at *; omega⟩
        have y2 := hk8.cell 2
        have f2 := hk8.free 2
        simp at y2
        clear hown hgrow hst hk8 q2 x0 x1 x2 x3 x4
        go_wp2_with fail
        refine ⟨⟨k + 1, .slice A9 (k + 1) c9, updA iA k A', updC ic k c', by omega, by go_num, HST⟩, ?_⟩
        simp [intOf]
        omega
      · obtain rfl : k = nl := by omega
        have hk32 : k ≤ 32 := hl5
        clear hl5
        obtain ⟨nn, hnn⟩ : ∃ m, p.never.length = m := ⟨_, rfl⟩
        rw [hnn] at hz4
        have HNN := Lib.hid hnn
        have HC3 : Hid (∀ z, Below B w3 z → z.cell? ⟨w.heap.size, 3, none⟩ = some (.slice x.nA nn x.nc)) := Lib.hid fun z hz => by rw [← hnn]; exact (HC4.out z (HB3'.out z hz)).2.2.2
        obtain ⟨iN, hiN, hzN, hsN, hbN⟩ := info_parts infoC_Lits
        obtain ⟨iK, hiK, hzK, hsK, hbK⟩ := info_parts infoC_Lit
        have HNIN : Hid (Tryz.prog.info? 28 = some iN ∧ iN.zero = some (.slice none 0 0) ∧ iN.size = 1 ∧ iN.bytes = 24) := Lib.hid ⟨hiN, hzN, hsN, hbN⟩
        have HLIT : Hid (Tryz.prog.info? 79 = some iK ∧ iK.zero = some (.agg #[.int .i64 0, .bool false]) ∧ iK.size = 2 ∧ iK.bytes ≤ 1024) := Lib.hid ⟨hiK, hzK, hsK, by omega⟩
        have HS1 := Lib.hid hs.out
        clear hnn hiN hzN hsN hbN hiK hzK hsK hbK hs
        go_wp2_with fail
        clear p2
        go_loopw [8] (fun i wr => ∃ (m : Nat) (nv : Value) (jA : Nat → Option Addr) (jc : Nat → Nat), m ≤ nn ∧ i = .int .i64 m ∧ Hid (CopyQ wr B p qb tA vA tc vc iA ic jA jc lv nv k m ∧ Below B w3 wr ∧ B ≤ wr.heap.size)) (fun i _ => nn - (intOf i).toNat)
        case atStart => exact ⟨0, _, _, _, Nat.zero_le _, rfl, Lib.hid HS1.out⟩
        case round =>
          obtain ⟨m, nv, jA, jc, hm, rfl, hs⟩ := hrel
          have p3 := HC3.out wr hs.out.2.1
          by_cases hlm : m < nn
          · have hmi : (m : Int) < (nn : Int) := by omega
            have h0m : (0 : Int) ≤ (m : Int) := by omega
            have hmp : m < p.never.length := by rw [HNN.out]; exact hlm
            obtain ⟨bn, on, hA, hBn, hdn⟩ := (HP.out wr (HB3'.out wr hs.out.2.1)).never.at1 hmp
            rw [hA] at p3
            obtain ⟨nk, hnk⟩ : ∃ q, (p.nev m).length = q := ⟨_, rfl⟩
            have hnk1 : 1 ≤ nk ∧ nk ≤ 4 := by rw [← hnk]; exact ⟨never_pos HPB.out hmp, HZ6.out m hmp⟩
            have HNK := Lib.hid hnk
            have HNC : Hid (∀ z, Below wr.heap.size wr z → z.cell? ⟨w.heap.size, 3, none⟩ = some (.slice (some ⟨bn, on, none⟩) nn x.nc) ∧ z.cell? ⟨bn, on + m, none⟩ = some (.slice (x.jA m) nk (x.jc m)) ∧ Sl z z.heap.size 2 (x.jA m) nk fun i => litC ((p.nev m).getD i lit0)) := Lib.hid fun z hz => by
              have hz2 := hs.out.2.1.trans (hz.mono hs.out.2.2)
              have hpz := HP.out z (HB3'.out z hz2)
              obtain ⟨b', o', hA', _, hd'⟩ := hpz.never.at1 hmp
              rw [hA] at hA'
              obtain ⟨rfl, rfl⟩ : bn = b' ∧ on = o' := by simpa using hA'
              have h3 := hpz.nv m hmp
              unfold LitsAt at h3
              rw [HNK.out] at hd' h3
              exact ⟨by rw [← hA]; exact HC3.out z hz2, hd', h3⟩
            have HQL : Hid (∀ z, Below wr.heap.size wr z → CopyQ z B p qb tA vA tc vc iA ic jA jc lv nv k m) := Lib.hid fun z hz => hs.out.1.later hz
            have HWB := Lib.hid hs.out.2.2
            clear hA hnk hBn hdn
            go_wp2_with fail
            clear p3
            refine wp_region_stepsJ (by kernel_rfl) (by kernel_rfl) (fun dn vs w1 => NevJ wr B p qb tA vA tc vc iA ic jA jc lv nv k m (dn 10) (dn 12) (vs 10) w1) (NevE nv)
              (fun ix u d w1 => (match ix with
                | 0 => u = .pointer (some ⟨qb, 3, none⟩)
                | 1 => u = nv
                | 2 => True
                | 3 => u = .pointer (some ⟨w.heap.size, 3, none⟩)
                | 4 => u = .slice (some ⟨bn, on, none⟩) nn x.nc
                | 5 => u = .int .i64 m
                | 6 => u = .pointer (some ⟨bn, on + m, none⟩)
                | 7 => u = .slice (x.jA m) nk (x.jc m)
                | 8 => True
                | 9 => True
                | 10 => True
                | 11 => u = .pointer (some ⟨qb, 3, none⟩)
                | _ => True) ∧ NevR B p nv m ix u w1) (fun _ => by unfold NevJ; exact (Below.refl _ _).drew) (fun i j hij _ u d w1 w2 ⟨hr1, hr2⟩ he => ⟨hr1, hr2.keep he⟩) ?_ ?_
            · refine ⟨?_, ?_, ?_, ?_, ?_, ?_, ?_, ?_, ?_, ?_, ?_, ?_, ?_, trivial⟩
              · intro a w1 vs K dn Hd Hb HJ HK HD HN kk
                have e5 := HK 5 (by decide)
                have d10 : dn 10 = false := by cases hq : dn 10 with | false => rfl | true => exact absurd (Hd 10 hq).2 (by decide)
                have d12 : dn 12 = false := by cases hq : dn 12 with | false => rfl | true => exact absurd (Hd 12 hq).2 (by decide)
                have HJ' : Below wr.heap.size wr w1 := by have h := HJ; unfold NevJ at h; rw [d12, d10] at h; exact h
                go_simp; exact kk _ _ (by simp) (by unfold NevJ; dsimp only; rw [show updB dn 0 12 = false by simp [updB, d12], show updB dn 0 10 = false by simp [updB, d10]]; exact HJ') (NevE.below (Below.refl _ _)) ⟨rfl, ⟨fun e => by omega, fun e => by omega, fun e => by omega⟩⟩
              · intro a w1 vs K dn Hd Hb HJ HK HD HN kk
                have e76 := (HD 0 _ 76 rfl rfl rfl).1.trans (HD 0 _ 76 rfl rfl rfl).2.1
                have d10 : dn 10 = false := by cases hq : dn 10 with | false => rfl | true => exact absurd (Hd 10 hq).2 (by decide)
                have d12 : dn 12 = false := by cases hq : dn 12 with | false => rfl | true => exact absurd (Hd 12 hq).2 (by decide)
                have HJ' : Below wr.heap.size wr w1 := by have h := HJ; unfold NevJ at h; rw [d12, d10] at h; exact h
                have ca := (HQL.out w1 HJ').box.cell 3
                simp at ca
                go_simp; exact kk _ _ (by simp) (by unfold NevJ; dsimp only; rw [show updB dn 1 12 = false by simp [updB, d12], show updB dn 1 10 = false by simp [updB, d10]]; exact HJ') (NevE.below (Below.refl _ _)) ⟨rfl, ⟨fun e => by omega, fun e => by omega, fun e => by omega⟩⟩
              · intro a w1 vs K dn Hd Hb HJ HK HD HN kk
                have d10 : dn 10 = false := by cases hq : dn 10 with | false => rfl | true => exact absurd (Hd 10 hq).2 (by decide)
                have d12 : dn 12 = false := by cases hq : dn 12 with | false => rfl | true => exact absurd (Hd 12 hq).2 (by decide)
                have HJ' : Below wr.heap.size wr w1 := by have h := HJ; unfold NevJ at h; rw [d12, d10] at h; exact h
                go_simp; exact kk _ _ (by simp) (by unfold NevJ; dsimp only; rw [show updB dn 2 12 = false by simp [updB, d12], show updB dn 2 10 = false by simp [updB, d10]]; exact (HJ'.alloc HJ'.size _)) (NevE.below ((Below.refl _ _).alloc (Nat.le_refl _) _)) ⟨trivial, ⟨fun _ => ⟨_, rfl⟩, fun e => by omega, fun e => by omega⟩⟩
              · intro a w1 vs K dn Hd Hb HJ HK HD HN kk
                have e2 := HK 2 (by decide)
                have d10 : dn 10 = false := by cases hq : dn 10 with | false => rfl | true => exact absurd (Hd 10 hq).2 (by decide)
                have d12 : dn 12 = false := by cases hq : dn 12 with | false => rfl | true => exact absurd (Hd 12 hq).2 (by decide)
                have HJ' : Below wr.heap.size wr w1 := by have h := HJ; unfold NevJ at h; rw [d12, d10] at h; exact h
                go_simp; exact kk _ _ (by simp) (by unfold NevJ; dsimp only; rw [show updB dn 3 12 = false by simp [updB, d12], show updB dn 3 10 = false by simp [updB, d10]]; exact HJ') (NevE.below (Below.refl _ _)) ⟨rfl, ⟨fun e => by omega, fun e => by omega, fun e => by omega⟩⟩
              · intro a w1 vs K dn Hd Hb HJ HK HD HN kk
                have e79 := (HD 3 _ 79 rfl rfl rfl).1.trans (HD 3 _ 79 rfl rfl rfl).2.1
                have d10 : dn 10 = false := by cases hq : dn 10 with | false => rfl | true => exact absurd (Hd 10 hq).2 (by decide)
                have d12 : dn 12 = false := by cases hq : dn 12 with | false => rfl | true => exact absurd (Hd 12 hq).2 (by decide)
                have HJ' : Below wr.heap.size wr w1 := by have h := HJ; unfold NevJ at h; rw [d12, d10] at h; exact h
                have ca := (HNC.out w1 HJ').1
                go_simp; exact kk _ _ (by simp) (by unfold NevJ; dsimp only; rw [show updB dn 4 12 = false by simp [updB, d12], show updB dn 4 10 = false by simp [updB, d10]]; exact HJ') (NevE.below (Below.refl _ _)) ⟨rfl, ⟨fun e => by omega, fun e => by omega, fun e => by omega⟩⟩
              · intro a w1 vs K dn Hd Hb HJ HK HD HN kk
                have e8 := HK 8 (by decide)
                have d10 : dn 10 = false := by cases hq : dn 10 with | false => rfl | true => exact absurd (Hd 10 hq).2 (by decide)
                have d12 : dn 12 = false := by cases hq : dn 12 with | false => rfl | true => exact absurd (Hd 12 hq).2 (by decide)
                have HJ' : Below wr.heap.size wr w1 := by have h := HJ; unfold NevJ at h; rw [d12, d10] at h; exact h
                go_simp; exact kk _ _ (by simp) (by unfold NevJ; dsimp only; rw [show updB dn 5 12 = false by simp [updB, d12], show updB dn 5 10 = false by simp [updB, d10]]; exact HJ') (NevE.below (Below.refl _ _)) ⟨rfl, ⟨fun e => by omega, fun e => by omega, fun e => by omega⟩⟩
              · intro a w1 vs K dn Hd Hb HJ HK HD HN kk
                have e80 := (HD 4 _ 80 rfl rfl rfl).1.trans (HD 4 _ 80 rfl rfl rfl).2.1
                have e81 := (HD 5 _ 81 rfl rfl rfl).1.trans (HD 5 _ 81 rfl rfl rfl).2.1
                have d10 : dn 10 = false := by cases hq : dn 10 with | false => rfl | true => exact absurd (Hd 10 hq).2 (by decide)
                have d12 : dn 12 = false := by cases hq : dn 12 with | false => rfl | true => exact absurd (Hd 12 hq).2 (by decide)
                have HJ' : Below wr.heap.size wr w1 := by have h := HJ; unfold NevJ at h; rw [d12, d10] at h; exact h
                go_simp; exact kk _ _ (by simp) (by unfold NevJ; dsimp only; rw [show updB dn 6 12 = false by simp [updB, d12], show updB dn 6 10 = false by simp [updB, d10]]; exact HJ') (NevE.below (Below.refl _ _)) ⟨rfl, ⟨fun e => by omega, fun e => by omega, fun e => by omega⟩⟩
              · intro a w1 vs K dn Hd Hb HJ HK HD HN kk
                have e82 := (HD 6 _ 82 rfl rfl rfl).1.trans (HD 6 _ 82 rfl rfl rfl).2.1
                have d10 : dn 10 = false := by cases hq : dn 10 with | false => rfl | true => exact absurd (Hd 10 hq).2 (by decide)
                have d12 : dn 12 = false := by cases hq : dn 12 with | false => rfl | true => exact absurd (Hd 12 hq).2 (by decide)
                have HJ' : Below wr.heap.size wr w1 := by have h := HJ; unfold NevJ at h; rw [d12, d10] at h; exact h
                have ca := (HNC.out w1 HJ').2.1
                go_simp; exact kk _ _ (by simp) (by unfold NevJ; dsimp only; rw [show updB dn 7 12 = false by simp [updB, d12], show updB dn 7 10 = false by simp [updB, d10]]; exact HJ') (NevE.below (Below.refl _ _)) ⟨rfl, ⟨fun e => by omega, fun e => by omega, fun e => by omega⟩⟩
              · intro a w1 vs K dn Hd Hb HJ HK HD HN kk
                have e83 := (HD 7 _ 83 rfl rfl rfl).1.trans (HD 7 _ 83 rfl rfl rfl).2.1
                have d10 : dn 10 = false := by cases hq : dn 10 with | false => rfl | true => exact absurd (Hd 10 hq).2 (by decide)
                have d12 : dn 12 = false := by cases hq : dn 12 with | false => rfl | true => exact absurd (Hd 12 hq).2 (by decide)
                have HJ' : Below wr.heap.size wr w1 := by have h := HJ; unfold NevJ at h; rw [d12, d10] at h; exact h
                obtain ⟨q0, r0⟩ := HD 2 _ 78 rfl rfl rfl
                obtain ⟨g, y1⟩ := r0.2.1 rfl
                have e78 := q0.trans y1
                exact wpo_copy 28 _ _ rfl 79 _ _ Tryz.underlying28 HLIT.out.1 HLIT.out.2.1 2 HLIT.out.2.2.1 HLIT.out.2.2.2 ⟨g, 0, none⟩ (by simpa [Act.eval] using e78) (x.jA m) nk (x.jc m) (by simpa [Act.eval] using e83) (fun i => litC ((p.nev m).getD i lit0)) (HNC.out w1 HJ').2.2 (by omega) (by omega) fun A' c' w' h1 h2 =>
                  kk _ _ (by simp) (by unfold NevJ; dsimp only; rw [show updB dn 8 12 = false by simp [updB, d12], show updB dn 8 10 = false by simp [updB, d10]]; exact (HJ'.trans (h2.mono HJ'.size))) (NevE.below h2) ⟨trivial, ⟨fun e => by omega, fun _ => ⟨A', c', by rw [HNK.out], by rw [HNK.out]; exact h1.mono (by have := HJ'.size; have := HWB.out; omega)⟩, fun e => by omega⟩⟩
              · intro a w1 vs K dn Hd Hb HJ HK HD HN kk
                have d10 : dn 10 = false := by cases hq : dn 10 with | false => rfl | true => exact absurd (Hd 10 hq).2 (by decide)
                have d12 : dn 12 = false := by cases hq : dn 12 with | false => rfl | true => exact absurd (Hd 12 hq).2 (by decide)
                have HJ' : Below wr.heap.size wr w1 := by have h := HJ; unfold NevJ at h; rw [d12, d10] at h; exact h
                obtain ⟨q8, r8⟩ := HD 8 _ 84 rfl rfl rfl
                obtain ⟨A1, c1, y1, y2⟩ := r8.2.2.1 rfl
                have e84 := q8.trans y1
                clear q8 r8 y1
                go_simp; exact kk _ _ (by simp) (by unfold NevJ; dsimp only; rw [show updB dn 9 12 = false by simp [updB, d12], show updB dn 9 10 = false by simp [updB, d10]]; exact (HJ'.alloc HJ'.size _)) (NevE.below ((Below.refl _ _).alloc (Nat.le_refl _) _)) ⟨trivial, ⟨fun e => by omega, fun e => by omega, fun _ => ⟨_, A1, c1, rfl, fun e => by have := ((HQL.out w1 HJ').never.lt _ e.symm).2; omega, Bk.new _ _ _, y2.below ((Below.refl _ _).alloc (Nat.le_refl _) _)⟩⟩⟩
              · intro a w1 vs K dn Hd Hb HJ HK HD HN kk
                have e77 := (HD 1 _ 77 rfl rfl rfl).1.trans (HD 1 _ 77 rfl rfl rfl).2.1
                have d10 : dn 10 = false := by cases hq : dn 10 with | false => rfl | true => exact absurd rfl (Hd 10 hq).1
                have d12 : dn 12 = false := by cases hq : dn 12 with | false => rfl | true => exact absurd (Hd 12 hq).2 (by decide)
                have HJ' : Below wr.heap.size wr w1 := by have h := HJ; unfold NevJ at h; rw [d12, d10] at h; exact h
                obtain ⟨q9, r9⟩ := HD 9 _ 85 rfl rfl rfl
                obtain ⟨g, A1, c1, y1, y2, y3, y4⟩ := r9.2.2.2 rfl
                have e85 := q9.trans y1
                exact wp_append_own w1 (.tmp 77) (.tmp 85) 25 rfl B 28 iN (.slice none 0 0) 1 24 Tryz.underlying25 HNIN.out.1 HNIN.out.2.1 HNIN.out.2.2.1 HNIN.out.2.2.2 rfl (by decide) nv m _ (by simpa [Act.eval] using e77) (HQL.out w1 HJ').never ⟨g, 0, none⟩ 1 1 [.slice A1 (p.nev m).length c1] (by simpa [Act.eval] using e85) rfl (fun j u hj => by rw [Addr.add_lit, Nat.zero_add, y3.cell]; simpa using hj) (fun u hu => by simp at hu; subst hu; rfl) (by unfold maxLen; omega) (by omega) (by have := HJ'.size; have := HWB.out; omega) fun v' w' hown hg _ =>
                  kk _ _ (by simp) (by unfold NevJ; dsimp only; rw [show updB dn 10 12 = false by simp [updB, d12], show updB dn 10 10 = true by simp [updB]]; exact ⟨w1, A1, c1, HJ', y4, hown, hg⟩) (NevE.grow (HQL.out w1 HJ').never hg) ⟨trivial, ⟨fun e => by omega, fun e => by omega, fun e => by omega⟩⟩
              · intro a w1 vs K dn Hd Hb HJ HK HD HN kk
                have e5 := HK 5 (by decide)
                go_simp; exact kk _ _ (by simp) (by have h := HJ; unfold NevJ at h ⊢; simpa [updB, updV] using h) (NevE.below (Below.refl _ _)) ⟨rfl, ⟨fun e => by omega, fun e => by omega, fun e => by omega⟩⟩
              · intro a w1 vs K dn Hd Hb HJ HK HD HN kk
                have e87 := (HD 11 _ 87 rfl rfl rfl).1.trans (HD 11 _ 87 rfl rfl rfl).2.1
                obtain ⟨q10, _⟩ := HD 10 _ 86 rfl rfl rfl
                have d12 : dn 12 = false := by cases hq : dn 12 with | false => rfl | true => exact absurd rfl (Hd 12 hq).1
                have d10 : dn 10 = true := Hb 10 (by decide)
                have hj := HJ
                unfold NevJ at hj
                rw [d12, d10] at hj
                obtain ⟨w0, A1, c1, j1, j2, j3, j4⟩ := hj
                obtain ⟨A9, c9, h9⟩ := owns_slice j3
                have hq0 := HQL.out w0 j1
                have hst := hq0.nev j2 rfl j3 j4 (by have := j1.size; have := HWB.out; omega)
                have hk8 := (KT.grown hq0.never j4).2 qb 27 _ (by decide) hq0.box
                have ca := hk8.cell 3
                have cf := hk8.free 3
                simp at ca
                have e86 := q10.trans h9
                rw [h9] at hst
                go_simp; exact kk undef _ (by simp) (by unfold NevJ; dsimp only; rw [show updB dn 12 12 = true by simp [updB]]; rw [show updV vs 12 undef 10 = vs 10 by simp [updV], h9]; exact ⟨A1, c1, hst.1, (j1.mono HWB.out).trans hst.2⟩) (NevE.store (Only.setCell _ _ _ _) hk8) ⟨trivial, ⟨fun e => by omega, fun e => by omega, fun e => by omega⟩⟩
            · intro vs dn w4n hrr' hw4 hrr
              obtain ⟨A1, c1, hq1, hq2⟩ : ∃ A c, CopyQ w4n B p qb tA vA tc vc iA ic (updA jA m A) (updC jc m c) lv (vs 10) k (m + 1) ∧ Below B wr w4n := by
                have h := hw4
                unfold NevJ at h
                rw [hrr' 12 (by decide)] at h
                rw [if_pos rfl] at h
                exact h
              have HS2 : Hid (CopyQ w4n B p qb tA vA tc vc iA ic (updA jA m A1) (updC jc m c1) lv (vs 10) k (m + 1) ∧ Below B w3 w4n ∧ B ≤ w4n.heap.size) := Lib.hid ⟨hq1, hs.out.2.1.trans hq2, by have := hq2.size; have := hs.out.2.2; omega⟩
              obtain ⟨v10, hv10⟩ : ∃ v, vs 10 = v := ⟨_, rfl⟩
              rw [hv10] at HS2
              clear hrr hw4 hq1 hq2 hv10
              simp only [putAll, Act.put, List.setIfInBounds_toArray, List.set_cons_zero, List.set_cons_succ]
              go_wp2_with fail
              refine ⟨⟨m + 1, v10, _, _, by omega, by go_num, HS2⟩, ?_⟩
              simp [intOf]
              omega
          · obtain rfl : m = nn := by omega
            obtain ⟨lA, lc, rfl⟩ := owns_slice hs.out.1.lines
            obtain ⟨nA, nc, rfl⟩ := owns_slice hs.out.1.never
            have hone : ∀ i, i < p.lines.length → 1 ≤ (p.line i).valves.length := fun i hi => by
              have hlo := lineOk_of HPB.out i hi
              unfold lineOk at hlo
              simp only [Bool.and_eq_true, inB_iff] at hlo
              omega
            obtain ⟨hpl, hturn⟩ := hs.out.1.done HNLL.out HNN.out hl1 hl3 hone (fun i hi => never_pos HPB.out hi) (by omega) (by omega)
            obtain ⟨xq, hxq⟩ : ∃ xq : PV, (⟨tA, tc, vA, vc, lA, lc, nA, nc, iA, ic, jA, jc⟩ : PV) = xq := ⟨_, rfl⟩
            have hbx := hs.out.1.box
            have hbx2 : Bk wr qb 27 (plantA xq p) := by rw [← hxq, plantA, HNLL.out, HNN.out]; exact hbx
            rw [hxq] at hpl hturn
            have HPX := Lib.hid hbx2
            have hnw := new_any wr xq p hpl
            have HNW := Lib.hid hnw
            have HTN := Lib.hid hturn
            have HBR : Hid (Below W.heap.size W wr) := Lib.hid (HB3'.out wr hs.out.2.1)
            have HBW : Hid (B ≤ wr.heap.size) := Lib.hid hs.out.2.2
            clear hpl hturn hxq hbx hbx2 hnw hs hone
            go_wp2_with (refine wpLoadAt rfl 27 _ rfl qb 0 rfl (plantA xq p) _ (fun j u hj => by rw [Nat.zero_add]; exact (HPX.out.cell j).trans hj) und_plant rfl info_plant ?_)
            clear p3
            refine HNW.out.mono ?_
            rintro e w5 ⟨hb5, hx⟩
            rw [if_pos HPB.out] at hx
            obtain ⟨X, rfl, hsys, hlo⟩ := hx
            letI : Exc := X.exc
            have HSY := Lib.hid hsys
            have HLO : Hid (W.heap.size ≤ X.lo) := Lib.hid (Nat.le_trans HBR.out.size hlo)
            have HT5 : Hid (TurnQ w5 B X.lo qb xq p) := Lib.hid (HTN.out w5 X.lo hb5 hlo)
            have HB5 : Hid (Below W.heap.size W w5) := Lib.hid (HBR.out.trans (hb5.mono HBR.out.size))
            have HWB5 : Hid (W.heap.size ≤ B) := Lib.hid HB44.out.2.2
            clear hb5 hsys hlo HNW HTN HPX HNN HNLL HC3 HC2 HS1 HQ0 HB44 HINT HLIN HNIN HLIT HBR HBW HB3'
            obtain ⟨nt, hnt⟩ : ∃ m, p.tanks.length = m := ⟨_, rfl⟩
            obtain ⟨nv, hnv⟩ : ∃ m, p.valves.length = m := ⟨_, rfl⟩
            obtain ⟨nl, hnl⟩ : ∃ m, p.lines.length = m := ⟨_, rfl⟩
            obtain ⟨nn, hnn⟩ : ∃ m, p.never.length = m := ⟨_, rfl⟩
            have HLS := plantB_sizes HPB.out
            rw [hnt, hnv, hnl, hnn] at HLS
            have hs1 := HLS.1; have hs2 := HLS.2.1; have hs3 := HLS.2.2.1; have hs4 := HLS.2.2.2.1
            have HNT := Lib.hid hnt; have HNV := Lib.hid hnv; have HNLI := Lib.hid hnl; have HNNE := Lib.hid hnn
            have HBX : Hid (∀ z, TurnQ z B X.lo qb xq p → z.cell? ⟨qb, 0, none⟩ = some (.slice xq.tA nt xq.tc) ∧ z.cell? ⟨qb, 1, none⟩ = some (.slice xq.vA nv xq.vc) ∧ z.cell? ⟨qb, 2, none⟩ = some (.slice xq.lA nl xq.lc) ∧ z.cell? ⟨qb, 3, none⟩ = some (.slice xq.nA nn xq.nc)) := Lib.hid fun z hz => by
              rw [← hnt, ← hnv, ← hnl, ← hnn]
              exact ⟨hz.box.cell 0, hz.box.cell 1, hz.box.cell 2, hz.box.cell 3⟩
            clear HLS hnt hnv hnl hnn
            go_wp2_with fail
            go_loopw [11] (fun i wr => ∃ m : Nat, m ≤ nt ∧ i = .int .i64 m ∧ Hid (TurnQ wr B X.lo qb xq p ∧ Mid B X.lo w5 wr)) (fun i _ => nt - (intOf i).toNat)
            case atStart => exact ⟨0, Nat.zero_le _, rfl, Lib.hid ⟨HT5.out, Mid.refl _ _ _⟩⟩
            case round =>
              obtain ⟨m, hm, rfl, hs⟩ := hrel
              obtain ⟨q0, _, _, _⟩ := HBX.out wr hs.out.1
              by_cases hlm : m < nt
              · have hmi : (m : Int) < (nt : Int) := by omega
                have h0m : (0 : Int) ≤ (m : Int) := by omega
                obtain ⟨g, cur, e1, hg1, hg2, hbk, hsz⟩ := hs.out.1.tanks
                rw [HNT.out] at hsz
                obtain ⟨g', e2, _, _, ht⟩ := hs.out.1.tank (m * 4 + 1) (.int .i64 1)
                obtain rfl : g = g' := by rw [e1] at e2; simpa using e2
                obtain ⟨u, hu⟩ := hbk.has (j := m * 4 + 1) (by omega)
                have fu := hbk.free (m * 4 + 1)
                have HS2 : Hid (TurnQ (wr.setCell ⟨g, m * 4 + 1, none⟩ (.int .i64 1)) B X.lo qb xq p ∧ Mid B X.lo w5 (wr.setCell ⟨g, m * 4 + 1, none⟩ (.int .i64 1))) := Lib.hid ⟨ht, hs.out.2.set hg1 hg2⟩
                rw [e1] at q0
                clear e1 e2 hbk hsz ht hs
                go_wp2_with fail
                go_roundw
                case rel => first | exact ⟨m + 1, by omega, by go_num, HS2⟩ | ((repeat apply Exists.intro); exact ⟨⟨m + 1, by omega, by go_num, HS2⟩, rfl⟩)
                case measure => simp [intOf]; omega
              · obtain rfl : m = nt := by omega
                have HS2 := Lib.hid hs.out
                clear hs
                go_wp2_with fail
                clear q0
                go_loopw [12] (fun i wr => ∃ q : Nat, q ≤ nv ∧ i = .int .i64 q ∧ Hid (TurnQ wr B X.lo qb xq p ∧ Mid B X.lo w5 wr)) (fun i _ => nv - (intOf i).toNat)
                case atStart => exact ⟨0, Nat.zero_le _, rfl, HS2⟩
                case round =>
                  obtain ⟨q, hq, rfl, hs⟩ := hrel
                  obtain ⟨_, q1, _, _⟩ := HBX.out wr hs.out.1
                  by_cases hlq : q < nv
                  · have hqi : (q : Int) < (nv : Int) := by omega
                    have h0q : (0 : Int) ≤ (q : Int) := by omega
                    obtain ⟨g, cur, e1, hg1, hg2, hbk, hsz⟩ := hs.out.1.valves
                    rw [HNV.out] at hsz
                    obtain ⟨g', e2, _, _, ht⟩ := hs.out.1.valve (q * 3 + 1) (.int .i64 8)
                    obtain rfl : g = g' := by rw [e1] at e2; simpa using e2
                    obtain ⟨u, hu⟩ := hbk.has (j := q * 3 + 1) (by omega)
                    have fu := hbk.free (q * 3 + 1)
                    have HS3 : Hid (TurnQ (wr.setCell ⟨g, q * 3 + 1, none⟩ (.int .i64 8)) B X.lo qb xq p ∧ Mid B X.lo w5 (wr.setCell ⟨g, q * 3 + 1, none⟩ (.int .i64 8))) := Lib.hid ⟨ht, hs.out.2.set hg1 hg2⟩
                    rw [e1] at q1
                    clear e1 e2 hbk hsz ht hs
                    go_wp2_with fail
                    go_roundw
                    case rel => first | exact ⟨q + 1, by omega, by go_num, HS3⟩ | ((repeat apply Exists.intro); exact ⟨⟨q + 1, by omega, by go_num, HS3⟩, rfl⟩)
                    case measure => simp [intOf]; omega
                  · obtain rfl : q = nv := by omega
                    have HS3 := Lib.hid hs.out
                    clear hs
                    go_wp2_with fail
                    clear q1
                    go_loopw [13] (fun i wr => ∃ r : Nat, r ≤ nl ∧ i = .int .i64 r ∧ Hid (TurnQ wr B X.lo qb xq p ∧ Mid B X.lo w5 wr)) (fun i _ => nl - (intOf i).toNat)
                    case atStart => exact ⟨0, Nat.zero_le _, rfl, HS3⟩
                    case round =>
                      obtain ⟨r, hr, rfl, hs⟩ := hrel
                      obtain ⟨_, _, q2, _⟩ := HBX.out wr hs.out.1
                      by_cases hlr : r < nl
                      · have hri : (r : Int) < (nl : Int) := by omega
                        have h0r : (0 : Int) ≤ (r : Int) := by omega
                        have hrp : r < p.lines.length := by rw [HNLI.out]; exact hlr
                        obtain ⟨g, cur, e1, hg1, hg2, hbk, hcc⟩ := hs.out.1.lines (by omega)
                        have hc4 := hcc r hrp
                        have hsz := (Array.getElem?_eq_some_iff.1 hc4).1
                        obtain ⟨g', e2, _, _, ht⟩ := hs.out.1.line (by omega) r (.int .i64 1)
                        obtain rfl : g = g' := by rw [e1] at e2; simpa using e2
                        obtain ⟨u, hu⟩ := hbk.has (j := r * 5 + 2) (by omega)
                        have fu := hbk.free (r * 5 + 2)
                        have HS4 : Hid (TurnQ (wr.setCell ⟨g, r * 5 + 2, none⟩ (.int .i64 1)) B X.lo qb xq p ∧ Mid B X.lo w5 (wr.setCell ⟨g, r * 5 + 2, none⟩ (.int .i64 1))) := Lib.hid ⟨ht, hs.out.2.set hg1 hg2⟩
                        rw [e1] at q2
                        have HE1 := Lib.hid e1
                        clear e1 e2 hbk hsz ht hs hcc hc4
                        go_upto_region 29 with (fail)
                        obtain ⟨wq, hwq⟩ : ∃ wq, wr.setCell ⟨g, r * 5 + 2, none⟩ (.int .i64 1) = wq := ⟨_, rfl⟩
                        rw [hwq] at HS4 ⊢
                        clear hwq hu fu q2
                        obtain ⟨_, _, q2, _⟩ := HBX.out wq HS4.out.1
                        rw [HE1.out] at q2
                        obtain ⟨g2, cur2, e3, hg3, hg4, hbk2, hcc2⟩ := HS4.out.1.lines (by omega)
                        obtain rfl : g = g2 := by rw [HE1.out] at e3; simpa using e3
                        obtain ⟨gi, curi, e4, hg5, hg6, hbki, hszi⟩ := HS4.out.1.lval r hrp
                        obtain ⟨gi', e5, _, _, ht2⟩ := HS4.out.1.lv hrp (.int .i64 0)
                        obtain rfl : gi = gi' := by rw [e4] at e5; simpa using e5
                        have hl4 : wq.cell? ⟨g, r * 5 + 4, none⟩ = some (.slice (some ⟨gi, 0, none⟩) (p.line r).valves.length (xq.ic r)) := by rw [← e4]; exact (hbk2.cell _).trans (hcc2 r hrp)
                        obtain ⟨ui, hui⟩ := hbki.has (j := 0) (by omega)
                        have fui := hbki.free 0
                        have hone : 1 ≤ (p.line r).valves.length := by
                          have hlo := lineOk_of HPB.out r hrp
                          unfold lineOk at hlo
                          simp only [Bool.and_eq_true, inB_iff] at hlo
                          omega
                        obtain ⟨nvr, hnvr⟩ : ∃ q, (p.line r).valves.length = q := ⟨_, rfl⟩
                        rw [hnvr] at hl4 hone
                        have hone' : (0 : Int) < (nvr : Int) := by omega
                        have HS5 : Hid (TurnQ (wq.setCell ⟨gi, 0, none⟩ (.int .i64 0)) B X.lo qb xq p ∧ Mid B X.lo w5 (wq.setCell ⟨gi, 0, none⟩ (.int .i64 0))) := Lib.hid ⟨ht2, HS4.out.2.set hg5 hg6⟩
                        clear hbk2 hcc2 e3 e4 e5 hbki hszi ht2 hnvr HS4
                        go_wp2_with fail
                        go_roundw
                        case rel => first | exact ⟨r + 1, by omega, by go_num, HS5⟩ | ((repeat apply Exists.intro); exact ⟨⟨r + 1, by omega, by go_num, HS5⟩, rfl⟩)
                        case measure => simp [intOf]; omega
                      · obtain rfl : r = nl := by omega
                        have HS4 := Lib.hid hs.out
                        clear hs
                        go_wp2_with fail
                        clear q2
                        go_loopw [14] (fun i wr => ∃ s : Nat, s ≤ nn ∧ i = .int .i64 s ∧ Hid (TurnQ wr B X.lo qb xq p ∧ Mid B X.lo w5 wr)) (fun i _ => nn - (intOf i).toNat)
                        case atStart => exact ⟨0, Nat.zero_le _, rfl, HS4⟩
                        case round =>
                          obtain ⟨s, hs', rfl, hs⟩ := hrel
                          obtain ⟨_, _, _, q3⟩ := HBX.out wr hs.out.1
                          by_cases hls : s < nn
                          · have hsi : (s : Int) < (nn : Int) := by omega
                            have h0s : (0 : Int) ≤ (s : Int) := by omega
                            have hsp : s < p.never.length := by rw [HNNE.out]; exact hls
                            obtain ⟨g, cur, e1, hg1, hg2, hbk, hcc⟩ := hs.out.1.never (by omega)
                            obtain ⟨gj, curj, e4, hg5, hg6, hbkj, _⟩ := hs.out.1.nval s hsp
                            obtain ⟨nj, hnj⟩ : ∃ q, (p.nev s).length = q := ⟨_, rfl⟩
                            have hnj1 : 1 ≤ nj := by rw [← hnj]; exact never_pos HPB.out hsp
                            have hnj2 : (0 : Int) < (nj : Int) := by omega
                            have HNC : Hid (∀ z, TurnQ z B X.lo qb xq p → z.cell? ⟨qb, 3, none⟩ = some (.slice (some ⟨g, 0, none⟩) nn xq.nc) ∧ z.cell? ⟨g, s, none⟩ = some (.slice (some ⟨gj, 0, none⟩) nj (xq.jc s)) ∧ (∃ b : Bool, z.cell? ⟨gj, 1, none⟩ = some (.bool b)) ∧ z.frozen? ⟨gj, 1, none⟩ = false) := Lib.hid fun z hz => by
                              obtain ⟨g', cur', e1', _, _, hbk', hcc'⟩ := hz.never (by omega)
                              obtain rfl : g = g' := by rw [e1] at e1'; simpa using e1'
                              obtain ⟨gj', curj', e4', _, _, hbkj', b, hb⟩ := hz.nval s hsp
                              obtain rfl : gj = gj' := by rw [e4] at e4'; simpa using e4'
                              refine ⟨by rw [← e1]; exact (HBX.out z hz).2.2.2, ?_, ⟨b, (hbkj'.cell 1).trans hb⟩, hbkj'.free 1⟩
                              have := hcc' s hsp
                              rw [hnj, e4] at this
                              exact (hbk'.cell s).trans this
                            have HST : Hid (∀ z (b : Bool), TurnQ z B X.lo qb xq p → Mid B X.lo w5 z → TurnQ (z.setCell ⟨gj, 1, none⟩ (.bool b)) B X.lo qb xq p ∧ Mid B X.lo w5 (z.setCell ⟨gj, 1, none⟩ (.bool b))) := Lib.hid fun z b hz hm => by
                              obtain ⟨gj', e5, h1, h2, ht2⟩ := hz.nlit hsp b
                              obtain rfl : gj = gj' := by rw [e4] at e5; simpa using e5
                              exact ⟨ht2, hm.set h1 h2⟩
                            have HS5 := Lib.hid hs.out
                            clear e1 hbk hcc e4 hbkj hnj hs
                            go_wp2_with fail
                            clear q3
                            refine wp_region_steps (by kernel_rfl) (by kernel_rfl) (fun w1 => TurnQ w1 B X.lo qb xq p ∧ Mid B X.lo w5 w1) (fun _ _ _ => True)
                              (fun ix u d w1 => (match ix with
                                | 0 => u = .pointer (some ⟨qb, 3, none⟩)
                                | 1 => u = .slice (some ⟨g, 0, none⟩) nn xq.nc
                                | 2 => u = .int .i64 s
                                | 3 => u = .pointer (some ⟨g, s, none⟩)
                                | 4 => u = .slice (some ⟨gj, 0, none⟩) nj (xq.jc s)
                                | 5 => u = .pointer (some ⟨qb, 3, none⟩)
                                | 6 => u = .slice (some ⟨g, 0, none⟩) nn xq.nc
                                | 7 => u = .int .i64 s
                                | 8 => u = .pointer (some ⟨g, s, none⟩)
                                | 9 => u = .slice (some ⟨gj, 0, none⟩) nj (xq.jc s)
                                | 10 => u = .pointer (some ⟨gj, 0, none⟩)
                                | 11 => u = .pointer (some ⟨gj, 1, none⟩)
                                | 12 => True
                                | 13 => True
                                | 14 => u = .pointer (some ⟨gj, 0, none⟩)
                                | 15 => u = .pointer (some ⟨gj, 1, none⟩)
                                | _ => True) ∧ (ix = 12 ∨ ix = 13 → ∃ b : Bool, u = .bool b)) ⟨HS5.out.1.drew, HS5.out.2.drew⟩ (fun i j hij _ u d w1 w2 hr _ he => hr) ?_ ?_
                            · refine ⟨?_, ?_, ?_, ?_, ?_, ?_, ?_, ?_, ?_, ?_, ?_, ?_, ?_, ?_, ?_, ?_, ?_, trivial⟩
                              · intro a w1 vs K HJ HK HD HN kk
                                have e5 := HK 5 (by decide)
                                go_simp; exact kk _ _ (by simp) HJ trivial ⟨rfl, (fun e => by omega)⟩
                              · intro a w1 vs K HJ HK HD HN kk
                                have e149 := (HD 0 _ 149 rfl rfl rfl).1.trans (HD 0 _ 149 rfl rfl rfl).2.1
                                have ca := (HNC.out w1 HJ.1).1
                                go_simp; exact kk _ _ (by simp) HJ trivial ⟨rfl, (fun e => by omega)⟩
                              · intro a w1 vs K HJ HK HD HN kk
                                have e14 := HK 14 (by decide)
                                go_simp; exact kk _ _ (by simp) HJ trivial ⟨rfl, (fun e => by omega)⟩
                              · intro a w1 vs K HJ HK HD HN kk
                                have e150 := (HD 1 _ 150 rfl rfl rfl).1.trans (HD 1 _ 150 rfl rfl rfl).2.1
                                have e151 := (HD 2 _ 151 rfl rfl rfl).1.trans (HD 2 _ 151 rfl rfl rfl).2.1
                                go_simp; exact kk _ _ (by simp) HJ trivial ⟨rfl, (fun e => by omega)⟩
                              · intro a w1 vs K HJ HK HD HN kk
                                have e152 := (HD 3 _ 152 rfl rfl rfl).1.trans (HD 3 _ 152 rfl rfl rfl).2.1
                                have ca := (HNC.out w1 HJ.1).2.1
                                go_simp; exact kk _ _ (by simp) HJ trivial ⟨rfl, (fun e => by omega)⟩
                              · intro a w1 vs K HJ HK HD HN kk
                                have e5 := HK 5 (by decide)
                                go_simp; exact kk _ _ (by simp) HJ trivial ⟨rfl, (fun e => by omega)⟩
                              · intro a w1 vs K HJ HK HD HN kk
                                have e154 := (HD 5 _ 154 rfl rfl rfl).1.trans (HD 5 _ 154 rfl rfl rfl).2.1
                                have ca := (HNC.out w1 HJ.1).1
                                go_simp; exact kk _ _ (by simp) HJ trivial ⟨rfl, (fun e => by omega)⟩
                              · intro a w1 vs K HJ HK HD HN kk
                                have e14 := HK 14 (by decide)
                                go_simp; exact kk _ _ (by simp) HJ trivial ⟨rfl, (fun e => by omega)⟩
                              · intro a w1 vs K HJ HK HD HN kk
                                have e155 := (HD 6 _ 155 rfl rfl rfl).1.trans (HD 6 _ 155 rfl rfl rfl).2.1
                                have e156 := (HD 7 _ 156 rfl rfl rfl).1.trans (HD 7 _ 156 rfl rfl rfl).2.1
                                go_simp; exact kk _ _ (by simp) HJ trivial ⟨rfl, (fun e => by omega)⟩
                              · intro a w1 vs K HJ HK HD HN kk
                                have e157 := (HD 8 _ 157 rfl rfl rfl).1.trans (HD 8 _ 157 rfl rfl rfl).2.1
                                have ca := (HNC.out w1 HJ.1).2.1
                                go_simp; exact kk _ _ (by simp) HJ trivial ⟨rfl, (fun e => by omega)⟩
                              · intro a w1 vs K HJ HK HD HN kk
                                have e158 := (HD 9 _ 158 rfl rfl rfl).1.trans (HD 9 _ 158 rfl rfl rfl).2.1
                                have hnj3 : 0 < nj := by omega
                                go_simp; exact kk _ _ (by simp) HJ trivial ⟨rfl, (fun e => by omega)⟩
                              · intro a w1 vs K HJ HK HD HN kk
                                have e159 := (HD 10 _ 159 rfl rfl rfl).1.trans (HD 10 _ 159 rfl rfl rfl).2.1
                                go_simp; exact kk _ _ (by simp) HJ trivial ⟨rfl, (fun e => by omega)⟩
                              · intro a w1 vs K HJ HK HD HN kk
                                have e160 := (HD 11 _ 160 rfl rfl rfl).1.trans (HD 11 _ 160 rfl rfl rfl).2.1
                                obtain ⟨b, ca⟩ := (HNC.out w1 HJ.1).2.2.1
                                go_simp; exact kk _ _ (by simp) HJ trivial ⟨trivial, fun _ => ⟨_, rfl⟩⟩
                              · intro a w1 vs K HJ HK HD HN kk
                                obtain ⟨q12, r12⟩ := HD 12 _ 161 rfl rfl rfl
                                obtain ⟨b, y1⟩ := r12.2 (Or.inl rfl)
                                have e161 := q12.trans y1
                                clear q12 r12 y1
                                go_simp; exact kk _ _ (by simp) HJ trivial ⟨trivial, fun _ => ⟨_, rfl⟩⟩
                              · intro a w1 vs K HJ HK HD HN kk
                                have e153 := (HD 4 _ 153 rfl rfl rfl).1.trans (HD 4 _ 153 rfl rfl rfl).2.1
                                have hnj3 : 0 < nj := by omega
                                go_simp; exact kk _ _ (by simp) HJ trivial ⟨rfl, (fun e => by omega)⟩
                              · intro a w1 vs K HJ HK HD HN kk
                                have e163 := (HD 14 _ 163 rfl rfl rfl).1.trans (HD 14 _ 163 rfl rfl rfl).2.1
                                go_simp; exact kk _ _ (by simp) HJ trivial ⟨rfl, (fun e => by omega)⟩
                              · intro a w1 vs K HJ HK HD HN kk
                                have e164 := (HD 15 _ 164 rfl rfl rfl).1.trans (HD 15 _ 164 rfl rfl rfl).2.1
                                obtain ⟨q13, r13⟩ := HD 13 _ 162 rfl rfl rfl
                                obtain ⟨b, y1⟩ := r13.2 (Or.inr rfl)
                                have e162 := q13.trans y1
                                clear q13 r13 y1
                                obtain ⟨b0, ca⟩ := (HNC.out w1 HJ.1).2.2.1
                                have cf := (HNC.out w1 HJ.1).2.2.2
                                have hst := HST.out w1 b HJ.1 HJ.2
                                go_simp; exact kk undef _ (by simp) hst trivial ⟨trivial, (fun e => by omega)⟩
                            · intro vs w6n hw6 hrr
                              have HS6 : Hid (TurnQ w6n B X.lo qb xq p ∧ Mid B X.lo w5 w6n) := Lib.hid hw6
                              clear hrr hw6
                              simp only [putAll, Act.put, List.setIfInBounds_toArray, List.set_cons_zero, List.set_cons_succ]
                              go_wp2_with fail
                              go_roundw
                              case rel => first | exact ⟨s + 1, by omega, by go_num, HS6⟩ | ((repeat apply Exists.intro); exact ⟨⟨s + 1, by omega, by go_num, HS6⟩, rfl⟩)
                              case measure => simp [intOf]; omega
                          · obtain rfl : s = nn := by omega
                            have HBM : Hid (Below W.heap.size W wr) := Lib.hid (HB5.out.trans (hs.out.2.below.mono HWB5.out))
                            have HSM : Hid (SysAt wr X (startB p)) := Lib.hid (hs.out.2.sys HSY.out (Nat.le_refl _))
                            clear hs HT5 HSY HS2 HS3 HS4 HBX
                            obtain ⟨c0, c1, c2, c3⟩ := HC4.out wr HBM.out
                            go_upto_region 34 with (fail)
                            clear q3
                            have cb := refBegin_any wr x p (HP.out wr HBM.out) (short_of HPB.out) HSM.out.hi.2.2.2.2
                            simp only [plantA] at cb
                            have HCB := Lib.hid cb
                            clear cb
                            go_wp2_with fail
                            refine HCB.out.mono ?_
                            rintro e w4 ⟨R, rfl, hr4, hb4⟩
                            have HB4 : Hid (Below W.heap.size W w4) := Lib.hid (HBM.out.trans (hb4.mono HBM.out.size))
                            have HS4 := Lib.hid (HSM.out.below hb4)
                            have HR4 := Lib.hid hr4
                            have HBk := Lib.hid (Bk.new w4 53 (refA nilR 0 0 0))
                            clear hb4 hr4 c0 c1 c2 c3 HCB
                            go_wp2_with (refine wpStoreAt rfl rfl 53 _ _ rfl w4.heap.size 0 rfl (SysA R (startB p)) rfl 53 _ HBk.out (by show 0 + 9 ≤ 9; omega) (refA_one _ _ _ _) info_state ?_; intro wf hkf hof)
                            have HSD0 : Hid (Side W X w4.heap.size p wf (startB p) (startB p)) := Lib.hid (Side.start (R0 := nilR) (a := 0) (b := 0) (c := 0) HS4.out HLO.out HB4.out HR4.out rfl rfl rfl (by rw [splA_all _ _ (by rw [refA_size, refA_size])] at hkf; exact hkf) hof)
                            obtain ⟨sx, hsx⟩ : ∃ sx, w4.heap.size = sx := ⟨_, rfl⟩
                            rw [hsx] at HSD0 ⊢
                            clear hkf hof HBk hsx HR4 HS4 HSM
                            go_wp2_with fail
                            go_loopw [16] (fun i wr => ∃ (k : Nat) (St : Sys), k ≤ n ∧ i = .int .i64 k ∧ Hid (Side W X sx p wr St St)) (fun i _ => n - (intOf i).toNat)
                            case atStart => exact ⟨0, startB p, Nat.zero_le _, rfl, HSD0⟩
                            case round =>
                              obtain ⟨k, St, hk, rfl, hsd⟩ := hrel
                              by_cases hlt : k < n
                              · have hki : (k : Int) < (n : Int) := by omega
                                have hlt' : k < l.length := by rw [HNL.out]; exact hlt
                                obtain ⟨b, off, rfl, hB, d0, d1, d2, d3⟩ := (HL.out wr hsd.out.below).at4 hlt'
                                obtain ⟨⟨what, a1, a2, a3⟩, hact⟩ : ∃ act, l.getD k act0 = act := ⟨_, rfl⟩
                                rw [hact] at d0 d1 d2 d3
                                simp only [actC] at d0 d1 d2 d3
                                have HACTN := Lib.hid hact
                                clear hact
                                obtain ⟨R, hk1, hk2⟩ := hsd.out.st
                                have htp := hsd.out.tp
                                have hsz := hsd.out.below.size
                                have hwW := HWs.out
                                have hsxl := hk1.lt
                                have HPK : Hid (∀ z, Below wr.heap.size wr z → Bk z w.heap.size 27 (plantA x p)) := Lib.hid fun z hz => HC.out z (hsd.out.below.trans (hz.mono hsz))
                                have HBSX : Hid (∀ z, Below wr.heap.size wr z → Bk z sx 53 (RA p R)) := Lib.hid fun z hz => by
                                  rw [← RA_of htp]; exact hk1.below hz hk1.lt
                                have HACT : Hid (∀ z, Below wr.heap.size wr z → ∀ j u, (#[.int .i64 what, .int .i64 a1, .int .i64 a2, .int .i64 a3] : Array Value)[j]? = some u → z.cell? ⟨b, off + k * 4 + j, none⟩ = some u) := Lib.hid fun z hz j u hj => by
                                  refine (hz.cell (p := ⟨b, off + k * 4 + j, none⟩) hB).trans ?_
                                  match j, hj with
                                  | 0, hj => simp at hj; subst hj; exact d0
                                  | 1, hj => simp at hj; subst hj; exact d1
                                  | 2, hj => simp at hj; subst hj; exact d2
                                  | 3, hj => simp at hj; subst hj; exact d3
                                  | j + 4, hj => simp at hj
                                obtain ⟨E, hE⟩ : ∃ E, (doesB St what a1 a2 a3).1 = E := ⟨_, rfl⟩
                                obtain ⟨T, hT⟩ : ∃ T, (doesB St what a1 a2 a3).2 = T := ⟨_, rfl⟩
                                have hTp : T.p = p := by rw [← hT, doesB_p]; exact htp
                                have HDUE : Hid (∀ z, Below wr.heap.size wr z → Calls Tryz.prog 25 #[.agg (plantA x p), .agg (RA p R), .agg #[.int .i64 what, .int .i64 a1, .int .i64 a2, .int .i64 a3]] z
                                    fun e w' => ∃ R', e = .returned (.tuple #[.agg (RA p R'), .int .i64 E]) ∧ @RefAt X.exc w' w'.heap.size R' T ∧ Below z.heap.size z w') := Lib.hid fun z hz => by
                                  have h := due_any z x R St (by rw [htp]; exact HP.out z (hsd.out.below.trans (hz.mono hsz))) (((RefB.at_ hk2).below hz).mono hz.size) hsd.out.sys.ok what a1 a2 a3
                                  rw [show plantA x St.p = plantA x p from by rw [htp], RA_of htp, hE, hT] at h
                                  refine h.mono ?_
                                  rintro e w' ⟨R', rfl, h1, h2⟩
                                  exact ⟨R', by rw [RA_of hTp], h1, h2⟩
                                have HE := Lib.hid hE
                                have HT := Lib.hid hT
                                have HTP := Lib.hid hTp
                                have HXN : Hid (X.hi ≤ wr.heap.size) := Lib.hid hsd.out.sys.hi.2.2.2.2
                                have HBZ := Lib.hid hB
                                clear d0 d1 d2 d3 hk1 hk2 htp hwW hE hT hTp hsxl hsz hB
                                go_wp2_with fail
                                refine wp_region_steps (by kernel_rfl) (by kernel_rfl) (fun w1 => Below wr.heap.size wr w1) (SideE X T 11)
                                  (fun ix u d w1 => (match ix with
                                    | 0 => u = .agg (plantA x p)
                                    | 1 => u = .agg (RA p R)
                                    | 2 => u = .slice (some ⟨b, off, none⟩) n c
                                    | 3 => u = .int .i64 k
                                    | 4 => u = .pointer (some ⟨b, off + k * 4, none⟩)
                                    | 5 => u = .agg #[.int .i64 what, .int .i64 a1, .int .i64 a2, .int .i64 a3]
                                    | 6 => True
                                    | 7 => True
                                    | 8 => True
                                    | 9 => u = .int .i64 E
                                    | 10 => True
                                    | 11 => True
                                    | _ => u = .int .i64 E) ∧ SideR X p E T wr ix u d w1) (Below.refl _ _).drew (fun i j hij _ u d w1 w2 ⟨hr1, hr2⟩ _ he => ⟨hr1, hr2.keep hij he⟩) ?_ ?_
                                · refine ⟨?_, ?_, ?_, ?_, ?_, ?_, ?_, ?_, ?_, ?_, ?_, ?_, ?_, trivial⟩
                                  · intro a w1 vs K HJ HK HD HN kk
                                    have e2 := HK 2 (by decide)
                                    exact wpo_loadS 27 (.tmp 2) rfl w.heap.size 0 (by simpa [Act.eval] using e2) (plantA x p) _ (fun j u hj => by rw [Nat.zero_add]; exact ((HPK.out w1 HJ).cell j).trans hj) und_plant rfl info_plant (kk _ _ (by simp) HJ (SideE.same _ (by omega)) ⟨rfl, ⟨fun e => by omega, fun e => by omega, fun e => by omega, fun e => by omega⟩⟩)
                                  · intro a w1 vs K HJ HK HD HN kk
                                    have e15 := HK 15 (by decide)
                                    exact wpo_loadS 53 (.tmp 15) rfl sx 0 (by simpa [Act.eval] using e15) (RA p R) _ (fun j u hj => by rw [Nat.zero_add]; exact ((HBSX.out w1 HJ).cell j).trans hj) und_state rfl info_state (kk _ _ (by simp) HJ (SideE.same _ (by omega)) ⟨rfl, ⟨fun e => by omega, fun e => by omega, fun e => by omega, fun e => by omega⟩⟩)
                                  · intro a w1 vs K HJ HK HD HN kk
                                    have e1 := HK 1 (by decide)
                                    go_simp; exact kk _ _ (by simp) HJ (SideE.same _ (by omega)) ⟨rfl, ⟨fun e => by omega, fun e => by omega, fun e => by omega, fun e => by omega⟩⟩
                                  · intro a w1 vs K HJ HK HD HN kk
                                    have e16 := HK 16 (by decide)
                                    go_simp; exact kk _ _ (by simp) HJ (SideE.same _ (by omega)) ⟨rfl, ⟨fun e => by omega, fun e => by omega, fun e => by omega, fun e => by omega⟩⟩
                                  · intro a w1 vs K HJ HK HD HN kk
                                    have e176 := (HD 2 _ 176 rfl rfl rfl).1.trans (HD 2 _ 176 rfl rfl rfl).2.1
                                    have e177 := (HD 3 _ 177 rfl rfl rfl).1.trans (HD 3 _ 177 rfl rfl rfl).2.1
                                    go_simp; exact kk _ _ (by simp) HJ (SideE.same _ (by omega)) ⟨rfl, ⟨fun e => by omega, fun e => by omega, fun e => by omega, fun e => by omega⟩⟩
                                  · intro a w1 vs K HJ HK HD HN kk
                                    have e178 := (HD 4 _ 178 rfl rfl rfl).1.trans (HD 4 _ 178 rfl rfl rfl).2.1
                                    exact wpo_loadS 57 (.tmp 178) rfl b (off + k * 4) (by simpa [Act.eval] using e178) #[.int .i64 what, .int .i64 a1, .int .i64 a2, .int .i64 a3] _ (HACT.out w1 HJ) und_actS rfl info_act (kk _ _ (by simp) HJ (SideE.same _ (by omega)) ⟨rfl, ⟨fun e => by omega, fun e => by omega, fun e => by omega, fun e => by omega⟩⟩)
                                  · intro a w1 vs K HJ HK HD HN kk
                                    have e174 := (HD 0 _ 174 rfl rfl rfl).1.trans (HD 0 _ 174 rfl rfl rfl).2.1
                                    have e175 := (HD 1 _ 175 rfl rfl rfl).1.trans (HD 1 _ 175 rfl rfl rfl).2.1
                                    have e179 := (HD 5 _ 179 rfl rfl rfl).1.trans (HD 5 _ 179 rfl rfl rfl).2.1
                                    exact wpo_call 25 _ _ rfl #[.agg (plantA x p), .agg (RA p R), .agg #[.int .i64 what, .int .i64 a1, .int .i64 a2, .int .i64 a3]] (by simp [Act.eval, e174, e175, e179]) (fun args w => by kernel_rfl)
                                      ((HDUE.out w1 HJ).mono fun e w' ⟨R', he, hr, hb⟩ => ⟨_, he, kk _ _ (by simp) (HJ.trans (hb.mono HJ.size)) (SideE.below (by omega) hb) ⟨trivial, ⟨fun _ => ⟨R', rfl, hr⟩, fun e => by omega, fun e => by omega, fun e => by omega⟩⟩⟩)
                                  · intro a w1 vs K HJ HK HD HN kk
                                    obtain ⟨q6, r6⟩ := HD 6 _ 180 rfl rfl rfl
                                    obtain ⟨R', x1, x2⟩ := r6.2.1 (Or.inl rfl)
                                    exact wpo_move (.tmp 180) _ (Or.inl rfl) (by simpa [Act.eval] using q6.trans x1) (kk _ _ (by simp) HJ (SideE.same _ (by omega)) ⟨trivial, ⟨fun _ => ⟨_, rfl, x2⟩, fun e => by omega, fun e => by omega, fun e => by omega⟩⟩)
                                  · intro a w1 vs K HJ HK HD HN kk
                                    obtain ⟨q7, r7⟩ := HD 7 _ 173 rfl rfl rfl
                                    obtain ⟨R', x1, x2⟩ := r7.2.1 (Or.inr rfl)
                                    have e173 := q7.trans x1
                                    clear x1 q7 r7
                                    go_simp; exact kk _ _ (by simp) HJ (SideE.same _ (by omega)) ⟨trivial, ⟨fun e => by omega, fun _ => ⟨_, rfl, x2⟩, fun e => by omega, fun e => by omega⟩⟩
                                  · intro a w1 vs K HJ HK HD HN kk
                                    obtain ⟨q7, r7⟩ := HD 7 _ 173 rfl rfl rfl
                                    obtain ⟨R', x1, x2⟩ := r7.2.1 (Or.inr rfl)
                                    have e173 := q7.trans x1
                                    clear x1 x2 q7 r7
                                    go_simp; exact kk _ _ (by simp) HJ (SideE.same _ (by omega)) ⟨rfl, ⟨fun e => by omega, fun e => by omega, fun e => by omega, fun e => by omega⟩⟩
                                  · intro a w1 vs K HJ HK HD HN kk
                                    go_simp; exact kk _ _ (by simp) (HJ.alloc HJ.size _) (SideE.below (by omega) ((Below.refl _ _).alloc (Nat.le_refl _) _)) ⟨trivial, ⟨fun e => by omega, fun e => by omega, fun _ => ⟨_, rfl, HJ.size, nilR, 0, 0, 0, Bk.new _ _ _⟩, fun e => by omega⟩⟩
                                  · intro a w1 vs K HJ HK HD HN kk
                                    obtain ⟨q10, r10⟩ := HD 10 _ 17 rfl rfl rfl
                                    obtain ⟨nb, x1, x2, R0, ca, cb, cc, x3⟩ := r10.2.2.2.1 rfl
                                    obtain ⟨q8, r8⟩ := HD 8 _ 181 rfl rfl rfl
                                    obtain ⟨R', y1, y2⟩ := r8.2.2.1 rfl
                                    exact wpo_storeS 53 (.tmp 17) (.tmp 181) rfl rfl nb 0 (by simpa [Act.eval] using q10.trans x1) (RA p R') (by simpa [Act.eval] using q8.trans y1) 53 (refA R0 ca cb cc) x3 (by show 0 + 9 ≤ 9; omega) (refA_one _ _ _ _) info_state fun w2 hk2 ho2 => by
                                      have hk3 : Bk w2 nb 53 (RA p R') := by rw [splA_all _ _ (by rw [RA, refA_size, refA_size])] at hk2; exact hk2
                                      exact kk undef _ (by simp) (HJ.trans (ho2.below x2)) (SideE.store (by have := HXN.out; omega) x3 ho2 hk3) ⟨trivial, ⟨fun e => by omega, fun e => by omega, fun e => by omega, fun _ => ⟨R', nb, x1, y1, x2, hk3⟩⟩⟩
                                  · intro a w1 vs K HJ HK HD HN kk
                                    have e182 := (HD 9 _ 182 rfl rfl rfl).1.trans (HD 9 _ 182 rfl rfl rfl).2.1
                                    go_simp; exact kk _ _ (by simp) HJ (SideE.same _ (by omega)) ⟨rfl, ⟨fun e => by omega, fun e => by omega, fun e => by omega, fun e => by omega⟩⟩
                                · intro vs w6 hw6 hrr
                                  obtain ⟨R', y1, y2⟩ := (hrr 8 _ rfl).2.2.1 rfl
                                  obtain ⟨R2, nb, z1, z2, z3, z4⟩ := (hrr 11 _ rfl).2.2.2.2 rfl
                                  have z1' : vs 10 = .pointer (some ⟨nb, 0, none⟩) := z1
                                  have z2' : vs 8 = .agg (RA p R2) := z2
                                  have e12 : vs 12 = .int .i64 E := (hrr 12 _ rfl).1
                                  have hra : RA p R2 = RA p R' := by have := z2'.symm.trans y1; injection this
                                  rw [hra] at z4
                                  have HK6 := Lib.hid z4
                                  have HZ6 := Lib.hid hw6
                                  have HR6 := Lib.hid y2
                                  have HS6 := Lib.hid (HBSX.out w6 hw6)
                                  clear hrr z1 z2 z2' y1 hra z4 hw6 y2 z3
                                  simp only [putAll, Act.put, List.setIfInBounds_toArray, List.set_cons_zero, List.set_cons_succ]
                                  rw [z1', e12]
                                  clear z1' e12
                                  have HAC : Hid (∀ z, Below W.heap.size W z → z.cell? ⟨b, off + k * 4, none⟩ = some (.int .i64 what) ∧ z.cell? ⟨b, off + k * 4 + 1, none⟩ = some (.int .i64 a1) ∧ z.cell? ⟨b, off + k * 4 + 2, none⟩ = some (.int .i64 a2) ∧ z.cell? ⟨b, off + k * 4 + 3, none⟩ = some (.int .i64 a3)) := Lib.hid fun z hz => by
                                    obtain ⟨b', off', hA', _, g0, g1, g2, g3⟩ := (HL.out z hz).at4 hlt'
                                    rw [HACTN.out] at g0 g1 g2 g3
                                    simp only [actC] at g0 g1 g2 g3
                                    obtain ⟨rfl, rfl⟩ : b = b' ∧ off = off' := by simpa using hA'
                                    exact ⟨g0, g1, g2, g3⟩
                                  have HST7 : Hid (∀ w7, Bk w7 sx 53 (RA p R') → Only sx w6 w7 → Side W X sx p w7 St T) := Lib.hid fun w7 h1 h2 =>
                                    Side.store hsd.out HZ6.out HR6.out (HTP.out.trans hsd.out.tp.symm) (by rw [RA_of HTP.out]; exact h1) h2
                                  have hwb : w.heap.size < sx := Nat.lt_of_lt_of_le (HC.out W (Below.refl _ _)).lt hsd.out.wlt
                                  go_wp2_with (first
                                    | (refine wpLoadAt rfl 53 _ rfl nb 0 rfl (RA p R') _ (fun j u hj => by rw [Nat.zero_add]; exact (HK6.out.cell j).trans hj) und_state rfl info_state ?_)
                                    | (refine wpStoreAt rfl rfl 53 _ _ rfl sx 0 rfl (RA p R') rfl 53 _ HS6.out (by rw [RA_size, RA_size]; omega) (RA_one _ _) info_state ?_; intro w7 hk7 ho7; have HSD7 := Lib.hid (HST7.out w7 (by rw [RA_spl] at hk7; exact hk7) ho7); clear hk7 ho7; obtain ⟨g0, g1, g2, g3⟩ := HAC.out w7 HSD7.out.below))
                                  refine (does_any w7 X St HSD7.out.sys what a1 a2 a3).mono ?_
                                  rintro e w8 ⟨rfl, hs8, hc8⟩
                                  rw [HT.out] at hs8
                                  rw [HE.out]
                                  have HSD8 : Hid (Side W X sx p w8 T T) := Lib.hid (HSD7.out.does hs8 hc8 (HTP.out.trans HSD7.out.hp.symm))
                                  clear hs8 hc8 g0 g1 g2 g3
                                  have hw8 := HSD8.out.below.size
                                  go_wp2_with fail
                                  refine (carried_any w8 X T HSD8.out.sys).mono ?_
                                  rintro e w9 ⟨A1, q1, rfl, hcl1, hb9⟩
                                  have HO1 : Hid (OwnI w9 w8.heap.size A1 p.lines.length) := Lib.hid (by rw [← HTP.out]; exact OwnI.of hcl1)
                                  have HB9 := Lib.hid hb9
                                  rw [HTP.out]
                                  clear hcl1 hb9
                                  go_wp2_with fail
                                  refine (lost_any w9 X T (HSD8.out.sys.below HB9.out)).mono ?_
                                  rintro e w10 ⟨A2, q2, rfl, hcl2, hb10⟩
                                  have HO2 : Hid (OwnI w10 w9.heap.size A2 p.tanks.length) := Lib.hid (by rw [← HTP.out]; exact OwnI.of hcl2)
                                  have HB10 := Lib.hid hb10
                                  rw [HTP.out]
                                  clear hcl2 hb10
                                  go_wp2_with fail
                                  refine (vented_any w10 X T ((HSD8.out.sys.below HB9.out).below HB10.out)).mono ?_
                                  rintro e w11 ⟨A3, q3, rfl, hcl3, hb11⟩
                                  have HO3 : Hid (OwnI w11 w10.heap.size A3 p.tanks.length) := Lib.hid (by rw [← HTP.out]; exact OwnI.of hcl3)
                                  have HOW : Hid (Below w8.heap.size w8 w11 ∧ OwnI w11 w8.heap.size A1 p.lines.length ∧ OwnI w11 w8.heap.size A2 p.tanks.length ∧ OwnI w11 w8.heap.size A3 p.tanks.length) := Lib.hid (by
                                    have h9 := HB9.out.size
                                    have h10 := HB10.out.size
                                    exact ⟨(HB9.out.trans (HB10.out.mono h9)).trans (hb11.mono (by omega)), (HO1.out.below HB10.out).below hb11, (HO2.out.below hb11).mono h9, HO3.out.mono (by omega)⟩)
                                  rw [HTP.out]
                                  have hl32 := (plantB_lens HPB.out).2.2.2.2
                                  have hl16 := (plantB_lens HPB.out).2.1
                                  clear hcl3 hb11 HO1 HO2 HO3 HB9 HB10
                                  go_wp2_with fail
                                  go_loopw [22] (fun i wr => ∃ m : Nat, m ≤ p.lines.length ∧ i = .int .i64 m ∧ Hid (Below w8.heap.size w8 wr ∧ OwnI wr w8.heap.size A1 p.lines.length ∧ OwnI wr w8.heap.size A2 p.tanks.length ∧ OwnI wr w8.heap.size A3 p.tanks.length)) (fun i _ => p.lines.length - (intOf i).toNat)
                                  case atStart => exact ⟨0, Nat.zero_le _, rfl, HOW⟩
                                  case round =>
                                    obtain ⟨m, hm, rfl, ho⟩ := hrel
                                    by_cases hlm : m < p.lines.length
                                    · have hmi : (m : Int) < (p.lines.length : Int) := by omega
                                      have h0m : (0 : Int) ≤ (m : Int) := by omega
                                      obtain ⟨g, cur, rfl, hg1, hbk, hsz⟩ := ho.out.2.1 (by omega)
                                      obtain ⟨u, hu⟩ := hbk.has (j := m) (by omega)
                                      have fu := hbk.free m
                                      have HO5 : Hid (Below w8.heap.size w8 (wr.setCell ⟨g, m, none⟩ (.int .i64 (-7))) ∧ OwnI (wr.setCell ⟨g, m, none⟩ (.int .i64 (-7))) w8.heap.size (some ⟨g, 0, none⟩) p.lines.length ∧ OwnI (wr.setCell ⟨g, m, none⟩ (.int .i64 (-7))) w8.heap.size A2 p.tanks.length ∧ OwnI (wr.setCell ⟨g, m, none⟩ (.int .i64 (-7))) w8.heap.size A3 p.tanks.length) := Lib.hid
                                        ⟨ho.out.1.trans ((Only.setCell wr g m _).below hg1), ho.out.2.1.set, ho.out.2.2.1.set, ho.out.2.2.2.set⟩
                                      clear hbk hsz ho
                                      go_wp2_with fail
                                      go_roundw
                                      case rel => first | exact ⟨m + 1, by omega, by go_num, HO5⟩ | ((repeat apply Exists.intro); exact ⟨⟨m + 1, by omega, by go_num, HO5⟩, rfl⟩)
                                      case measure => simp [intOf]; omega
                                    · obtain rfl : m = p.lines.length := by omega
                                      have HO6 := Lib.hid ho.out
                                      clear ho
                                      go_wp2_with fail
                                      go_loopw [23] (fun i wr => ∃ q : Nat, q ≤ p.tanks.length ∧ i = .int .i64 q ∧ Hid (Below w8.heap.size w8 wr ∧ OwnI wr w8.heap.size A1 p.lines.length ∧ OwnI wr w8.heap.size A2 p.tanks.length ∧ OwnI wr w8.heap.size A3 p.tanks.length)) (fun i _ => p.tanks.length - (intOf i).toNat)
                                      case atStart => exact ⟨0, Nat.zero_le _, rfl, HO6⟩
                                      case round =>
                                        obtain ⟨q, hq, rfl, ho⟩ := hrel
                                        by_cases hlq : q < p.tanks.length
                                        · have hqi : (q : Int) < (p.tanks.length : Int) := by omega
                                          have h0q : (0 : Int) ≤ (q : Int) := by omega
                                          obtain ⟨g, cur, rfl, hg1, hbk, hsz⟩ := ho.out.2.2.1 (by omega)
                                          obtain ⟨g3, cur3, rfl, hg3, hbk3, hsz3⟩ := ho.out.2.2.2 (by omega)
                                          obtain ⟨u, hu⟩ := hbk.has (j := q) (by omega)
                                          have fu := hbk.free q
                                          have HO5 : Hid (Below w8.heap.size w8 (wr.setCell ⟨g, q, none⟩ (.int .i64 (-7))) ∧ OwnI (wr.setCell ⟨g, q, none⟩ (.int .i64 (-7))) w8.heap.size A1 p.lines.length ∧ OwnI (wr.setCell ⟨g, q, none⟩ (.int .i64 (-7))) w8.heap.size (some ⟨g, 0, none⟩) p.tanks.length ∧ OwnI (wr.setCell ⟨g, q, none⟩ (.int .i64 (-7))) w8.heap.size (some ⟨g3, 0, none⟩) p.tanks.length) := Lib.hid
                                            ⟨ho.out.1.trans ((Only.setCell wr g q _).below hg1), ho.out.2.1.set, ho.out.2.2.1.set, ho.out.2.2.2.set⟩
                                          clear hbk hsz hbk3 hsz3 ho
                                          go_upto_region 51 with (fail)
                                          obtain ⟨wq, hwq⟩ : ∃ wq, wr.setCell ⟨g, q, none⟩ (.int .i64 (-7)) = wq := ⟨_, rfl⟩
                                          rw [hwq] at HO5 ⊢
                                          obtain ⟨g4, cur4, e4, hg4, hbk4, hsz4⟩ := HO5.out.2.2.2 (by omega)
                                          obtain rfl : g3 = g4 := by simpa using e4
                                          obtain ⟨u4, hu4⟩ := hbk4.has (j := q) (by omega)
                                          have fu4 := hbk4.free q
                                          have HO7 : Hid (Below w8.heap.size w8 (wq.setCell ⟨g3, q, none⟩ (.int .i64 (-7))) ∧ OwnI (wq.setCell ⟨g3, q, none⟩ (.int .i64 (-7))) w8.heap.size A1 p.lines.length ∧ OwnI (wq.setCell ⟨g3, q, none⟩ (.int .i64 (-7))) w8.heap.size (some ⟨g, 0, none⟩) p.tanks.length ∧ OwnI (wq.setCell ⟨g3, q, none⟩ (.int .i64 (-7))) w8.heap.size (some ⟨g3, 0, none⟩) p.tanks.length) := Lib.hid
                                            ⟨HO5.out.1.trans ((Only.setCell wq g3 q _).below hg4), HO5.out.2.1.set, HO5.out.2.2.1.set, HO5.out.2.2.2.set⟩
                                          clear hwq hbk4 hsz4 e4 hu fu HO5
                                          go_wp2_with fail
                                          go_roundw
                                          case rel => first | exact ⟨q + 1, by omega, by go_num, HO7⟩ | ((repeat apply Exists.intro); exact ⟨⟨q + 1, by omega, by go_num, HO7⟩, rfl⟩)
                                          case measure => simp [intOf]; omega
                                        · obtain rfl : q = p.tanks.length := by omega
                                          have HSD9 : Hid (Side W X sx p wr T T) := Lib.hid (HSD8.out.later ho.out.1)
                                          have hqq : ¬ ((p.tanks.length : Int) < (p.tanks.length : Int)) := by omega
                                          clear ho
                                          go_wp2_with fail
                                          go_roundw
                                          case rel => exact ⟨k + 1, T, by omega, by go_num, HSD9⟩
                                          case measure => simp [intOf]; omega
                              · obtain rfl : k = n := by omega
                                obtain ⟨Rx, hx1, hx2⟩ := hsd.out.st
                                have HKX : Hid (Bk wr sx 53 (RA p Rx)) := Lib.hid (by rw [← RA_of hsd.out.tp]; exact hx1)
                                have HPX := Lib.hid (HC.out wr hsd.out.below)
                                have HAL : Hid (Calls Tryz.prog 31 #[.pointer (some ⟨X.sb, 0, none⟩), .agg (plantA x p), .agg (RA p Rx)] wr fun e w' => e = .returned (.bool true) ∧ Below wr.heap.size wr w') := Lib.hid (by
                                  have h := alike_any wr X x Rx St hsd.out.sys (by rw [hsd.out.tp]; exact HP.out wr hsd.out.below) (RefB.at_ hx2)
                                  rw [show plantA x St.p = plantA x p from by rw [hsd.out.tp], RA_of hsd.out.tp] at h
                                  exact h)
                                clear hx1 hx2
                                go_wp2_with (first | (refine wpLoadAt rfl 27 _ rfl w.heap.size 0 rfl (plantA x p) _ (fun j u hj => by rw [Nat.zero_add]; exact (HPX.out.cell j).trans hj) und_plant rfl info_plant ?_) | (refine wpLoadAt rfl 53 _ rfl sx 0 rfl (RA p Rx) _ (fun j u hj => by rw [Nat.zero_add]; exact (HKX.out.cell j).trans hj) und_state rfl info_state ?_))
                                refine HAL.out.mono ?_
                                rintro e w9 ⟨rfl, hb9⟩
                                have HB9 := Lib.hid (hsd.out.below.trans (hb9.mono hsd.out.below.size))
                                clear hb9
                                go_wp2_with fail
                                refine (END.out w9 HB9.out).mono ?_
                                rintro e w10 ⟨rfl, hb10⟩
                                go_wp2_with fail
                                go_ret
                                exact ⟨rfl, FIN.out _ hb10⟩
end Go.Proofs.YtogobjmmgjfjjaaGreat
