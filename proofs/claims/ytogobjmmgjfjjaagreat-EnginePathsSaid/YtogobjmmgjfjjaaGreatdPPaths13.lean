/- What is proved: the texts Z1 M1 M2 M3 M4 M5 M6 M8, one behind the other; each says at its head what it proves, and under which conditions. -/
import Derived.Outline
import Derived.Test.YtogobjmmgjfjjaaGreatdPPaths12
/- What is proved: how a plant lies in memory while a law builds a copy of it by append, and while the law then turns the copy's cells. Conditions: those that each lemma states. -/
namespace Go.Proofs.YtogobjmmgjfjjaaGreat
open Go.RowKit

/-! append([]T{}, xs...) of a list that is not empty. -/
section
variable {P : Program}
theorem run_copy (w : World) (t e : TypeId) (i : TypeInfo) (z : Value) (ht : P.underlying t = some (.slice e)) (hi : P.info? e = some i) (hz : i.zero = some z) (k : Nat) (hk : i.size = k) (hby : i.bytes ≤ 1024)
    (b : Addr) (A : Option Addr) (n c : Nat) (f : Nat → Nat → Value) (h : Sl w w.heap.size k A n f) (h0 : 0 < n) (hn : n ≤ 4096) (ty : TypeId) :
    ∃ A' c' w', (Builtin.append_ #[t, t] ty #[.slice (some b) 0 0, .slice A n c]).run P w = .ok (.slice A' n c') w' ∧ Cl w' w.heap.size e k A' n f ∧ Below w.heap.size w w' := by
  obtain ⟨bb, off, rfl, hB, hc⟩ := h.2 h0
  subst hk
  have hb2 : n * i.bytes ≤ 4096 * 1024 := Nat.mul_le_mul hn hby
  have hr := run_append_grow (P := P) (w := w) t ty e i z ht hi hz b 0 0 [] (by simp) (by intro j v hj; simp at hj) ⟨bb, off, none⟩ n c (rowsL n i.size f) (rowsL_len _ _ _) (fun j v hj => by rw [Addr.add_lit]; exact rowsL_cell hc j v hj) (by omega) (by omega)
    (by rw [Nat.zero_add, nextslicecap_zero h0]; omega)
  rw [Nat.zero_add] at hr
  refine ⟨_, _, _, hr, ⟨hn, fun _ => ⟨w.heap.size, _, rfl, Nat.le_refl _, Bk.newAt _ _ _ _ (by simp), fun i' hi' j hj => ?_⟩⟩, ((Below.refl _ w).drew).alloc (by simp) _⟩
  have h1 := rowsL_get n i.size f i' j hi' hj
  have h2 := (List.getElem?_eq_some_iff.1 h1).1
  rw [Array.getElem?_append, if_pos (by simpa using h2), Array.getElem?_append]
  simp [h1]
end

/-! Only blocks of one type have turned. -/
def KT (t : TypeId) (w w' : World) : Prop := w.heap.size ≤ w'.heap.size ∧ ∀ b t' cs, t' ≠ t → Bk w b t' cs → Bk w' b t' cs
theorem KT.below {t : TypeId} {w w' : World} (h : Below w.heap.size w w') : KT t w w' := ⟨h.size, fun _ _ _ _ hb => hb.below h hb.lt⟩
theorem KT.only {t : TypeId} {w w' : World} {g : Nat} {cs : Array Value} (h : Only g w w') (hg : Bk w g t cs) : KT t w w' := ⟨by rw [h.size]; exact Nat.le_refl _, fun b t' cs' ht hb => hb.only h (hb.ne hg ht)⟩
theorem KT.grown {t : TypeId} {w w' : World} {B k n : Nat} {v : Value} {xs : List Value} (h : w.ownsRow B t k v n xs) (hg : w.grownBy w' v.ownBlock) : KT t w w' := by
  refine ⟨hg.size, fun b t' cs ht hb => ?_⟩
  have hne : some b ≠ v.ownBlock := by
    rcases h.2 with ⟨rfl, _⟩ | ⟨g, cap, cur, rfl, _, h3, _⟩
    · simp [Value.ownBlock]
    · intro e
      have e2 : b = g := by simpa [Value.ownBlock] using e
      subst e2
      have h4 := hb.symm.trans h3
      simp only [Option.some.injEq, Obj.cells.injEq] at h4
      exact ht h4.2.1
  exact (hg.block b hb.lt hne).trans hb
theorem Cl.kt {t T : TypeId} {w w' : World} {B k n : Nat} {A : Option Addr} {f : Nat → Nat → Value} (h : Cl w B T k A n f) (hk : KT t w w') (hne : T ≠ t) : Cl w' B T k A n f :=
  ⟨h.1, fun hn => by obtain ⟨g, cur, e, h1, h2, h3⟩ := h.2 hn; exact ⟨g, cur, e, h1, hk.2 _ _ _ hne h2, h3⟩⟩
theorem ownsKt {t T : TypeId} {w w' : World} {B k n : Nat} {v : Value} {xs : List Value} (h : w.ownsRow B T k v n xs) (hk : KT t w w') (hne : T ≠ t) : w'.ownsRow B T k v n xs := by
  refine ⟨h.1, ?_⟩
  rcases h.2 with h1 | ⟨g, cap, cur, e, h2, h3, h4, h5, h6, h7⟩
  · exact Or.inl h1
  · exact Or.inr ⟨g, cap, cur, e, h2, hk.2 _ _ _ hne h3, h4, h5, h6, h7⟩
theorem rowsL_succ (n k : Nat) (hk : 0 < k) (F : Nat → Nat → Value) : rowsL (n + 1) k F = rowsL n k F ++ (List.range k).map (F n) := by
  unfold rowsL
  rw [Nat.add_mul, Nat.one_mul, List.range_add, List.map_append, List.map_map]
  congr 1
  apply List.map_congr_left
  intro j hj
  have hj' := List.mem_range.1 hj
  simp only [Function.comp_apply]
  rw [Nat.mul_comm n k, Nat.mul_add_div hk, Nat.div_eq_of_lt hj', Nat.mul_add_mod, Nat.mod_eq_of_lt hj', Nat.add_zero]
theorem rowsL_congr (n k : Nat) (hk : 0 < k) {F G : Nat → Nat → Value} (h : ∀ i, i < n → ∀ j, j < k → F i j = G i j) : rowsL n k F = rowsL n k G := by
  unfold rowsL
  apply List.map_congr_left
  intro m hm
  have hm' := List.mem_range.1 hm
  exact h _ ((Nat.div_lt_iff_lt_mul hk).2 hm') _ (Nat.mod_lt _ hk)

/-! The copy while it is built. -/
structure CopyQ (wr : World) (B : Nat) (p : PlantD) (qb : Nat) (tA vA : Option Addr) (tc vc : Nat) (iA : Nat → Option Addr) (ic : Nat → Nat) (jA : Nat → Option Addr) (jc : Nat → Nat) (lv nv : Value) (ln nn : Nat) : Prop where
  box : Bk wr qb 27 #[.slice tA p.tanks.length tc, .slice vA p.valves.length vc, lv, nv]
  tanks : Cl wr B 72 4 tA p.tanks.length fun i => tankC (p.tank i)
  valves : Cl wr B 78 3 vA p.valves.length fun i => valveC (p.valve i)
  lines : wr.ownsRow B 76 5 lv ln (rowsL ln 5 fun i => lineC (iA i) (ic i) (p.line i))
  lval : ∀ i, i < ln → Cl wr B 3 1 (iA i) (p.line i).valves.length fun k _ => .int .i64 ((p.line i).valves.getD k 0)
  never : wr.ownsRow B 28 1 nv nn (rowsL nn 1 fun i _ => .slice (jA i) (p.nev i).length (jc i))
  nval : ∀ i, i < nn → Cl wr B 79 2 (jA i) (p.nev i).length fun k => litC ((p.nev i).getD k lit0)
  qlt : B ≤ qb
section
variable {wr w1 w2 : World} {B qb ln nn : Nat} {p : PlantD} {tA vA : Option Addr} {tc vc : Nat} {iA jA : Nat → Option Addr} {ic jc : Nat → Nat} {lv nv : Value}
theorem CopyQ.later (h : CopyQ wr B p qb tA vA tc vc iA ic jA jc lv nv ln nn) (hb : Below wr.heap.size wr w1) : CopyQ w1 B p qb tA vA tc vc iA ic jA jc lv nv ln nn :=
  ⟨h.box.below hb h.box.lt, h.tanks.below hb, h.valves.below hb, World.ownsRow.of_below h.lines hb, fun i hi => (h.lval i hi).below hb, World.ownsRow.of_below h.never hb, fun i hi => (h.nval i hi).below hb, h.qlt⟩
def updA (f : Nat → Option Addr) (i : Nat) (A : Option Addr) : Nat → Option Addr := fun j => if j = i then A else f j
def updC (f : Nat → Nat) (i : Nat) (c : Nat) : Nat → Nat := fun j => if j = i then c else f j
theorem CopyQ.line (h : CopyQ w1 B p qb tA vA tc vc iA ic jA jc lv nv ln nn) {A : Option Addr} {c : Nat} (hA : Cl w1 B 3 1 A (p.line ln).valves.length fun k _ => .int .i64 ((p.line ln).valves.getD k 0)) {v' : Value} {news : List Value}
    (hnews : news = (List.range 5).map (lineC A c (p.line ln))) (hown : w2.ownsRow B 76 5 v' (ln + 1) (rowsL ln 5 (fun i => lineC (iA i) (ic i) (p.line i)) ++ news)) (hg : w1.grownBy w2 lv.ownBlock) (hB : B ≤ w1.heap.size) :
    CopyQ (w2.setCell ⟨qb, 2, none⟩ v') B p qb tA vA tc vc (updA iA ln A) (updC ic ln c) jA jc v' nv (ln + 1) nn ∧ Below B w1 (w2.setCell ⟨qb, 2, none⟩ v') := by
  have k1 : KT 76 w1 w2 := KT.grown h.lines hg
  have hb2 : Bk w2 qb 27 _ := k1.2 _ _ _ (by decide) h.box
  have ho := Only.setCell w2 qb 2 v'
  have k2 : KT 27 w2 (w2.setCell ⟨qb, 2, none⟩ v') := KT.only ho hb2
  refine ⟨⟨hb2.set 2 v', (h.tanks.kt k1 (by decide)).kt k2 (by decide), (h.valves.kt k1 (by decide)).kt k2 (by decide), ?_, fun i hi => ?_, ownsKt (ownsKt h.never k1 (by decide)) k2 (by decide), fun i hi => ((h.nval i hi).kt k1 (by decide)).kt k2 (by decide), h.qlt⟩, ?_⟩
  · have e : rowsL (ln + 1) 5 (fun i => lineC (updA iA ln A i) (updC ic ln c i) (p.line i)) = rowsL ln 5 (fun i => lineC (iA i) (ic i) (p.line i)) ++ news := by
      rw [rowsL_succ ln 5 (by omega), hnews]
      congr 1
      · refine rowsL_congr ln 5 (by omega) fun i hi j _ => ?_
        unfold updA updC
        rw [if_neg (by omega), if_neg (by omega)]
      · show (List.range 5).map (lineC (updA iA ln A ln) (updC ic ln c ln) (p.line ln)) = _
        unfold updA updC
        rw [if_pos rfl, if_pos rfl]
    rw [e]
    exact ownsKt hown k2 (by decide)
  · by_cases e : i = ln
    · subst e
      have := (hA.kt k1 (by decide)).kt k2 (by decide)
      unfold updA; rw [if_pos rfl]; exact this
    · unfold updA; rw [if_neg e]; exact ((h.lval i (by omega)).kt k1 (by decide)).kt k2 (by decide)
  · refine Below.trans ((Below.refl B w1).grown hg hB fun k hk => (h.lines.lt k hk).1) (ho.below h.qlt)
theorem CopyQ.nev (h : CopyQ w1 B p qb tA vA tc vc iA ic jA jc lv nv ln nn) {A : Option Addr} {c : Nat} (hA : Cl w1 B 79 2 A (p.nev nn).length fun k => litC ((p.nev nn).getD k lit0)) {v' : Value} {news : List Value}
    (hnews : news = [.slice A (p.nev nn).length c]) (hown : w2.ownsRow B 28 1 v' (nn + 1) (rowsL nn 1 (fun i _ => .slice (jA i) (p.nev i).length (jc i)) ++ news)) (hg : w1.grownBy w2 nv.ownBlock) (hB : B ≤ w1.heap.size) :
    CopyQ (w2.setCell ⟨qb, 3, none⟩ v') B p qb tA vA tc vc iA ic (updA jA nn A) (updC jc nn c) lv v' ln (nn + 1) ∧ Below B w1 (w2.setCell ⟨qb, 3, none⟩ v') := by
  have k1 : KT 28 w1 w2 := KT.grown h.never hg
  have hb2 : Bk w2 qb 27 _ := k1.2 _ _ _ (by decide) h.box
  have ho := Only.setCell w2 qb 3 v'
  have k2 : KT 27 w2 (w2.setCell ⟨qb, 3, none⟩ v') := KT.only ho hb2
  refine ⟨⟨hb2.set 3 v', (h.tanks.kt k1 (by decide)).kt k2 (by decide), (h.valves.kt k1 (by decide)).kt k2 (by decide), ownsKt (ownsKt h.lines k1 (by decide)) k2 (by decide), fun i hi => ((h.lval i hi).kt k1 (by decide)).kt k2 (by decide), ?_, fun i hi => ?_, h.qlt⟩, ?_⟩
  · have e : rowsL (nn + 1) 1 (fun i _ => .slice (updA jA nn A i) (p.nev i).length (updC jc nn c i)) = rowsL nn 1 (fun i _ => .slice (jA i) (p.nev i).length (jc i)) ++ news := by
      rw [rowsL_succ nn 1 (by omega), hnews]
      congr 1
      · refine rowsL_congr nn 1 (by omega) fun i hi j _ => ?_
        unfold updA updC
        rw [if_neg (by omega), if_neg (by omega)]
      · show [Value.slice (updA jA nn A nn) (p.nev nn).length (updC jc nn c nn)] = _
        unfold updA updC
        rw [if_pos rfl, if_pos rfl]
    rw [e]
    exact ownsKt hown k2 (by decide)
  · by_cases e : i = nn
    · subst e
      have := (hA.kt k1 (by decide)).kt k2 (by decide)
      unfold updA; rw [if_pos rfl]; exact this
    · unfold updA; rw [if_neg e]; exact ((h.nval i (by omega)).kt k1 (by decide)).kt k2 (by decide)
  · refine Below.trans ((Below.refl B w1).grown hg hB fun k hk => (h.never.lt k hk).1) (ho.below h.qlt)
end

/-! The copy while its cells are turned. -/
def Blk (w : World) (B hi : Nat) (t : TypeId) (A : Option Addr) (P : Array Value → Prop) : Prop := ∃ g cur, A = some ⟨g, 0, none⟩ ∧ B ≤ g ∧ g < hi ∧ Bk w g t cur ∧ P cur
theorem Blk.ne {w w' : World} {B hi g : Nat} {t t0 : TypeId} {A : Option Addr} {P : Array Value → Prop} {cs : Array Value} (h : Blk w B hi t A P) (ho : Only g w w') (hg : Bk w g t0 cs) (hne : t ≠ t0) : Blk w' B hi t A P := by
  obtain ⟨g', cur, h1, h2, h3, h4, h5⟩ := h
  exact ⟨g', cur, h1, h2, h3, h4.only ho (h4.ne hg hne), h5⟩
theorem Blk.set {w : World} {B hi g j : Nat} {t : TypeId} {A : Option Addr} {P : Array Value → Prop} {v : Value} (h : Blk w B hi t A P) (hP : ∀ cur, P cur → P (cur.setIfInBounds j v)) : Blk (w.setCell ⟨g, j, none⟩ v) B hi t A P := by
  obtain ⟨g', cur, h1, h2, h3, h4, h5⟩ := h
  by_cases e : g' = g
  · subst e; exact ⟨g', _, h1, h2, h3, h4.set j v, hP _ h5⟩
  · exact ⟨g', cur, h1, h2, h3, h4.only (Only.setCell w g j v) e, h5⟩
structure TurnQ (wr : World) (B hi qb : Nat) (x : PV) (p : PlantD) : Prop where
  box : Bk wr qb 27 (plantA x p)
  tanks : Blk wr B hi 72 x.tA fun c => p.tanks.length * 4 ≤ c.size
  valves : Blk wr B hi 78 x.vA fun c => p.valves.length * 3 ≤ c.size
  lines : 0 < p.lines.length → Blk wr B hi 76 x.lA fun c => ∀ i, i < p.lines.length → c[i * 5 + 4]? = some (.slice (x.iA i) (p.line i).valves.length (x.ic i))
  lval : ∀ i, i < p.lines.length → Blk wr B hi 3 (x.iA i) fun c => 1 ≤ c.size
  never : 0 < p.never.length → Blk wr B hi 28 x.nA fun c => ∀ i, i < p.never.length → c[i]? = some (.slice (x.jA i) (p.nev i).length (x.jc i))
  nval : ∀ i, i < p.never.length → Blk wr B hi 79 (x.jA i) fun c => ∃ b : Bool, c[1]? = some (.bool b)
/-- Blocks from B up to hi alone have turned. -/
structure Mid (B hi : Nat) (w w' : World) : Prop where
  os : w'.os = w.os
  tape : w'.tape = w.tape
  output : w'.output = w.output
  size : w.heap.size = w'.heap.size
  block : ∀ b, b < B ∨ hi ≤ b → w'.heap[b]? = w.heap[b]?
theorem Mid.refl (B hi : Nat) (w : World) : Mid B hi w w := ⟨rfl, rfl, rfl, rfl, fun _ _ => rfl⟩
theorem Mid.set {B hi g j : Nat} {w w' : World} {v : Value} (h : Mid B hi w w') (h1 : B ≤ g) (h2 : g < hi) : Mid B hi w (w'.setCell ⟨g, j, none⟩ v) := by
  have ho := Only.setCell w' g j v
  exact ⟨ho.os.trans h.os, ho.tape.trans h.tape, ho.output.trans h.output, h.size.trans ho.size.symm, fun b hb => (ho.block b (by omega)).trans (h.block b hb)⟩
theorem Mid.drew {B hi : Nat} {w w' : World} (h : Mid B hi w w') : Mid B hi w w'.drew := ⟨h.os, h.tape, h.output, h.size, h.block⟩
theorem Mid.below {B hi : Nat} {w w' : World} (h : Mid B hi w w') : Below B w w' := ⟨h.os, h.tape, h.output, by rw [h.size]; exact Nat.le_refl _, fun b hb => h.block b (Or.inl hb)⟩
theorem Mid.sys {B hi : Nat} {w w' : World} {X : SX} {S : Sys} (h : Mid B hi w w') (hs : SysAt w X S) (hX : hi ≤ X.lo) : SysAt w' X S := hs.keep (fun b hb _ => h.block b (Or.inr (by omega))) (by rw [h.size]; exact Nat.le_refl _)
section
variable {wr : World} {B hi qb : Nat} {x : PV} {p : PlantD}
theorem TurnQ.drew (h : TurnQ wr B hi qb x p) : TurnQ wr.drew B hi qb x p := ⟨h.box, h.tanks, h.valves, h.lines, h.lval, h.never, h.nval⟩
theorem TurnQ.tank (h : TurnQ wr B hi qb x p) (j : Nat) (v : Value) : ∃ g, x.tA = some ⟨g, 0, none⟩ ∧ B ≤ g ∧ g < hi ∧ TurnQ (wr.setCell ⟨g, j, none⟩ v) B hi qb x p := by
  obtain ⟨g, cur, e, h1, h2, h3, h4⟩ := h.tanks
  have ho := Only.setCell wr g j v
  exact ⟨g, e, h1, h2, h.box.only ho (h.box.ne h3 (by decide)), h.tanks.set fun c hc => by simpa using hc, h.valves.ne ho h3 (by decide), fun h0 => (h.lines h0).ne ho h3 (by decide), fun i hi => (h.lval i hi).ne ho h3 (by decide), fun h0 => (h.never h0).ne ho h3 (by decide), fun i hi => (h.nval i hi).ne ho h3 (by decide)⟩
theorem TurnQ.valve (h : TurnQ wr B hi qb x p) (j : Nat) (v : Value) : ∃ g, x.vA = some ⟨g, 0, none⟩ ∧ B ≤ g ∧ g < hi ∧ TurnQ (wr.setCell ⟨g, j, none⟩ v) B hi qb x p := by
  obtain ⟨g, cur, e, h1, h2, h3, h4⟩ := h.valves
  have ho := Only.setCell wr g j v
  exact ⟨g, e, h1, h2, h.box.only ho (h.box.ne h3 (by decide)), h.tanks.ne ho h3 (by decide), h.valves.set fun c hc => by simpa using hc, fun h0 => (h.lines h0).ne ho h3 (by decide), fun i hi => (h.lval i hi).ne ho h3 (by decide), fun h0 => (h.never h0).ne ho h3 (by decide), fun i hi => (h.nval i hi).ne ho h3 (by decide)⟩
theorem TurnQ.line (h : TurnQ wr B hi qb x p) (h0 : 0 < p.lines.length) (i : Nat) (v : Value) : ∃ g, x.lA = some ⟨g, 0, none⟩ ∧ B ≤ g ∧ g < hi ∧ TurnQ (wr.setCell ⟨g, i * 5 + 2, none⟩ v) B hi qb x p := by
  obtain ⟨g, cur, e, h1, h2, h3, h4⟩ := h.lines h0
  have ho := Only.setCell wr g (i * 5 + 2) v
  refine ⟨g, e, h1, h2, h.box.only ho (h.box.ne h3 (by decide)), h.tanks.ne ho h3 (by decide), h.valves.ne ho h3 (by decide), fun h0 => (h.lines h0).set fun c hc k hk => ?_, fun i hi => (h.lval i hi).ne ho h3 (by decide), fun h0 => (h.never h0).ne ho h3 (by decide), fun i hi => (h.nval i hi).ne ho h3 (by decide)⟩
  rw [Array.getElem?_setIfInBounds, if_neg (by omega)]; exact hc k hk
theorem TurnQ.lv (h : TurnQ wr B hi qb x p) {i : Nat} (hi' : i < p.lines.length) (v : Value) : ∃ g, x.iA i = some ⟨g, 0, none⟩ ∧ B ≤ g ∧ g < hi ∧ TurnQ (wr.setCell ⟨g, 0, none⟩ v) B hi qb x p := by
  obtain ⟨g, cur, e, h1, h2, h3, h4⟩ := h.lval i hi'
  have ho := Only.setCell wr g 0 v
  exact ⟨g, e, h1, h2, h.box.only ho (h.box.ne h3 (by decide)), h.tanks.ne ho h3 (by decide), h.valves.ne ho h3 (by decide), fun h0 => (h.lines h0).ne ho h3 (by decide), fun i hi => (h.lval i hi).set fun c hc => by simpa using hc, fun h0 => (h.never h0).ne ho h3 (by decide), fun i hi => (h.nval i hi).ne ho h3 (by decide)⟩
end
theorem Cl.blk {w w' : World} {B hi k n : Nat} {t : TypeId} {A : Option Addr} {f : Nat → Nat → Value} {P : Array Value → Prop} (h : Cl w B t k A n f) (h0 : 0 < n) (hb : Below w.heap.size w w') (hh : w.heap.size ≤ hi) (hP : ∀ cur : Array Value, (∀ i, i < n → ∀ j, j < k → cur[i * k + j]? = some (f i j)) → P cur) : Blk w' B hi t A P := by
  obtain ⟨g, cur, e, h1, h2, h3⟩ := h.2 h0
  exact ⟨g, cur, e, h1, Nat.lt_of_lt_of_le h2.lt hh, h2.below hb h2.lt, hP cur h3⟩
theorem CopyQ.done {wr : World} {B qb ln nn : Nat} {p : PlantD} {tA vA lA nA : Option Addr} {tc vc lc nc : Nat} {iA jA : Nat → Option Addr} {ic jc : Nat → Nat} (h : CopyQ wr B p qb tA vA tc vc iA ic jA jc (.slice lA ln lc) (.slice nA nn nc) ln nn)
    (hl : p.lines.length = ln) (hn : p.never.length = nn) (h1 : 1 ≤ p.tanks.length) (h2 : 1 ≤ p.valves.length) (h3 : ∀ i, i < p.lines.length → 1 ≤ (p.line i).valves.length) (h4 : ∀ i, i < p.never.length → 1 ≤ (p.nev i).length) (h5 : ln ≤ 4096) (h6 : nn ≤ 4096) :
    PlantAt wr wr.heap.size ⟨tA, tc, vA, vc, lA, lc, nA, nc, iA, ic, jA, jc⟩ p ∧ ∀ w5 hi, Below wr.heap.size wr w5 → wr.heap.size ≤ hi → TurnQ w5 B hi qb ⟨tA, tc, vA, vc, lA, lc, nA, nc, iA, ic, jA, jc⟩ p := by
  subst hl
  subst hn
  obtain ⟨A1, c1, e1, hL⟩ := Cl.of_own h5 h.lines
  obtain ⟨A2, c2, e2, hN⟩ := Cl.of_own h6 h.never
  obtain ⟨rfl, _⟩ : lA = A1 ∧ lc = c1 := by simpa using e1
  obtain ⟨rfl, _⟩ : nA = A2 ∧ nc = c2 := by simpa using e2
  have ht := h.tanks.1
  have hv := h.valves.1
  refine ⟨⟨h.tanks.sl, h.valves.sl, hL.sl, fun i hi => (h.lval i hi).sl, hN.sl, fun i hi => (h.nval i hi).sl, by omega⟩, fun w5 hi hb hh => ⟨h.box.below hb h.box.lt, ?_, ?_, fun h0 => ?_, fun i hi' => ?_, fun h0 => ?_, fun i hi' => ?_⟩⟩
  · refine h.tanks.blk h1 hb hh fun cur hc => ?_
    have := (Array.getElem?_eq_some_iff.1 (hc (p.tanks.length - 1) (by omega) 3 (by omega))).1
    omega
  · refine h.valves.blk h2 hb hh fun cur hc => ?_
    have := (Array.getElem?_eq_some_iff.1 (hc (p.valves.length - 1) (by omega) 2 (by omega))).1
    omega
  · exact hL.blk h0 hb hh fun cur hc i hi => hc i hi 4 (by omega)
  · refine (h.lval i hi').blk (h3 i hi') hb hh fun cur hc => ?_
    have := (Array.getElem?_eq_some_iff.1 (hc 0 (h3 i hi') 0 (by omega))).1
    omega
  · exact hN.blk h0 hb hh fun cur hc i hi => by have := hc i hi 0 (by omega); simpa using this
  · exact (h.nval i hi').blk (h4 i hi') hb hh fun cur hc => ⟨((p.nev i).getD 0 lit0).opn, by have := hc 0 (h4 i hi') 1 (by omega); rw [Nat.zero_mul, Nat.zero_add] at this; exact this⟩
end Go.Proofs.YtogobjmmgjfjjaaGreat
/- What is proved: the document's search finds what the program's search finds, or looks at too much. Conditions: the plant is valid; its valves are few. -/
namespace Go.Proofs.YtogobjmmgjfjjaaGreat
open Go.RowKit

/-- A row of the document: where the valves are, and the orders. -/
structure RowD where
  at_ : Spots
  ords : List LitD
def hasSp (l : List RowD) (s : Spots) : Bool := l.any fun r => sameSp r.at_ s
def addD (l : List RowD) (r : RowD) : List RowD := if hasSp l r.at_ then l else l ++ [r]
def tryD (p : PlantD) (r : RowD) (q : Nat) (l : List RowD) : List RowD :=
  if safeB p (wantB r.at_ (q / 2) (q % 2 == 1)) && !decide ((r.at_ (q / 2)).opn = (q % 2 == 1)) then addD l ⟨wantB r.at_ (q / 2) (q % 2 == 1), r.ords ++ [⟨((q / 2 : Nat) : Int), q % 2 == 1⟩]⟩ else l
/-- n orders from the q-th on. -/
def trysD (p : PlantD) (r : RowD) : Nat → Nat → List RowD → List RowD
  | 0, _, l => l
  | n + 1, q, l => trysD p r n (q + 1) (tryD p r q l)
def expandD (p : PlantD) (r : RowD) (l : List RowD) : List RowD := addD (trysD p r (2 * p.valves.length) 0 l) ⟨movedB p r.at_ fun _ => false, r.ords⟩
/-- The document's search from the i-th row on; false: it is more than can be looked at. -/
def searchD (p : PlantD) (g : List LitD) (great : Nat) : Nat → Nat → List RowD → List LitD × Int × Bool
  | 0, _, _ => ([], 0, false)
  | f + 1, i, l => match l[i]? with
    | none => ([], 7, true)
    | some r => if reachedB p r.at_ g then (r.ords, 0, true) else if great < l.length then ([], 0, false) else searchD p g great f (i + 1) (expandD p r l)
def pathD (p : PlantD) (g : List LitD) (great : Nat) : List LitD × Int × Bool :=
  if plantB p && litsOk p.valves.length g 16 then searchD p g great (great + 2) 0 [⟨firstB p, []⟩] else ([], 2, true)

def rowD (r : RowC) : RowD := ⟨r.at_, r.back.reverse⟩
theorem addD_or (l : List RowD) (r : RowD) : addD l r = l ∨ addD l r = l ++ [r] := by
  unfold addD; split
  · exact Or.inl rfl
  · exact Or.inr rfl
/-- Rows are put behind alone. -/
def Ahead (l l' : List RowD) : Prop := ∃ m, l' = l ++ m
theorem Ahead.refl (l : List RowD) : Ahead l l := ⟨[], by simp⟩
theorem Ahead.trans {a b c : List RowD} (h : Ahead a b) (k : Ahead b c) : Ahead a c := by
  obtain ⟨m, rfl⟩ := h
  obtain ⟨m', rfl⟩ := k
  exact ⟨m ++ m', by simp⟩
theorem addD_ahead (l : List RowD) (r : RowD) : Ahead l (addD l r) := by
  rcases addD_or l r with h | h
  · rw [h]; exact Ahead.refl l
  · rw [h]; exact ⟨[r], rfl⟩
theorem tryD_ahead (p : PlantD) (r : RowD) (q : Nat) (l : List RowD) : Ahead l (tryD p r q l) := by
  unfold tryD; split
  · exact addD_ahead _ _
  · exact Ahead.refl l
theorem trysD_ahead (p : PlantD) (r : RowD) : ∀ (n q : Nat) (l : List RowD), Ahead l (trysD p r n q l)
  | 0, _, l => Ahead.refl l
  | n + 1, q, l => (tryD_ahead p r q l).trans (trysD_ahead p r n (q + 1) _)
theorem expandD_ahead (p : PlantD) (r : RowD) (l : List RowD) : Ahead l (expandD p r l) := (trysD_ahead p r _ _ l).trans (addD_ahead _ _)
theorem addD_len (l : List RowD) (r : RowD) : (addD l r).length ≤ l.length + 1 := by
  rcases addD_or l r with h | h <;> rw [h] <;> simp
theorem tryD_len (p : PlantD) (r : RowD) (q : Nat) (l : List RowD) : (tryD p r q l).length ≤ l.length + 1 := by
  unfold tryD; split
  · exact addD_len _ _
  · omega
theorem trysD_len (p : PlantD) (r : RowD) : ∀ (n q : Nat) (l : List RowD), (trysD p r n q l).length ≤ l.length + n
  | 0, _, l => Nat.le_refl _
  | n + 1, q, l => by
    have h1 := trysD_len p r n (q + 1) (tryD p r q l)
    have h2 := tryD_len p r q l
    show (trysD p r n (q + 1) (tryD p r q l)).length ≤ _
    omega
theorem Ahead.at {l l' : List RowD} (h : Ahead l l') {i : Nat} {r : RowD} (hr : l[i]? = some r) : l'[i]? = some r := by
  obtain ⟨m, rfl⟩ := h
  rw [List.getElem?_append_left (List.getElem?_eq_some_iff.1 hr).1]; exact hr
/-- The first row that is a goal is the j-th. -/
def FirstAt (p : PlantD) (g : List LitD) (l : List RowD) (r : RowD) (j : Nat) : Prop := l[j]? = some r ∧ reachedB p r.at_ g = true ∧ ∀ k r', k < j → l[k]? = some r' → reachedB p r'.at_ g = false
theorem FirstAt.ahead {p : PlantD} {g : List LitD} {l l' : List RowD} {r : RowD} {j : Nat} (h : FirstAt p g l r j) (ha : Ahead l l') : FirstAt p g l' r j := by
  refine ⟨ha.at h.1, h.2.1, fun k r' hk hr' => ?_⟩
  have hj := (List.getElem?_eq_some_iff.1 h.1).1
  have h1 : l[k]? = some l[k] := List.getElem?_eq_getElem (by omega)
  have h2 := ha.at h1
  rw [h2] at hr'
  injection hr' with hr'
  rw [← hr']
  exact h.2.2 k _ hk h1
theorem searchD_first {p : PlantD} {g : List LitD} {great : Nat} {r : RowD} {j : Nat} : ∀ (f i : Nat) (l : List RowD) (m : List LitD) (e : Int), FirstAt p g l r j → i ≤ j → searchD p g great f i l = (m, e, true) → m = r.ords ∧ e = 0 := by
  intro f
  induction f with
  | zero => intro i l m e _ _ h; simp [searchD] at h
  | succ f ih =>
    intro i l m e hf hij h
    have hj := (List.getElem?_eq_some_iff.1 hf.1).1
    have h1 : l[i]? = some l[i] := List.getElem?_eq_getElem (by omega)
    unfold searchD at h
    rw [h1] at h
    simp only at h
    by_cases hi : i = j
    · subst hi
      have h2 := hf.1
      rw [h1] at h2
      injection h2 with h2
      rw [h2, if_pos hf.2.1] at h
      simp only [Prod.mk.injEq, and_true] at h
      exact ⟨h.1.symm, h.2.symm⟩
    · have h3 := hf.2.2 i _ (by omega) h1
      rw [if_neg (by rw [h3]; decide)] at h
      by_cases hg : great < l.length
      · rw [if_pos hg] at h; simp at h
      · rw [if_neg hg] at h
        exact ih (i + 1) _ m e (hf.ahead (expandD_ahead p _ l)) (by omega) h

/-! Side by side. -/
structure Both (p : PlantD) (g : List LitD) (st : Srch) (l : List RowD) : Prop where
  rows : l = st.rows.map rowD
  seen : st.seen = st.rows.map RowC.at_
  found : st.found = none
  full : st.full = false
  none : ∀ r ∈ st.rows, reachedB p r.at_ g = false
theorem Both.len {p : PlantD} {g : List LitD} {st : Srch} {l : List RowD} (h : Both p g st l) : st.seen.length = l.length := by rw [h.seen, h.rows]; simp
theorem Both.has {p : PlantD} {g : List LitD} {st : Srch} {l : List RowD} (h : Both p g st l) (s : Spots) : inSet st.seen s = hasSp l s := by
  unfold inSet hasSp
  rw [h.seen, h.rows, List.any_map, List.any_map]; rfl
/-- What a step of both does: they go on side by side, or the program has found what is the document's first. -/
def Steps (p : PlantD) (g : List LitD) (n0 : Nat) (r : Bool × Srch) (l' : List RowD) : Prop :=
  (r.1 = true ∧ Both p g r.2 l') ∨ (r.1 = false ∧ ∃ x j, r.2.found = some x ∧ n0 ≤ j ∧ FirstAt p g l' (rowD x) j)
theorem reachS_both {p : PlantD} {g : List LitD} {st : Srch} {l : List RowD} (h : Both p g st l) (r : RowC) (hl : l.length < 20000) : Steps p g l.length (reachS p g st r) (addD l (rowD r)) := by
  have hh := h.has r.at_
  have hlen := h.len
  unfold reachS addD
  by_cases h1 : inSet st.seen r.at_ = true
  · rw [if_pos h1, if_pos (by show hasSp l r.at_ = true; rw [← hh]; exact h1)]
    exact Or.inl ⟨rfl, h⟩
  · have hnh : ¬ hasSp l (rowD r).at_ = true := by show ¬ hasSp l r.at_ = true; rw [← hh]; exact h1
    rw [if_neg h1, if_neg (show ¬ st.seen.length = 20000 by omega), if_neg hnh]
    by_cases h3 : reachedB p r.at_ g = true
    · rw [if_pos h3]
      refine Or.inr ⟨rfl, r, l.length, rfl, Nat.le_refl _, by simp, h3, fun k r' hk hr' => ?_⟩
      rw [List.getElem?_append_left hk, h.rows, List.getElem?_map] at hr'
      rw [Option.map_eq_some_iff] at hr'
      obtain ⟨x, hx, rfl⟩ := hr'
      exact h.none x (List.mem_of_getElem? hx)
    · rw [if_neg h3]
      refine Or.inl ⟨rfl, by simp [h.rows], by simp [h.seen], h.found, h.full, fun x hx => ?_⟩
      simp only [List.mem_append, List.mem_cons, List.not_mem_nil, or_false] at hx
      rcases hx with hx | rfl
      · exact h.none x hx
      · simpa using h3
theorem sameSp_want {s : Spots} {v : Nat} {o : Bool} (hv : v < 12) : sameSp (wantB s v o) s = decide ((s v).opn = o) := by
  rw [Bool.eq_iff_iff, sameSp_iff, decide_eq_true_eq]
  constructor
  · intro h
    have := h v hv
    unfold wantB at this
    rw [if_pos rfl] at this
    rw [← this]
  · intro h i _
    unfold wantB
    by_cases e : i = v
    · subst e; rw [if_pos rfl, ← h]
    · rw [if_neg e]
theorem try1S_both {p : PlantD} {g : List LitD} {st : Srch} {l : List RowD} (h : Both p g st l) (r : RowC) (q : Nat) (hq : q / 2 < 12) (hl : l.length < 20000) : Steps p g l.length (try1S p g r (q / 2) (q % 2 == 1) st) (tryD p (rowD r) q l) := by
  unfold try1S tryD
  rw [sameSp_want hq]
  show Steps p g l.length (if safeB p (wantB r.at_ (q / 2) (q % 2 == 1)) && !decide ((r.at_ (q / 2)).opn = (q % 2 == 1)) then _ else _) (if safeB p (wantB r.at_ (q / 2) (q % 2 == 1)) && !decide ((r.at_ (q / 2)).opn = (q % 2 == 1)) then _ else _)
  by_cases hc : (safeB p (wantB r.at_ (q / 2) (q % 2 == 1)) && !decide ((r.at_ (q / 2)).opn = (q % 2 == 1))) = true
  · rw [if_pos hc, if_pos hc]
    have h1 := reachS_both h (.step (wantB r.at_ (q / 2) (q % 2 == 1)) r (some ⟨((q / 2 : Nat) : Int), q % 2 == 1⟩)) hl
    have e : rowD (.step (wantB r.at_ (q / 2) (q % 2 == 1)) r (some ⟨((q / 2 : Nat) : Int), q % 2 == 1⟩)) = ⟨wantB r.at_ (q / 2) (q % 2 == 1), (rowD r).ords ++ [⟨((q / 2 : Nat) : Int), q % 2 == 1⟩]⟩ := by
      show (⟨_, (_ :: r.back).reverse⟩ : RowD) = ⟨_, r.back.reverse ++ _⟩
      rw [List.reverse_cons]
      rfl
    rw [e] at h1
    exact h1
  · rw [if_neg hc, if_neg hc]
    exact Or.inl ⟨rfl, h⟩
theorem Steps.more {p : PlantD} {g : List LitD} {n0 : Nat} {s : Srch} {l l' : List RowD} (h : Steps p g n0 (false, s) l) (ha : Ahead l l') : Steps p g n0 (false, s) l' := by
  rcases h with h | ⟨_, x, j, h1, h2, h3⟩
  · exact absurd h.1 (by simp)
  · exact Or.inr ⟨rfl, x, j, h1, h2, h3.ahead ha⟩
theorem trysS_both {p : PlantD} {g : List LitD} (r : RowC) : ∀ (n q : Nat) (st : Srch) (l : List RowD), Both p g st l → (q + n) ≤ 24 → l.length + n < 20000 → Steps p g l.length (trysS p g r n q st) (trysD p (rowD r) n q l)
  | 0, q, st, l, h, _, _ => Or.inl ⟨rfl, h⟩
  | n + 1, q, st, l, h, hq, hl => by
    have h1 := try1S_both h r q (by omega) (by omega)
    have hlen := tryD_len p (rowD r) q l
    have hahead := tryD_ahead p (rowD r) q l
    have hge : l.length ≤ (tryD p (rowD r) q l).length := by obtain ⟨m, hm⟩ := hahead; rw [hm]; simp
    unfold trysS
    show Steps p g l.length _ (trysD p (rowD r) n (q + 1) (tryD p (rowD r) q l))
    rcases h1 with ⟨h2, h3⟩ | ⟨h2, h3⟩
    · rw [if_pos h2]
      have h4 := trysS_both r n (q + 1) _ _ h3 (by omega) (by omega)
      rcases h4 with h4 | ⟨h4, x, j, h5, h6, h7⟩
      · exact Or.inl h4
      · exact Or.inr ⟨h4, x, j, h5, by omega, h7⟩
    · rw [if_neg (by rw [h2]; decide)]
      exact Steps.more (Or.inr ⟨rfl, h3⟩) (trysD_ahead p (rowD r) n (q + 1) _)
theorem followS_both {p : PlantD} {g : List LitD} (hn : p.valves.length ≤ 12) (r : RowC) {st : Srch} {l : List RowD} (h : Both p g st l) (hl : l.length + 25 < 20000) : Steps p g l.length (followS p g r st) (expandD p (rowD r) l) := by
  have h1 := trysS_both r (2 * p.valves.length) 0 st l h (by omega) (by omega)
  have hlen := trysD_len p (rowD r) (2 * p.valves.length) 0 l
  have hge : l.length ≤ (trysD p (rowD r) (2 * p.valves.length) 0 l).length := by obtain ⟨m, hm⟩ := trysD_ahead p (rowD r) (2 * p.valves.length) 0 l; rw [hm]; simp
  unfold followS expandD
  rcases h1 with ⟨h2, h3⟩ | ⟨h2, h3⟩
  · rw [if_pos h2]
    have h4 := reachS_both h3 (.step (movedB p r.at_ fun _ => false) r none) (by omega)
    have e : rowD (.step (movedB p r.at_ fun _ => false) r none) = ⟨movedB p (rowD r).at_ fun _ => false, (rowD r).ords⟩ := by
      rfl
    rw [e] at h4
    rcases h4 with h4 | ⟨h4, x, j, h5, h6, h7⟩
    · exact Or.inl h4
    · exact Or.inr ⟨h4, x, j, h5, by omega, h7⟩
  · rw [if_neg (by rw [h2]; decide)]
    exact Steps.more (Or.inr ⟨rfl, h3⟩) (addD_ahead _ _)
/-- What both answer. -/
def Agree (st : Srch) (m : List LitD) (e : Int) : Prop := match st.found with
  | some r => m = r.back.reverse ∧ e = 0
  | none => st.full = false ∧ m = [] ∧ e = 7
theorem followS_next {p : PlantD} {g : List LitD} {r : RowC} {st : Srch} : (followS p g r st).2.next = st.next := by
  have hr : ∀ (s : Srch) (x : RowC), (reachS p g s x).2.next = s.next := fun s x => by
    unfold reachS; split
    · rfl
    · split
      · rfl
      · split <;> rfl
  have ht1 : ∀ (s : Srch) v o, (try1S p g r v o s).2.next = s.next := fun s v o => by
    unfold try1S; split
    · exact hr _ _
    · rfl
  have ht : ∀ (n q : Nat) (s : Srch), (trysS p g r n q s).2.next = s.next := fun n => by
    induction n with
    | zero => intro q s; rfl
    | succ n ih =>
      intro q s
      unfold trysS; split
      · rw [ih, ht1]
      · exact ht1 _ _ _
  unfold followS; split
  · rw [hr, ht]
  · exact ht _ _ _
theorem loop_both {p : PlantD} {g : List LitD} (hn : p.valves.length ≤ 12) {great : Nat} (hg : great ≤ 300) : ∀ (f n i : Nat) (st : Srch) (l : List RowD) (m : List LitD) (e : Int), Both p g st l → st.next = i → f ≤ n → searchD p g great f i l = (m, e, true) → Agree (loopS p g n true st) m e := by
  intro f
  induction f with
  | zero => intro n i st l m e _ _ _ h; simp [searchD] at h
  | succ f ih =>
    intro n i st l m e hb hi hfn h
    obtain ⟨n, rfl⟩ : ∃ k, n = k + 1 := ⟨n - 1, by omega⟩
    unfold searchD at h
    cases hr : st.rows[st.next]? with
    | none =>
      have hli : l[i]? = none := by rw [hb.rows, List.getElem?_map, ← hi, hr]; rfl
      rw [hli] at h
      simp only [Prod.mk.injEq, and_true] at h
      rw [loopS_none hr]
      unfold Agree
      rw [hb.found]
      exact ⟨hb.full, h.1.symm, h.2.symm⟩
    | some r =>
      have hli : l[i]? = some (rowD r) := by rw [hb.rows, List.getElem?_map, ← hi, hr]; rfl
      have hil := (List.getElem?_eq_some_iff.1 hli).1
      rw [hli] at h
      simp only at h
      have hnr := hb.none r (List.mem_of_getElem? hr)
      rw [if_neg (by show ¬ reachedB p r.at_ g = true; rw [hnr]; decide)] at h
      by_cases hgl : great < l.length
      · rw [if_pos hgl] at h; simp at h
      · rw [if_neg hgl] at h
        rw [loopS_some hr]
        have hb2 : Both p g { st with next := st.next + 1 } l := ⟨hb.rows, hb.seen, hb.found, hb.full, hb.none⟩
        have hnx := followS_next (p := p) (g := g) (r := r) (st := { st with next := st.next + 1 })
        rcases followS_both hn r hb2 (by omega) with ⟨h1, h2⟩ | ⟨h1, x, j, h2, h3, h4⟩
        · rw [h1]
          exact ih n (i + 1) _ _ m e h2 (by rw [hnx]; show st.next + 1 = i + 1; omega) (by omega) h
        · rw [h1, loopS_false]
          unfold Agree
          rw [h2]
          exact searchD_first f (i + 1) _ m e h4 (by omega) h
theorem pathD_path {p : PlantD} {g : List LitD} {great : Nat} (hg : great ≤ 300) (hpos : 0 < great) {m : List LitD} {e : Int} (h : pathD p g great = (m, e, true)) : pathB p g = (m, e) := by
  unfold pathD at h
  unfold pathB
  by_cases hv : (plantB p && litsOk p.valves.length g 16) = true
  · rw [if_pos hv] at h ⊢
    have hn : p.valves.length ≤ 12 := by
      rw [Bool.and_eq_true] at hv
      exact (plantOk_valves hv.1).1
    have hA : Agree (pathS p g) m e := by
      unfold pathS
      have h0 : Both p g srch0 [] := ⟨rfl, rfl, rfl, rfl, fun r hr => by simp [srch0] at hr⟩
      have h1 := reachS_both h0 (.root (firstB p)) (by simp)
      have e1 : addD [] (rowD (.root (firstB p))) = [⟨firstB p, []⟩] := rfl
      rw [e1] at h1
      have hnx : (reachS p g srch0 (.root (firstB p))).2.next = 0 := by
        unfold reachS; split
        · rfl
        · split
          · rfl
          · split <;> rfl
      rcases h1 with ⟨h2, h3⟩ | ⟨h2, x, j, h3, h4, h5⟩
      · rw [h2]
        exact loop_both hn hg _ 20002 0 _ _ m e h3 hnx (by omega) h
      · rw [h2, loopS_false]
        unfold Agree
        rw [h3]
        exact searchD_first _ 0 _ m e h5 (Nat.zero_le _) h
    unfold Agree at hA
    cases hf : (pathS p g).found with
    | some r => rw [hf] at hA; simp only; rw [hA.1, hA.2]
    | none => rw [hf] at hA; simp only; rw [if_neg (by rw [hA.1]; decide), hA.2.1, hA.2.2]
  · rw [if_neg hv] at h ⊢
    simp only [Prod.mk.injEq, and_true] at h
    rw [← h.1, ← h.2]
end Go.Proofs.YtogobjmmgjfjjaaGreat
/- What is proved: contracts of the document's code and there; different places or wants have different codes. Conditions: the plant and the state lie in memory; the plant is valid, the state's numbers are as they always are. -/
namespace Go.Proofs.YtogobjmmgjfjjaaGreat
open Go.RowKit

def codeK (s : Spots) : Nat → Int
  | 0 => 0
  | k + 1 => codeK s k * 20 + 2 * (s k).place + if (s k).opn then 1 else 0
def codeB (p : PlantD) (s : Spots) : Int := codeK s p.valves.length
def Small (s : Spots) : Prop := ∀ i, 0 ≤ (s i).place ∧ (s i).place ≤ 8
theorem codeK_range {s : Spots} (h : Small s) : ∀ k, 0 ≤ codeK s k ∧ codeK s k < 20 ^ k := by
  intro k
  induction k with
  | zero => simp [codeK]
  | succ k ih =>
    have h1 := h k
    unfold codeK
    rw [Int.pow_succ]
    split <;> omega
theorem codeK_inj {s t : Spots} (hs : Small s) (ht : Small t) : ∀ k, codeK s k = codeK t k → ∀ i, i < k → s i = t i := by
  intro k
  induction k with
  | zero => intro _ i hi; omega
  | succ k ih =>
    intro h i hi
    have h1 := hs k; have h2 := ht k
    unfold codeK at h
    have hp : (s k).place = (t k).place ∧ (s k).opn = (t k).opn ∧ codeK s k = codeK t k := by
      cases e1 : (s k).opn <;> cases e2 : (t k).opn <;> simp [e1, e2] at h <;> refine ⟨by omega, ?_, by omega⟩ <;> first | rfl | (exfalso; omega)
    by_cases e : i = k
    · subst e
      obtain ⟨a, b, _⟩ := hp
      cases hsi : s i with
      | mk p1 o1 =>
        cases hti : t i with
        | mk p2 o2 =>
          rw [hsi, hti] at a b
          simp only at a b
          rw [a, b]
    · exact ih hp.2.2 i (by omega)
theorem SpotsOk.small {p : PlantD} {s : Spots} (h : SpotsOk p s) (hv : ValvesOk p) : Small s := fun i => by
  by_cases hi : i < p.valves.length
  · have h1 := h.1 i hi; have h2 := hv.2 i hi; omega
  · rw [h.2 i (by omega)]; simp [SpotD.zero]
theorem codeB_same {p : PlantD} {s t : Spots} (hv : ValvesOk p) (hs : SpotsOk p s) (ht : SpotsOk p t) : decide (codeB p s = codeB p t) = sameSp s t := by
  rw [Bool.eq_iff_iff, decide_eq_true_eq, sameSp_iff]
  constructor
  · intro h i _
    by_cases hi : i < p.valves.length
    · exact codeK_inj (hs.small hv) (ht.small hv) _ h i hi
    · rw [hs.2 i (by omega), ht.2 i (by omega)]
  · intro h
    have key : ∀ k, k ≤ 12 → codeK s k = codeK t k := fun k => by
      induction k with
      | zero => intro _; rfl
      | succ k ih => intro hk; unfold codeK; rw [ih (by omega), h k (by omega)]
    exact key _ hv.1

set_option maxRecDepth 100000 in
set_option maxHeartbeats 2000000 in
theorem refCode_any [E : Exc] (w : World) (x : PV) (R : RX) (S : Sys) (hr : RefAt w w.heap.size R S) (hv : ValvesOk S.p) (ho : SpotsOk S.p S.at_) :
    Calls Tryz.prog 111 #[.agg (plantA x S.p), .agg (SysA R S)] w fun e w' => e = .returned (.int .i64 (codeB S.p S.at_)) ∧ Below w.heap.size w w' := by
  obtain ⟨W, hW⟩ : ∃ W, W = (w.alloc (.cells (plantA x S.p) 27)).alloc (.cells (SysA R S) 53) := ⟨_, rfl⟩
  have hbW : Below w.heap.size w W := by rw [hW]; exact ((Below.refl _ _).alloc (Nat.le_refl _) _).alloc (by simp) _
  have hb0 : Bk W w.heap.size 27 (plantA x S.p) := by rw [hW]; exact (Bk.new _ _ _).alloc _
  have hb1 : Bk W (w.heap.size + 1) 53 (SysA R S) := by rw [hW]; exact Bk.newAt _ _ _ _ (by simp)
  have c1 : W.cell? ⟨w.heap.size, 1, none⟩ = some (.slice x.vA S.p.valves.length x.vc) := hb0.cell 1
  have s2 : W.cell? ⟨w.heap.size + 1, 2, none⟩ = some (.slice (R.a 2) S.p.valves.length (R.c 2)) := hb1.cell 2
  have s3 : W.cell? ⟨w.heap.size + 1, 3, none⟩ = some (.slice (R.a 3) S.p.valves.length (R.c 3)) := hb1.cell 3
  have hn12 := hv.1
  have HR := Lib.hid (hr.below hbW)
  have HSM := Lib.hid (ho.small hv)
  have HB := Lib.hid hbW
  have HW := Lib.hid hW
  obtain ⟨n, hn⟩ : ∃ n, S.p.valves.length = n := ⟨_, rfl⟩
  have HF := Lib.hid (show codeB S.p S.at_ = codeK S.at_ n by rw [← hn]; rfl)
  have HN := Lib.hid hn
  simp only [plantA, SysA, refA] at HW
  dsimp only [plantA, SysA, refA]
  rw [hn] at c1 s2 s3 hn12
  clear hr hv ho hW hbW hb0 hb1 hn
  go_enter Tryz.func111, Tryz.ntmps111
  go_wp2_with fail
  rw [← HW.out]
  go_loop [5, 6] (fun c i => ∃ k : Nat, k ≤ n ∧ i = .int .i64 k ∧ c = .int .i64 (codeK S.at_ k)) (fun _ i => n - (intOf i).toNat)
  case atStart => exact ⟨0, Nat.zero_le _, rfl, rfl⟩
  case round =>
    obtain ⟨k, hk, rfl, rfl⟩ := hrel
    by_cases hlt : k < n
    · have hki : (k : Int) < (n : Int) := by omega
      have h0k : (0 : Int) ≤ (k : Int) := by omega
      have hkn : k < S.p.valves.length := by rw [HN.out]; exact hlt
      obtain ⟨b2, o2, hA2, _, d2⟩ := (show Sl W w.heap.size 1 (R.a 2) S.p.valves.length fun i _ => .int .i64 (S.at_ i).place from (HR.out 2 (by omega)).sl).at1v hkn
      obtain ⟨b3, o3, hA3, _, d3⟩ := (show Sl W w.heap.size 1 (R.a 3) S.p.valves.length fun i _ => .bool (S.at_ i).opn from (HR.out 3 (by omega)).sl).at1v hkn
      rw [hA2] at s2
      rw [hA3] at s3
      have hcr := codeK_range HSM.out k
      have hps := HSM.out k
      have hpw : (20 : Int) ^ k ≤ 20 ^ 11 := by
        have : (20 : Nat) ^ k ≤ 20 ^ 11 := Nat.pow_le_pow_right (by omega) (by omega)
        exact_mod_cast this
      have hc9 : codeK S.at_ k ≤ 204800000000000 := by
        have e : (20 : Int) ^ 11 = 204800000000000 := by decide
        rw [e] at hpw; omega
      have hc0 := hcr.1
      have hst : codeK S.at_ (k + 1) = codeK S.at_ k * 20 + 2 * (S.at_ k).place + if (S.at_ k).opn then 1 else 0 := rfl
      obtain ⟨cc, hcc⟩ : ∃ cc, codeK S.at_ k = cc := ⟨_, rfl⟩
      obtain ⟨pl, hpl⟩ : ∃ pl, (S.at_ k).place = pl := ⟨_, rfl⟩
      obtain ⟨op, hop⟩ : ∃ op, (S.at_ k).opn = op := ⟨_, rfl⟩
      rw [hcc, hpl, hop] at hst
      rw [hcc] at hc0 hc9 ⊢
      rw [hpl] at hps d2
      rw [hop] at d3
      have HST := Lib.hid hst
      clear hA2 hA3 hcr hpw hst hcc hpl hop
      cases op with
      | true =>
        go_wp2_with fail
        go_round
        case rel => exact ⟨k + 1, by omega, by go_num, by rw [HST.out]; simp⟩
        case measure => simp [intOf]; omega
      | false =>
        go_wp2_with fail
        go_round
        case rel => exact ⟨k + 1, by omega, by go_num, by rw [HST.out]; simp⟩
        case measure => simp [intOf]; omega
    · obtain rfl : k = n := by omega
      go_wp2_with fail
      go_ret
      exact ⟨ret_int HF.out.symm, HB.out⟩

theorem reach_place {p : PlantD} {s : Spots} {g : List LitD} {k : Nat} (hk : k < g.length) (h : ¬ (s (g.getD k lit0).valve.toNat).place = endB p s (g.getD k lit0)) : reachedB p s g = false :=
  allN_false hk (by unfold reach1B; rw [decide_eq_false h]; rfl)
theorem reach_all {p : PlantD} {s : Spots} {g : List LitD} (h : ∀ k, k < g.length → (s (g.getD k lit0).valve.toNat).place = endB p s (g.getD k lit0)) : reachedB p s g = allN g.length fun k => holdsB p s (g.getD k lit0) := by
  unfold reachedB
  rw [Bool.eq_iff_iff, allN_iff, allN_iff]
  constructor
  · intro hh k hk
    have := hh k hk
    unfold reach1B at this
    rw [Bool.and_eq_true] at this
    exact this.2
  · intro hh k hk
    unfold reach1B
    rw [Bool.and_eq_true]
    exact ⟨decide_eq_true (h k hk), hh k hk⟩

set_option maxRecDepth 100000 in
set_option maxHeartbeats 4000000 in
theorem refThere_any [E : Exc] (w : World) (x : PV) (R : RX) (S : Sys) (hp : PlantAt w w.heap.size x S.p) (hr : RefAt w w.heap.size R S) (A : Option Addr) (c : Nat) (g : List LitD) (hg : LitsAt w w.heap.size A g) (hok : GoalOk S.p g) :
    Calls Tryz.prog 44 #[.agg (plantA x S.p), .agg (SysA R S), .slice A g.length c] w fun e w' => e = .returned (.bool (reachedB S.p S.at_ g)) ∧ Below w.heap.size w w' := by
  obtain ⟨W, hW⟩ : ∃ W, W = (w.alloc (.cells (plantA x S.p) 27)).alloc (.cells (SysA R S) 53) := ⟨_, rfl⟩
  have hbW : Below w.heap.size w W := by rw [hW]; exact ((Below.refl _ _).alloc (Nat.le_refl _) _).alloc (by simp) _
  have hb0 : Bk W w.heap.size 27 (plantA x S.p) := by rw [hW]; exact (Bk.new _ _ _).alloc _
  have hb1 : Bk W (w.heap.size + 1) 53 (SysA R S) := by rw [hW]; exact Bk.newAt _ _ _ _ (by simp)
  have hHS := refHoldsSet_any W x R S ((hp.below hbW).mono hbW.size) ((hr.below hbW).mono hbW.size) A g.length c (fun i => g.getD i lit0) ((Sl.below hg hbW).mono hbW.size) (fun i hi => by have := hok i hi; omega)
  have HHS := Lib.hid hHS
  have HR := Lib.hid (hr.below hbW)
  have HP := Lib.hid (hp.below hbW)
  have HG := Lib.hid (Sl.below hg hbW)
  have HOK := Lib.hid hok
  have HB0 := Lib.hid hb0
  have HB1 := Lib.hid hb1
  have hn9 := hg.1
  have HB := Lib.hid hbW
  have HW := Lib.hid hW
  have c1 : W.cell? ⟨w.heap.size, 1, none⟩ = some (.slice x.vA S.p.valves.length x.vc) := hb0.cell 1
  have s2 : W.cell? ⟨w.heap.size + 1, 2, none⟩ = some (.slice (R.a 2) S.p.valves.length (R.c 2)) := hb1.cell 2
  have s3 : W.cell? ⟨w.heap.size + 1, 3, none⟩ = some (.slice (R.a 3) S.p.valves.length (R.c 3)) := hb1.cell 3
  obtain ⟨n, hn⟩ : ∃ n, g.length = n := ⟨_, rfl⟩
  have HN := Lib.hid hn
  rw [hn] at HHS hn9 ⊢
  simp only [plantA, SysA, refA] at HW HHS
  dsimp only [plantA, SysA, refA]
  clear hp hr hg hok hW hbW hb0 hb1 hn hHS
  go_enter Tryz.func44, Tryz.ntmps44
  go_wp2_with fail
  rw [← HW.out]
  go_loop [7] (fun i => ∃ k : Nat, k ≤ n ∧ i = .int .i64 k ∧ Hid (∀ j, j < k → (S.at_ (g.getD j lit0).valve.toNat).place = endB S.p S.at_ (g.getD j lit0))) (fun i => n - (intOf i).toNat)
  case atStart => exact ⟨0, Nat.zero_le _, rfl, Lib.hid fun j hj => absurd hj (by omega)⟩
  case round =>
    obtain ⟨k, hk, rfl, hm⟩ := hrel
    by_cases hlt : k < n
    · have hki : (k : Int) < (n : Int) := by omega
      have h0k : (0 : Int) ≤ (k : Int) := by omega
      have hlt' : k < g.length := by rw [HN.out]; exact hlt
      obtain ⟨b, off, rfl, _, d0, _⟩ := Sl.at2 HG.out hlt'
      have hok := HOK.out k hlt'
      have hrp := reach_place (p := S.p) (s := S.at_) hlt'
      have hstep : ∀ P : (S.at_ (g.getD k lit0).valve.toNat).place = endB S.p S.at_ (g.getD k lit0), ∀ j, j < k + 1 → (S.at_ (g.getD j lit0).valve.toNat).place = endB S.p S.at_ (g.getD j lit0) := fun P j hj => if e : j = k then by rw [e]; exact P else hm.out j (by omega)
      obtain ⟨d, hd⟩ : ∃ d, g.getD k lit0 = d := ⟨_, rfl⟩
      rw [hd] at d0 hok hrp hstep
      obtain ⟨vi, o⟩ := d
      simp only [litC] at d0 hok hrp hstep
      obtain ⟨v, rfl⟩ := Int.eq_ofNat_of_zero_le hok.1
      have hv : v < S.p.valves.length := by omega
      have hvi : (v : Int) < (S.p.valves.length : Int) := by omega
      have h0v : (0 : Int) ≤ (v : Int) := by omega
      rw [Int.toNat_natCast] at hrp hstep
      obtain ⟨b2, o2, hA2, _, d2⟩ := (show Sl W w.heap.size 1 (R.a 2) S.p.valves.length fun i _ => .int .i64 (S.at_ i).place from (HR.out 2 (by omega)).sl).at1v hv
      obtain ⟨b3, o3, hA3, _, d3⟩ := (show Sl W w.heap.size 1 (R.a 3) S.p.valves.length fun i _ => .bool (S.at_ i).opn from (HR.out 3 (by omega)).sl).at1v hv
      obtain ⟨b1, o1, hA1, _, _, d1, _⟩ := HP.out.valves.at3 hv
      simp only [valveC] at d1
      rw [hA2] at s2
      rw [hA3] at s3
      rw [hA1] at c1
      have hend : endB S.p S.at_ ⟨v, o⟩ = if (S.at_ v).opn then (S.p.valve v).travel else 0 := by unfold endB; simp
      rw [hend] at hrp hstep
      obtain ⟨pl, hpl⟩ : ∃ pl, (S.at_ v).place = pl := ⟨_, rfl⟩
      obtain ⟨tr, htr⟩ : ∃ tr, (S.p.valve v).travel = tr := ⟨_, rfl⟩
      obtain ⟨op, hop⟩ : ∃ op, (S.at_ v).opn = op := ⟨_, rfl⟩
      rw [hpl, hop, htr] at hrp hstep
      rw [hpl] at d2
      rw [hop] at d3
      rw [htr] at d1
      have HRP := Lib.hid hrp
      have HSTEP := Lib.hid hstep
      clear hA1 hA2 hA3 hok hrp hstep hend hpl htr hop hd
      cases op with
      | true =>
        by_cases he : pl = tr
        · subst he
          go_wp2_with fail
          go_round
          case rel => exact ⟨k + 1, by omega, by go_num, Lib.hid (HSTEP.out rfl)⟩
          case measure => simp [intOf]; omega
        · go_wp2_with fail
          go_ret
          exact ⟨ret_bool (HRP.out he).symm, HB.out⟩
      | false =>
        by_cases he : pl = 0
        · subst he
          go_wp2_with fail
          go_round
          case rel => exact ⟨k + 1, by omega, by go_num, Lib.hid (HSTEP.out rfl)⟩
          case measure => simp [intOf]; omega
        · go_wp2_with fail
          go_ret
          exact ⟨ret_bool (HRP.out he).symm, HB.out⟩
    · obtain rfl : k = n := by omega
      have HALL := Lib.hid (reach_all (p := S.p) (s := S.at_) (g := g) (fun j hj => hm.out j (by rw [HN.out] at hj; exact hj)))
      clear c1 s2 s3
      go_wp2_with (first
        | (refine wpLoadAt rfl 27 _ rfl w.heap.size 0 rfl (plantA x S.p) _ (fun j u hj => by rw [Nat.zero_add]; exact (HB0.out.cell j).trans hj) und_plant rfl info_plant ?_)
        | (refine wpLoadAt rfl 53 _ rfl (w.heap.size + 1) 0 rfl (SysA R S) _ (fun j u hj => by rw [Nat.zero_add]; exact (HB1.out.cell j).trans hj) und_state rfl info_state ?_))
      refine HHS.out.mono ?_
      rintro e w' ⟨rfl, hb⟩
      have HBB := Lib.hid (HB.out.trans (hb.mono HB.out.size))
      clear hb
      go_wp2_with fail
      go_ret
      exact ⟨ret_bool (by rw [HALL.out, HN.out]; simp only [List.getD_eq_getElem?_getD]), HBB.out⟩
end Go.Proofs.YtogobjmmgjfjjaaGreat
/- What is proved: append to a list of one's own stays in its block or goes to a new one; how the rows of the document's search lie in memory. Conditions: those that each lemma states. -/
namespace Go.Proofs.YtogobjmmgjfjjaaGreat
open Go.RowKit

theorem owns_sl {w : World} {B k n : Nat} {e : TypeId} {v : Value} {xs : List Value} (h : w.ownsRow B e k v n xs) : ∃ A c, v = .slice A n c := by
  rcases h.2 with ⟨rfl, rfl⟩ | ⟨g, cap, cur, rfl, _⟩
  · exact ⟨_, _, rfl⟩
  · exact ⟨_, _, rfl⟩
section
variable {P : Program}
theorem run_append_own2 (w : World) (base : Nat) (t ty e : TypeId) (i : TypeInfo) (z : Value) (size bytes : Nat) (ht : P.underlying t = some (.slice e)) (hi : P.info? e = some i) (hz : i.zero = some z)
    (hsize : i.size = size) (hby : i.bytes = bytes) (hzs : z.cells.size = size) (hsz : 0 < size)
    (v : Value) (n : Nat) (xs : List Value) (hown : w.ownsRow base e size v n xs)
    (a : Addr) (m c : Nat) (news : List Value) (hl : news.length = m * size) (hnews : ∀ j u, news[j]? = some u → w.cell? (a.add j) = some u) (h1 : ∀ u ∈ news, u.oneCell' = true)
    (h63 : n + m ≤ maxLen) (hbytes : (n + m) * bytes ≤ 140737488355328) (hbase : base ≤ w.heap.size) (hm : 0 < m) :
    ∃ A c' w', (Builtin.append_ #[t, t] ty #[v, .slice (some a) m c]).run P w = .ok (.slice A (n + m) c') w' ∧ w'.ownsRow base e size (.slice A (n + m) c') (n + m) (xs ++ news) ∧ w.grownBy w' v.ownBlock ∧
      ((Value.slice A (n + m) c').ownBlock = v.ownBlock ∧ v.ownBlock ≠ none ∨ (Value.slice A (n + m) c').ownBlock = some w.heap.size) := by
  obtain ⟨v', w', hr, h2, h3, _⟩ := run_append_own (P := P) w base t ty e i z size bytes ht hi hz hsize hby hzs hsz v n xs hown a m c news hl hnews h1 h63 hbytes hbase
  obtain ⟨A, c', rfl⟩ := owns_sl h2
  refine ⟨A, c', w', hr, h2, h3, ?_⟩
  subst hsize
  subst hby
  have hsmall : n + m ≤ 9223372036854775807 := by simp only [maxLen] at h63; omega
  rcases hown.2 with ⟨rfl, rfl⟩ | ⟨g, cap, cur, rfl, hbg, hg, hnc, hcm, hcs, htake⟩
  · have hr2 := run_append_nil (P := P) (w := w) t ty e i z ht hi hz a m c news hl hnews hm (by omega) (by have hb := hbytes; simp only [Nat.zero_add] at hb; omega)
    have e1 := hr.symm.trans hr2
    simp only [Result.ok.injEq, Value.slice.injEq] at e1
    right
    rw [e1.1.1]; rfl
  · by_cases hroom : n + m ≤ cap
    · have hfit : n * i.size + news.length ≤ cur.size := by rw [hl, hcs, ← Nat.add_mul]; exact Nat.mul_le_mul_right _ hroom
      have hr2 := run_append_room (P := P) w t ty e i ht hi g n cap cur hg a m c news hl hnews h1 hroom hfit
      have e1 := hr.symm.trans hr2
      simp only [Result.ok.injEq, Value.slice.injEq] at e1
      left
      rw [e1.1.1]; exact ⟨rfl, by simp [Value.ownBlock]⟩
    · have holds : ∀ j u, xs[j]? = some u → w.cell? ((⟨g, 0, none⟩ : Addr).add j) = some u := hown.cells (g := g) rfl
      have hr2 := run_append_grow (P := P) (w := w) t ty e i z ht hi hz ⟨g, 0, none⟩ n cap xs hown.1 holds a m c news hl hnews (by omega) (by omega) (growslice_fits (by omega) hbytes)
      have e1 := hr.symm.trans hr2
      simp only [Result.ok.injEq, Value.slice.injEq] at e1
      right
      rw [e1.1.1]; rfl
theorem wpo_append2 {o : Oper} {a : Act} {w : World} {K : Act → World → Prop} {Q : Exit → Act → World → Prop} (s x : Operand) (t : TypeId)
    (ho : o.op = .call { callee := .builtin .append, args := #[s, x], argTypes := #[t, t] })
    (base : Nat) (e : TypeId) (i : TypeInfo) (z : Value) (size bytes : Nat) (ht : P.underlying t = some (.slice e)) (hi : P.info? e = some i) (hz : i.zero = some z)
    (hsize : i.size = size) (hby : i.bytes = bytes) (hzs : z.cells.size = size) (hsz : 0 < size)
    (v : Value) (n : Nat) (xs : List Value) (hs : a.eval s = v) (hown : w.ownsRow base e size v n xs)
    (ad : Addr) (m c : Nat) (news : List Value) (hx : a.eval x = .slice (some ad) m c) (hl : news.length = m * size) (hnews : ∀ j u, news[j]? = some u → w.cell? (ad.add j) = some u) (h1 : ∀ u ∈ news, u.oneCell' = true)
    (h63 : n + m ≤ maxLen) (hbytes : (n + m) * bytes ≤ 140737488355328) (hbase : base ≤ w.heap.size) (hm : 0 < m)
    (h : ∀ A c' w', w'.ownsRow base e size (.slice A (n + m) c') (n + m) (xs ++ news) → w.grownBy w' v.ownBlock → ((Value.slice A (n + m) c').ownBlock = v.ownBlock ∧ v.ownBlock ≠ none ∨ (Value.slice A (n + m) c').ownBlock = some w.heap.size) → K (a.put o.dst (.slice A (n + m) c')) w') : o.wp P a w K Q := by
  obtain ⟨A, c', w', hr, h2, h3, h4⟩ := run_append_own2 (P := P) w base t o.type e i z size bytes ht hi hz hsize hby hzs hsz v n xs hown ad m c news hl hnews h1 h63 hbytes hbase hm
  unfold Oper.wp execOp
  simp only [ho, resolve, invoke, builtin, Sem.run_bind, Sem.run_pure, Result.andThen_ok, List.map_toArray, List.map_cons, List.map_nil, hs, hx, hr]
  exact h A c' w' h2 h3 h4
theorem wpList_append2 {ops : Array Oper} {rest : List Oper} {o : Oper} {a : Act} {w : World} {Q : Exit → Act → World → Prop} (hgd : o.guard = none) (s x : Operand) (t : TypeId)
    (ho : o.op = .call { callee := .builtin .append, args := #[s, x], argTypes := #[t, t] })
    (base : Nat) (e : TypeId) (i : TypeInfo) (z : Value) (size bytes : Nat) (ht : P.underlying t = some (.slice e)) (hi : P.info? e = some i) (hz : i.zero = some z)
    (hsize : i.size = size) (hby : i.bytes = bytes) (hzs : z.cells.size = size) (hsz : 0 < size)
    (v : Value) (n : Nat) (xs : List Value) (hs : a.eval s = v) (hown : w.ownsRow base e size v n xs)
    (ad : Addr) (m c : Nat) (news : List Value) (hx : a.eval x = .slice (some ad) m c) (hl : news.length = m * size) (hnews : ∀ j u, news[j]? = some u → w.cell? (ad.add j) = some u) (h1 : ∀ u ∈ news, u.oneCell' = true)
    (h63 : n + m ≤ maxLen) (hbytes : (n + m) * bytes ≤ 140737488355328) (hbase : base ≤ w.heap.size) (hm : 0 < m)
    (h : ∀ A c' w', w'.ownsRow base e size (.slice A (n + m) c') (n + m) (xs ++ news) → w.grownBy w' v.ownBlock → ((Value.slice A (n + m) c').ownBlock = v.ownBlock ∧ v.ownBlock ≠ none ∨ (Value.slice A (n + m) c').ownBlock = some w.heap.size) → wpList P ops Q rest (a.put o.dst (.slice A (n + m) c')) w') : wpList P ops Q (o :: rest) a w :=
  wpList_plain hgd fun _ hK => wpo_append2 s x t ho base e i z size bytes ht hi hz hsize hby hzs hsz v n xs hs hown ad m c news hx hl hnews h1 h63 hbytes hbase hm fun A c' w' h2 h3 h4 => hK _ _ (h A c' w' h2 h3 h4)
end

/-! Two lists of one's own, in whose blocks no list of a state lies. -/
def obTop (v : Value) : Nat := match v.ownBlock with
  | some g => g + 1
  | none => 0
@[reducible] def exV (E : Exc) (v1 v2 : Value) : Exc := ⟨fun b => E.ex b ∨ v1.ownBlock = some b ∨ v2.ownBlock = some b, max E.top (max (obTop v1) (obTop v2)), fun b hb => by
  rcases hb with hb | hb | hb
  · have := E.lt b hb; omega
  · unfold obTop; rw [hb]; simp only; omega
  · unfold obTop; rw [hb]; simp only; omega⟩
theorem obTop_own {w : World} {B k n : Nat} {t : TypeId} {v : Value} {xs : List Value} (h : w.ownsRow B t k v n xs) : obTop v ≤ w.heap.size := by
  unfold obTop
  cases hv : v.ownBlock with
  | none => exact Nat.zero_le _
  | some g => have := (h.lt g hv).2; simp only; omega
/-- The first list is appended to. -/
theorem RefAt.app1 {E : Exc} {w w' : World} {v1 v2 v' : Value} {R : RX} {S : Sys} (h : @RefAt (exV E v1 v2) w w.heap.size R S) (hg : w.grownBy w' v1.ownBlock) (hn : v'.ownBlock = v1.ownBlock ∧ v1.ownBlock ≠ none ∨ v'.ownBlock = some w.heap.size) (ht : obTop v' ≤ w'.heap.size) : @RefAt (exV E v' v2) w' w'.heap.size R S := fun k hk => by
  have h1 := h k hk
  have h2 := @SlO.sl (exV E v1 v2) _ _ _ _ _ h1
  have h3 : max E.top (max (obTop v1) (obTop v2)) ≤ w.heap.size := @SlO.top (exV E v1 v2) _ _ _ _ _ h1
  have h4 := @SlO.out (exV E v1 v2) _ _ _ _ _ h1
  have hsz := hg.size
  refine @SlO.mk (exV E v' v2) w' _ _ _ _ ⟨h2.1, fun hn0 => ?_⟩ (by show max E.top (max (obTop v') (obTop v2)) ≤ _; omega) (fun b off hn0 e hx => ?_)
  · obtain ⟨b, off, e, hD, hc⟩ := h2.2 hn0
    have hne : some b ≠ v1.ownBlock := fun hh => h4 b off hn0 e (Or.inr (Or.inl hh.symm))
    have hD' : b < w.heap.size := hD
    exact ⟨b, off, e, Nat.lt_of_lt_of_le hD' hsz, fun i hi j hj => (World.cell?_of_block (hg.block b hD' hne)).trans (hc i hi j hj)⟩
  · obtain ⟨b', off', e', hD, _⟩ := h2.2 hn0
    rw [e] at e'
    have e2 : b = b' := by injection e' with e'; injection e'
    have hD' : b < w.heap.size := by rw [e2]; exact hD
    rcases hx with hx | hx | hx
    · exact h4 b off hn0 e (Or.inl hx)
    · rcases hn with hn | hn
      · exact h4 b off hn0 e (Or.inr (Or.inl (by rw [← hn.1]; exact hx)))
      · rw [hn] at hx; injection hx with hx; omega
    · exact h4 b off hn0 e (Or.inr (Or.inr hx))
theorem RefAt.app2 {E : Exc} {w w' : World} {v1 v2 v' : Value} {R : RX} {S : Sys} (h : @RefAt (exV E v1 v2) w w.heap.size R S) (hg : w.grownBy w' v2.ownBlock) (hn : v'.ownBlock = v2.ownBlock ∧ v2.ownBlock ≠ none ∨ v'.ownBlock = some w.heap.size) (ht : obTop v' ≤ w'.heap.size) : @RefAt (exV E v1 v') w' w'.heap.size R S := fun k hk => by
  have h1 := h k hk
  have h2 := @SlO.sl (exV E v1 v2) _ _ _ _ _ h1
  have h3 : max E.top (max (obTop v1) (obTop v2)) ≤ w.heap.size := @SlO.top (exV E v1 v2) _ _ _ _ _ h1
  have h4 := @SlO.out (exV E v1 v2) _ _ _ _ _ h1
  have hsz := hg.size
  refine @SlO.mk (exV E v1 v') w' _ _ _ _ ⟨h2.1, fun hn0 => ?_⟩ (by show max E.top (max (obTop v1) (obTop v')) ≤ _; omega) (fun b off hn0 e hx => ?_)
  · obtain ⟨b, off, e, hD, hc⟩ := h2.2 hn0
    have hne : some b ≠ v2.ownBlock := fun hh => h4 b off hn0 e (Or.inr (Or.inr hh.symm))
    have hD' : b < w.heap.size := hD
    exact ⟨b, off, e, Nat.lt_of_lt_of_le hD' hsz, fun i hi j hj => (World.cell?_of_block (hg.block b hD' hne)).trans (hc i hi j hj)⟩
  · obtain ⟨b', off', e', hD, _⟩ := h2.2 hn0
    rw [e] at e'
    have e2 : b = b' := by injection e' with e'; injection e'
    have hD' : b < w.heap.size := by rw [e2]; exact hD
    rcases hx with hx | hx | hx
    · exact h4 b off hn0 e (Or.inl hx)
    · exact h4 b off hn0 e (Or.inr (Or.inl hx))
    · rcases hn with hn | hn
      · exact h4 b off hn0 e (Or.inr (Or.inr (by rw [← hn.1]; exact hx)))
      · rw [hn] at hx; injection hx with hx; omega

/-! The rows of the document's search in memory. -/
def spS (p : PlantD) (s : Spots) : Sys := { startB p with at_ := s }
def row0 : RowD := ⟨zeroS, []⟩
def rowF (p : PlantD) (R : RX) (A : Option Addr) (n c : Nat) : Nat → Value
  | 9 => .slice A n c
  | j => .slice (R.a j) (lenR p j) (R.c j)
structure RowsQ (E : Exc) (wr : World) (B : Nat) (p : PlantD) (l : List RowD) (rv cv : Value) (Rs : Nat → RX) (OA : Nat → Option Addr) (oc : Nat → Nat) : Prop where
  own1 : wr.ownsRow B 125 10 rv l.length (rowsL l.length 10 fun i => rowF p (Rs i) (OA i) (l.getD i row0).ords.length (oc i))
  own2 : wr.ownsRow B 3 1 cv l.length (rowsL l.length 1 fun i _ => .int .i64 (codeB p (l.getD i row0).at_))
  ok : ∀ i, i < l.length → SpotsOk p (l.getD i row0).at_
  st : ∀ i, i < l.length → @RefAt (exV E rv cv) wr wr.heap.size (Rs i) (spS p (l.getD i row0).at_)
  od : ∀ i, i < l.length → Cl wr B 38 2 (OA i) (l.getD i row0).ords.length fun k => litC ((l.getD i row0).ords.getD k lit0)
  base : B ≤ wr.heap.size
theorem RowsQ.later {E : Exc} {wr w1 : World} {B : Nat} {p : PlantD} {l : List RowD} {rv cv : Value} {Rs : Nat → RX} {OA : Nat → Option Addr} {oc : Nat → Nat} (h : RowsQ E wr B p l rv cv Rs OA oc) (hb : Below wr.heap.size wr w1) : RowsQ E w1 B p l rv cv Rs OA oc := by
  letI : Exc := exV E rv cv
  exact ⟨World.ownsRow.of_below h.own1 hb, World.ownsRow.of_below h.own2 hb, h.ok, fun i hi => (RefAt.below (h.st i hi) hb).mono hb.size, fun i hi => (h.od i hi).below hb, by have := h.base; have := hb.size; omega⟩
end Go.Proofs.YtogobjmmgjfjjaaGreat
/- What is proved: a contract of the document's add. Conditions: the plant, the rows, the codes, the new row lie in memory; the rows are few. -/
namespace Go.Proofs.YtogobjmmgjfjjaaGreat
open Go.RowKit

def updR (f : Nat → RX) (i : Nat) (R : RX) : Nat → RX := fun j => if j = i then R else f j
theorem getD_push {l : List RowD} {r : RowD} {i : Nat} (hi : i < l.length) : (l ++ [r]).getD i row0 = l.getD i row0 := by
  simp only [List.getD_eq_getElem?_getD]; rw [List.getElem?_append_left hi]
theorem getD_push_eq {l : List RowD} {r : RowD} : (l ++ [r]).getD l.length row0 = r := by
  simp only [List.getD_eq_getElem?_getD]; simp
theorem RowsQ.add {E : Exc} {w1 w2 w3 w4 : World} {B : Nat} {p : PlantD} {l : List RowD} {rv cv rv' cv' : Value} {Rs : Nat → RX} {OA : Nat → Option Addr} {oc : Nat → Nat} (h : RowsQ E w1 B p l rv cv Rs OA oc) {r : RowD} {R' : RX} {A' : Option Addr} {c' : Nat}
    (hok : SpotsOk p r.at_) (hst : @RefAt (exV E rv cv) w1 w1.heap.size R' (spS p r.at_)) (hod : Cl w1 B 38 2 A' r.ords.length fun k => litC (r.ords.getD k lit0)) {news1 : List Value} (hnews1 : news1 = (List.range 10).map (rowF p R' A' r.ords.length c'))
    (hown1 : w2.ownsRow B 125 10 rv' (l.length + 1) (rowsL l.length 10 (fun i => rowF p (Rs i) (OA i) (l.getD i row0).ords.length (oc i)) ++ news1)) (hg1 : w1.grownBy w2 rv.ownBlock) (hn1 : rv'.ownBlock = rv.ownBlock ∧ rv.ownBlock ≠ none ∨ rv'.ownBlock = some w1.heap.size)
    (hb : Below w2.heap.size w2 w3)
    (hown2 : w4.ownsRow B 3 1 cv' (l.length + 1) (rowsL l.length 1 (fun i _ => .int .i64 (codeB p (l.getD i row0).at_)) ++ [.int .i64 (codeB p r.at_)])) (hg2 : w3.grownBy w4 cv.ownBlock) (hn2 : cv'.ownBlock = cv.ownBlock ∧ cv.ownBlock ≠ none ∨ cv'.ownBlock = some w3.heap.size) :
    RowsQ E w4 B p (l ++ [r]) rv' cv' (updR Rs l.length R') (updA OA l.length A') (updC oc l.length c') ∧ Below B w1 w4 := by
  have k1 : KT 125 w1 w2 := KT.grown h.own1 hg1
  have hcv3 : w3.ownsRow B 3 1 cv l.length _ := World.ownsRow.of_below (ownsKt h.own2 k1 (by decide)) hb
  have k2 : KT 3 w3 w4 := KT.grown hcv3 hg2
  have t1 := obTop_own hown1
  have t2 := obTop_own hown2
  have key : ∀ R S, @RefAt (exV E rv cv) w1 w1.heap.size R S → @RefAt (exV E rv' cv') w4 w4.heap.size R S := fun R S hh => by
    have h2 := RefAt.app1 hh hg1 hn1 t1
    have h3 : @RefAt (exV E rv' cv) w3 w3.heap.size R S := by
      letI : Exc := exV E rv' cv
      exact (RefAt.below h2 hb).mono hb.size
    exact RefAt.app2 h3 hg2 hn2 t2
  have hod' : ∀ A n f, Cl w1 B 38 2 A n f → Cl w4 B 38 2 A n f := fun A n f hh => ((hh.kt k1 (by decide)).below hb).kt k2 (by decide)
  have hl1 : (l ++ [r]).length = l.length + 1 := by simp
  refine ⟨⟨?_, ?_, fun i hi => ?_, fun i hi => ?_, fun i hi => ?_, ?_⟩, ?_⟩
  · rw [hl1]
    have e : rowsL (l.length + 1) 10 (fun i => rowF p (updR Rs l.length R' i) (updA OA l.length A' i) ((l ++ [r]).getD i row0).ords.length (updC oc l.length c' i)) = rowsL l.length 10 (fun i => rowF p (Rs i) (OA i) (l.getD i row0).ords.length (oc i)) ++ news1 := by
      rw [rowsL_succ _ 10 (by omega), hnews1]
      congr 1
      · refine rowsL_congr _ 10 (by omega) fun i hi j _ => ?_
        unfold updR updA updC
        rw [if_neg (by omega), if_neg (by omega), if_neg (by omega), getD_push hi]
      · rw [getD_push_eq]
        unfold updR updA updC
        rw [if_pos rfl, if_pos rfl, if_pos rfl]
    rw [e]
    exact ownsKt (World.ownsRow.of_below hown1 hb) k2 (by decide)
  · rw [hl1]
    have e : rowsL (l.length + 1) 1 (fun i _ => Value.int .i64 (codeB p ((l ++ [r]).getD i row0).at_)) = rowsL l.length 1 (fun i _ => .int .i64 (codeB p (l.getD i row0).at_)) ++ [.int .i64 (codeB p r.at_)] := by
      rw [rowsL_succ _ 1 (by omega)]
      congr 1
      · exact rowsL_congr _ 1 (by omega) fun i hi j _ => by rw [getD_push hi]
      · rw [getD_push_eq]; rfl
    rw [e]
    exact hown2
  · rw [hl1] at hi
    by_cases e : i = l.length
    · subst e; rw [getD_push_eq]; exact hok
    · rw [getD_push (by omega)]; exact h.ok i (by omega)
  · rw [hl1] at hi
    by_cases e : i = l.length
    · subst e; rw [getD_push_eq]; unfold updR; rw [if_pos rfl]; exact key _ _ hst
    · rw [getD_push (by omega)]; unfold updR; rw [if_neg e]; exact key _ _ (h.st i (by omega))
  · rw [hl1] at hi
    by_cases e : i = l.length
    · subst e; rw [getD_push_eq]; unfold updA; rw [if_pos rfl]; exact hod' _ _ _ hod
    · rw [getD_push (by omega)]; unfold updA; rw [if_neg e]; exact hod' _ _ _ (h.od i (by omega))
  · have := h.base; have := hg1.size; have := hb.size; have := hg2.size; omega
  · have hB := h.base
    have h1 : Below B w1 w2 := (Below.refl B w1).grown hg1 hB fun k hk => (h.own1.lt k hk).1
    have h2 : Below B w2 w3 := hb.mono (by have := hg1.size; omega)
    exact (h1.trans h2).grown hg2 (by have := hg1.size; have := hb.size; omega) fun k hk => (hcv3.lt k hk).1

theorem hasSp_of {p : PlantD} {l : List RowD} {s : Spots} (hv : ValvesOk p) (hl : ∀ i, i < l.length → SpotsOk p (l.getD i row0).at_) (hs : SpotsOk p s) {k : Nat} (hk : k < l.length) (h : codeB p (l.getD k row0).at_ = codeB p s) : hasSp l s = true := by
  have h1 := codeB_same hv (hl k hk) hs
  rw [decide_eq_true h] at h1
  unfold hasSp
  rw [List.any_eq_true]
  refine ⟨l.getD k row0, ?_, h1.symm⟩
  rw [List.getD_eq_getElem?_getD, List.getElem?_eq_getElem hk]
  exact List.getElem_mem hk
theorem hasSp_no {p : PlantD} {l : List RowD} {s : Spots} (hv : ValvesOk p) (hl : ∀ i, i < l.length → SpotsOk p (l.getD i row0).at_) (hs : SpotsOk p s) (h : ∀ k, k < l.length → codeB p (l.getD k row0).at_ ≠ codeB p s) : hasSp l s = false := by
  unfold hasSp
  rw [List.any_eq_false]
  intro x hx
  obtain ⟨k, hk, rfl⟩ := List.mem_iff_getElem.1 hx
  have e : l.getD k row0 = l[k] := by rw [List.getD_eq_getElem?_getD, List.getElem?_eq_getElem hk]; rfl
  have h1 := codeB_same hv (hl k hk) hs
  rw [decide_eq_false (h k hk), e] at h1
  rw [← h1]; decide
def rowArr (p : PlantD) (R : RX) (A : Option Addr) (n c : Nat) : Array Value :=
  #[.slice (R.a 0) p.tanks.length (R.c 0), .slice (R.a 1) p.tanks.length (R.c 1), .slice (R.a 2) p.valves.length (R.c 2), .slice (R.a 3) p.valves.length (R.c 3), .slice (R.a 4) p.valves.length (R.c 4), .slice (R.a 5) p.tanks.length (R.c 5), .slice (R.a 6) p.lines.length (R.c 6), .slice (R.a 7) p.tanks.length (R.c 7), .slice (R.a 8) p.tanks.length (R.c 8), .slice A n c]
theorem rowArr_range (p : PlantD) (R : RX) (A : Option Addr) (n c : Nat) : (rowArr p R A n c).toList = (List.range 10).map (rowF p R A n c) := rfl
theorem rowArr_one (p : PlantD) (R : RX) (A : Option Addr) (n c : Nat) : ∀ u ∈ (rowArr p R A n c).toList, u.oneCell' = true := by
  intro u hu; simp [rowArr] at hu; rcases hu with rfl | rfl | rfl | rfl | rfl | rfl | rfl | rfl | rfl | rfl <;> rfl
theorem infoC_Row : (Tryz.prog.info? 125).map (fun i => (i.zero, i.size, i.bytes)) = some (some (.agg (rowArr ⟨[], [], [], []⟩ nilR none 0 0)), 10, 240) := by kernel_rfl
theorem und_row : Tryz.prog.underlying 125 = some (.struct (match Tryz.prog.underlying 125 with | some (.struct f) => f | _ => #[])) := by kernel_rfl
theorem info_row : (Tryz.prog.info? 125).map (·.size) = some 10 := by kernel_rfl
def AddPost (E : Exc) (w : World) (B : Nat) (p : PlantD) (l : List RowD) (e : Ending) (w' : World) : Prop :=
  ∃ A c A' c' Rs OA oc, e = .returned (.tuple #[.slice A l.length c, .slice A' l.length c']) ∧ RowsQ E w' B p l (.slice A l.length c) (.slice A' l.length c') Rs OA oc ∧ Below B w w'
end Go.Proofs.YtogobjmmgjfjjaaGreat
/- What is proved: a contract of the document's add. Conditions: the plant, the rows, the codes, the new row lie in memory; the rows are few. -/
namespace Go.Proofs.YtogobjmmgjfjjaaGreat
open Go.RowKit

set_option maxRecDepth 100000 in
set_option maxHeartbeats 8000000 in
theorem refAdd_any {E : Exc} (w : World) (B : Nat) (x : PV) (p : PlantD) (_hp : PlantAt w w.heap.size x p) (hv : ValvesOk p) (l : List RowD) (A1 A2 : Option Addr) (c1 c2 : Nat) (Rs : Nat → RX) (OA : Nat → Option Addr) (oc : Nat → Nat) (h : RowsQ E w B p l (.slice A1 l.length c1) (.slice A2 l.length c2) Rs OA oc) (hlen : l.length ≤ 1000)
    (r : RowD) (R : RX) (A : Option Addr) (c : Nat) (hok : SpotsOk p r.at_) (hst : @RefAt (exV E (.slice A1 l.length c1) (.slice A2 l.length c2)) w w.heap.size R (spS p r.at_)) (hod : Cl w B 38 2 A r.ords.length fun k => litC (r.ords.getD k lit0)) :
    Calls Tryz.prog 43 #[.agg (plantA x p), .slice A1 l.length c1, .slice A2 l.length c2, .agg (rowArr p R A r.ords.length c)] w (AddPost E w B p (addD l r)) := by
  obtain ⟨W, hW⟩ : ∃ W, W = (w.alloc (.cells (plantA x p) 27)).alloc (.cells (rowArr p R A r.ords.length c) 125) := ⟨_, rfl⟩
  have hbW : Below w.heap.size w W := by rw [hW]; exact ((Below.refl _ _).alloc (Nat.le_refl _) _).alloc (by simp) _
  have hWs : W.heap.size = w.heap.size + 2 := by rw [hW]; simp
  have hb0 : Bk W w.heap.size 27 (plantA x p) := by rw [hW]; exact (Bk.new _ _ _).alloc _
  have hb1 : Bk W (w.heap.size + 1) 125 (rowArr p R A r.ords.length c) := by rw [hW]; exact Bk.newAt _ _ _ _ (by simp)
  have hq := h.later hbW
  have hcd := @refCode_any (exV E (.slice A1 l.length c1) (.slice A2 l.length c2)) W x R (spS p r.at_) (by
    letI : Exc := exV E (.slice A1 l.length c1) (.slice A2 l.length c2)
    exact (RefAt.below hst hbW).mono hbW.size) hv hok
  have HCD : Hid (Calls Tryz.prog 111 #[.agg (plantA x p), .agg (refA R p.tanks.length p.valves.length p.lines.length)] W fun e w' => e = .returned (.int .i64 (codeB p r.at_)) ∧ Below W.heap.size W w') := Lib.hid hcd
  have HQ := Lib.hid hq
  have HST : Hid (@RefAt (exV E (.slice A1 l.length c1) (.slice A2 l.length c2)) W W.heap.size R (spS p r.at_)) := Lib.hid (by
    letI : Exc := exV E (.slice A1 l.length c1) (.slice A2 l.length c2)
    exact (RefAt.below hst hbW).mono hbW.size)
  have HOD := Lib.hid (hod.below hbW)
  have HOK := Lib.hid hok
  have HV := Lib.hid hv
  have HB0 := Lib.hid hb0
  have HB1 := Lib.hid hb1
  have HB : Hid (Below B w W) := Lib.hid (hbW.mono h.base)
  have HW := Lib.hid hW
  obtain ⟨iR, hiR, hzR, hsR, hbR⟩ := info_parts infoC_Row
  obtain ⟨iI, hiI, hzI, hsI, hbI⟩ := info_parts infoC_Int
  have HROW : Hid (Tryz.prog.info? 125 = some iR ∧ iR.zero = some (.agg (rowArr ⟨[], [], [], []⟩ nilR none 0 0)) ∧ iR.size = 10 ∧ iR.bytes = 240) := Lib.hid ⟨hiR, hzR, hsR, hbR⟩
  have HINT : Hid (Tryz.prog.info? 3 = some iI ∧ iI.zero = some (.int .i64 0) ∧ iI.size = 1 ∧ iI.bytes = 8) := Lib.hid ⟨hiI, hzI, hsI, hbI⟩
  obtain ⟨n, hn⟩ : ∃ n, l.length = n := ⟨_, rfl⟩
  have HN := Lib.hid hn
  rw [hn] at hlen HQ HST ⊢
  simp only [plantA, rowArr] at HW
  simp only [plantA, refA] at HCD
  dsimp only [plantA, rowArr]
  have HYES : Hid (hasSp l r.at_ = true → addD l r = l) := Lib.hid fun e => by unfold addD; rw [if_pos e]
  have HNO : Hid (hasSp l r.at_ = false → addD l r = l ++ [r]) := Lib.hid fun e => by unfold addD; rw [if_neg (by rw [e]; decide)]
  clear hv h hok hst hod hW hbW hWs hb0 hb1 hq hcd hiR hzR hsR hbR hiI hzI hsI hbI hn
  go_enter Tryz.func43, Tryz.ntmps43
  go_wp2_with fail
  rw [← HW.out]
  go_wp2_with (first
    | (refine wpLoadAt rfl 27 _ rfl w.heap.size 0 rfl (plantA x p) _ (fun j u hj => by rw [Nat.zero_add]; exact (HB0.out.cell j).trans hj) und_plant rfl info_plant ?_)
    | (refine wpLoadAt rfl 53 _ rfl (w.heap.size + 1) 0 rfl (refA R p.tanks.length p.valves.length p.lines.length) _ (fun j u hj => by rw [Nat.zero_add]; refine (HB1.out.cell j).trans ?_; have hj9 := (Array.getElem?_eq_some_iff.1 hj).1; match j, hj9, hj with | 0, _, hj => exact hj | 1, _, hj => exact hj | 2, _, hj => exact hj | 3, _, hj => exact hj | 4, _, hj => exact hj | 5, _, hj => exact hj | 6, _, hj => exact hj | 7, _, hj => exact hj | 8, _, hj => exact hj | j + 9, hj9, _ => exact absurd hj9 (by show ¬ j + 9 < 9; omega)) und_state rfl info_state ?_))
  refine HCD.out.mono ?_
  rintro e w1 ⟨rfl, hb1⟩
  have HQ1 := Lib.hid (HQ.out.later hb1)
  have HX1 := Lib.hid (HB1.out.below hb1 HB1.out.lt)
  have HOD1 := Lib.hid (HOD.out.below hb1)
  have HST1 : Hid (@RefAt (exV E (.slice A1 n c1) (.slice A2 n c2)) w1 w1.heap.size R (spS p r.at_)) := Lib.hid (by
    letI : Exc := exV E (.slice A1 n c1) (.slice A2 n c2)
    exact (RefAt.below HST.out hb1).mono hb1.size)
  have HBB : Hid (Below B w w1) := Lib.hid (HB.out.trans (hb1.mono HQ.out.base))
  clear hb1 HQ HB1 HB0 HOD HST HB HCD
  obtain ⟨cd, hcd⟩ : ∃ cd, codeB p r.at_ = cd := ⟨_, rfl⟩
  rw [hcd]
  have HC := Lib.hid hcd
  clear hcd
  go_wp2_with fail
  go_loop [11] (fun i => ∃ k : Nat, k ≤ n ∧ i = .int .i64 k ∧ Hid (∀ j, j < k → codeB p (l.getD j row0).at_ ≠ cd)) (fun i => n - (intOf i).toNat)
  case atStart => exact ⟨0, Nat.zero_le _, rfl, Lib.hid fun j hj => absurd hj (by omega)⟩
  case round =>
    obtain ⟨k, hk, rfl, hm⟩ := hrel
    by_cases hlt : k < n
    · have hki : (k : Int) < (n : Int) := by omega
      have h0k : (0 : Int) ≤ (k : Int) := by omega
      have hlt' : k < l.length := by rw [HN.out]; exact hlt
      have hcl := Cl.of_own (by rw [HN.out]; omega) HQ1.out.own2
      obtain ⟨A9, c9, e9, hcl⟩ := hcl
      have e10 : A2 = A9 := by simpa using (Value.slice.inj e9).1
      rw [← e10] at hcl
      obtain ⟨b2, cur2, hA2, _, hbk2, hcc2⟩ := hcl.2 (by omega)
      have d2 : w1.cell? ⟨b2, k, none⟩ = some (.int .i64 (codeB p (l.getD k row0).at_)) := by have := hcc2 k hlt' 0 (by omega); rw [Nat.mul_one, Nat.add_zero] at this; exact (hbk2.cell k).trans this
      obtain ⟨ck, hck⟩ : ∃ ck, codeB p (l.getD k row0).at_ = ck := ⟨_, rfl⟩
      rw [hck] at d2
      have HCK := Lib.hid hck
      clear hcl e9 e10 hbk2 hcc2 hck
      subst hA2
      by_cases he : ck = cd
      · have HAD : Hid (addD l r = l) := Lib.hid (HYES.out (hasSp_of HV.out HQ1.out.ok HOK.out hlt' (by rw [HCK.out, he, HC.out])))
        subst he
        go_wp2_with fail
        go_ret2
        rw [HAD.out]
        exact ⟨A1, c1, _, c2, Rs, OA, oc, by rw [HN.out]; rfl, by rw [HN.out]; exact HQ1.out, HBB.out⟩
      · go_wp2_with fail
        go_round
        case rel => exact ⟨k + 1, by omega, by go_num, Lib.hid fun j hj => if e : j = k then by rw [e, HCK.out]; exact he else hm.out j (by omega)⟩
        case measure => simp [intOf]; omega
    · obtain rfl : k = n := by omega
      have HAD : Hid (addD l r = l ++ [r]) := Lib.hid (HNO.out (hasSp_no HV.out HQ1.out.ok HOK.out fun j hj => by rw [HC.out]; exact hm.out j (by rw [← HN.out]; exact hj)))
      have hkk : ¬ ((k : Int) < (k : Int)) := by omega
      have HAL : Hid (∀ o, Below w1.heap.size w1 (w1.alloc o)) := Lib.hid fun o => (Below.refl _ _).alloc (Nat.le_refl _) _
      have HOW1 : Hid (∀ o, (w1.alloc o).ownsRow B 125 10 (.slice A1 k c1) k (rowsL k 10 fun i => rowF p (Rs i) (OA i) (l.getD i row0).ords.length (oc i))) := Lib.hid fun o => by
        have h := HQ1.out.own1
        rw [HN.out] at h
        exact World.ownsRow.of_below h (HAL.out o)
      have HW1S : Hid (B ≤ w1.heap.size) := Lib.hid HQ1.out.base
      clear hlt
      have HOW2 : Hid (w1.ownsRow B 3 1 (.slice A2 k c2) k (rowsL k 1 fun i _ => .int .i64 (codeB p (l.getD i row0).at_))) := Lib.hid (by
        have h := HQ1.out.own2
        rw [HN.out] at h
        exact h)
      obtain ⟨r0, r1, r2, r3, r4, r5, r6, r7, r8, r9, hra⟩ : ∃ r0 r1 r2 r3 r4 r5 r6 r7 r8 r9, rowArr p R A r.ords.length c = #[r0, r1, r2, r3, r4, r5, r6, r7, r8, r9] := ⟨_, _, _, _, _, _, _, _, _, _, rfl⟩
      have HRA := Lib.hid hra
      rw [hra] at HX1
      have HRO : Hid (∀ u ∈ [r0, r1, r2, r3, r4, r5, r6, r7, r8, r9], u.oneCell' = true) := Lib.hid (by have h := rowArr_one p R A r.ords.length c; rw [hra] at h; exact h)
      clear hra
      go_wp2_with (first
        | (refine wpLoadAt rfl 125 _ rfl (w.heap.size + 1) 0 rfl #[r0, r1, r2, r3, r4, r5, r6, r7, r8, r9] _ (fun j u hj => by rw [Nat.zero_add]; exact (HX1.out.cell j).trans hj) und_row rfl info_row ?_)
        | (at_builtin; refine wpList_append2 rfl (.tmp 30) (.tmp 32) 121 rfl B 125 iR (.agg (rowArr ⟨[], [], [], []⟩ nilR none 0 0)) 10 240 Tryz.underlying121 HROW.out.1 HROW.out.2.1 HROW.out.2.2.1 HROW.out.2.2.2 rfl (by decide) (.slice A1 k c1) k _ rfl (HOW1.out _) ⟨w1.heap.size, 0, none⟩ 1 1 [r0, r1, r2, r3, r4, r5, r6, r7, r8, r9] rfl ?qc1 ?qc2 ?qc3 ?qc4 ?qc5 ?qc6 (by decide) ?_))
      case qc3 => simpa using HRO.out
      case qc4 => simp only [maxLen]; omega
      case qc5 => omega
      case qc6 => have := HW1S.out; simp; omega
      intro A3 c3 w2 hown1 hg1 hn1
      have HOWN1 := Lib.hid hown1
      have HG1 := Lib.hid hg1
      have HN1 := Lib.hid hn1
      clear hown1 hg1 hn1
      have HOW3 : Hid (∀ o, (w2.alloc o).ownsRow B 3 1 (.slice A2 k c2) k (rowsL k 1 fun i _ => .int .i64 (codeB p (l.getD i row0).at_))) := Lib.hid fun o =>
        World.ownsRow.of_below (ownsKt (World.ownsRow.of_below HOW2.out (HAL.out _)) (KT.grown (HOW1.out _) HG1.out) (by decide)) ((Below.refl _ _).alloc (Nat.le_refl _) o)
      have HW2S : Hid (B ≤ w2.heap.size) := Lib.hid (by have := HW1S.out; have h := HG1.out.size; simp at h; omega)
      go_wp2_with (at_builtin; refine wpList_append2 rfl (.tmp 34) (.tmp 36) 50 rfl B 3 iI (.int .i64 0) 1 8 Tryz.underlying50 HINT.out.1 HINT.out.2.1 HINT.out.2.2.1 HINT.out.2.2.2 rfl (by decide) (.slice A2 k c2) k _ rfl (HOW3.out _) ⟨w2.heap.size, 0, none⟩ 1 1 [.int .i64 cd] rfl ?qd1 ?qd2 ?qd3 ?qd4 ?qd5 ?qd6 (by decide) ?_)
      case qd1 => rfl
      case qd2 =>
        intro j u hj
        rw [Addr.add_lit, Nat.zero_add]
        refine (Bk.new w2 3 #[.int .i64 cd]).cell j |>.trans ?_
        rw [← Array.getElem?_toList]; exact hj
      case qd3 => simp [Value.oneCell']
      case qd4 => simp only [maxLen]; omega
      case qd5 => omega
      case qd6 => have := HW2S.out; simp; omega
      intro A4 c4 w4 hown2 hg2 hn2
      have HOWN2 := Lib.hid hown2
      have HG2 := Lib.hid hg2
      have HN2 := Lib.hid hn2
      clear hown2 hg2 hn2
      go_wp2_with fail
      go_ret2
      have hq1 := HQ1.out.later (HAL.out (.cells #[r0, r1, r2, r3, r4, r5, r6, r7, r8, r9] 125))
      have hst1 : @RefAt (exV E (.slice A1 k c1) (.slice A2 k c2)) (w1.alloc (.cells #[r0, r1, r2, r3, r4, r5, r6, r7, r8, r9] 125)) (w1.alloc (.cells #[r0, r1, r2, r3, r4, r5, r6, r7, r8, r9] 125)).heap.size R (spS p r.at_) := by
        letI : Exc := exV E (.slice A1 k c1) (.slice A2 k c2)
        exact (RefAt.below HST1.out (HAL.out _)).mono (HAL.out _).size
      have hn1' : (Value.slice A3 (k + 1) c3).ownBlock = (Value.slice A1 k c1).ownBlock ∧ (Value.slice A1 k c1).ownBlock ≠ none ∨ (Value.slice A3 (k + 1) c3).ownBlock = some (w1.alloc (.cells #[r0, r1, r2, r3, r4, r5, r6, r7, r8, r9] 125)).heap.size := by simpa using HN1.out
      have hn2' : (Value.slice A4 (k + 1) c4).ownBlock = (Value.slice A2 k c2).ownBlock ∧ (Value.slice A2 k c2).ownBlock ≠ none ∨ (Value.slice A4 (k + 1) c4).ownBlock = some (w2.alloc (.cells #[.int .i64 cd] 3)).heap.size := by simpa using HN2.out
      have hr10 : [r0, r1, r2, r3, r4, r5, r6, r7, r8, r9] = (List.range 10).map (rowF p R A r.ords.length c) := by rw [← rowArr_range, HRA.out]
      have hadd := RowsQ.add (rv' := .slice A3 (k + 1) c3) (cv' := .slice A4 (k + 1) c4) (w2 := w2) (w3 := w2.alloc (.cells #[.int .i64 cd] 3)) (w4 := w4) hq1 (r := r) (R' := R) (A' := A) (c' := c) HOK.out hst1 (HOD1.out.below (HAL.out _)) hr10 (by rw [HN.out]; exact HOWN1.out) HG1.out hn1' ((Below.refl _ _).alloc (Nat.le_refl _) _) (by rw [HN.out, HC.out]; exact HOWN2.out) HG2.out hn2'
      rw [HAD.out]
      have hl1 : (l ++ [r]).length = k + 1 := by simp [HN.out]
      exact ⟨A3, c3, A4, c4, _, _, _, by rw [hl1]; rfl, by rw [hl1]; exact hadd.1, (HBB.out.trans ((HAL.out _).mono HW1S.out)).trans hadd.2⟩
end Go.Proofs.YtogobjmmgjfjjaaGreat
/- What is proved: a row of the document's search is read; the new list of orders. Conditions: the rows lie in memory. -/
namespace Go.Proofs.YtogobjmmgjfjjaaGreat
open Go.RowKit

theorem RowsQ.cell {E : Exc} {w : World} {B : Nat} {p : PlantD} {l : List RowD} {A1 : Option Addr} {c1 : Nat} {cv : Value} {Rs : Nat → RX} {OA : Nat → Option Addr} {oc : Nat → Nat} (h : RowsQ E w B p l (.slice A1 l.length c1) cv Rs OA oc) (hlen : l.length ≤ 1000) {i : Nat} (hi : i < l.length) :
    ∃ g, A1 = some ⟨g, 0, none⟩ ∧ ∀ j, j < 10 → w.cell? ⟨g, i * 10 + j, none⟩ = some (rowF p (Rs i) (OA i) (l.getD i row0).ords.length (oc i) j) := by
  obtain ⟨A9, c9, e9, hcl⟩ := Cl.of_own (by omega) h.own1
  have e10 : A1 = A9 := by simpa using (Value.slice.inj e9).1
  rw [← e10] at hcl
  obtain ⟨b, cur, hA, _, hbk, hcc⟩ := hcl.2 (by omega)
  exact ⟨b, hA, fun j hj => (hbk.cell _).trans (hcc i hi j hj)⟩
/-- The first list: none yet. -/
theorem RowsQ.nil {E : Exc} {w : World} {B : Nat} {p : PlantD} (hB : B ≤ w.heap.size) : RowsQ E w B p [] (.slice none ([] : List RowD).length 0) (.slice none ([] : List RowD).length 0) (fun _ => nilR) (fun _ => none) (fun _ => 0) :=
  ⟨World.ownsRow_nil w B 125 10, World.ownsRow_nil w B 3 1, fun _ h => absurd h (by simp), fun _ h => absurd h (by simp), fun _ h => absurd h (by simp), hB⟩

/-! Append of a list to one's own; the list may be empty. -/
section
variable {P : Program}
theorem run_append_zero (w : World) (t ty e : TypeId) (i : TypeInfo) (ht : P.underlying t = some (.slice e)) (hi : P.info? e = some i) (b : Addr) (n cap : Nat) (A : Option Addr) (c : Nat) (hn : n ≤ cap) :
    (Builtin.append_ #[t, t] ty #[.slice (some b) n cap, .slice A 0 c]).run P w = .ok (.slice (some b) n cap) w := by
  cases A with
  | none => simp [Builtin.append_, run_underlying ht, sizeOf, typeInfo, hi, Builtin.lenOf, hn, Builtin.firstCells, storeCells]
  | some a => simp [Builtin.append_, run_underlying ht, sizeOf, typeInfo, hi, Builtin.lenOf, hn, Builtin.firstCells, storeCells, loadCells, loadCellsFrom]
theorem run_append_any (w : World) (base : Nat) (t ty e : TypeId) (i : TypeInfo) (z : Value) (size bytes : Nat) (ht : P.underlying t = some (.slice e)) (hi : P.info? e = some i) (hz : i.zero = some z)
    (hsize : i.size = size) (hby : i.bytes = bytes) (hzs : z.cells.size = size) (hsz : 0 < size)
    (g n cap : Nat) (xs : List Value) (hown : w.ownsRow base e size (.slice (some ⟨g, 0, none⟩) n cap) n xs) (hcap : n ≤ cap)
    (A : Option Addr) (m c : Nat) (f : Nat → Nat → Value) (h : Sl w w.heap.size size A m f) (h1 : ∀ u ∈ rowsL m size f, u.oneCell' = true)
    (h63 : n + m ≤ maxLen) (hbytes : (n + m) * bytes ≤ 140737488355328) (hbase : base ≤ w.heap.size) :
    ∃ v' w', (Builtin.append_ #[t, t] ty #[.slice (some ⟨g, 0, none⟩) n cap, .slice A m c]).run P w = .ok v' w' ∧ w'.ownsRow base e size v' (n + m) (xs ++ rowsL m size f) ∧ w.grownBy w' (Value.slice (some ⟨g, 0, none⟩) n cap).ownBlock := by
  by_cases hm : 0 < m
  · obtain ⟨bb, off, rfl, _, hc⟩ := h.2 hm
    obtain ⟨v', w', hr, h2, h3, _⟩ := run_append_own (P := P) w base t ty e i z size bytes ht hi hz hsize hby hzs hsz _ n xs hown ⟨bb, off, none⟩ m c (rowsL m size f) (rowsL_len _ _ _) (fun j v hj => by rw [Addr.add_lit]; exact rowsL_cell hc j v hj) h1 h63 hbytes hbase
    exact ⟨v', w', hr, h2, h3⟩
  · obtain rfl : m = 0 := by omega
    refine ⟨_, _, run_append_zero w t ty e i ht hi _ n cap A c hcap, ?_, World.grownBy.refl _ _⟩
    have e0 : rowsL 0 size f = [] := by simp [rowsL]
    rw [e0, List.append_nil, Nat.add_zero]; exact hown
end
end Go.Proofs.YtogobjmmgjfjjaaGreat
/- What is proved: what is left by the operations of the drawn regions of the document's Path. Conditions: those that each lemma states. -/
namespace Go.Proofs.YtogobjmmgjfjjaaGreat
open Go.RowKit

section
variable {P : Program} {o : Oper} {a : Act} {w : World} {K : Act → World → Prop} {Q : Exit → Act → World → Prop}
theorem wpo_buildL (t : TypeId) (parts : Array (Nat × Operand)) (ho : o.op = .build t parts) (l : List (Nat × Value)) (cs : Array Value) (hev : (parts.map fun (i, x) => (i, a.eval x)).toList = l) (hb : P.built t l = some cs)
    (h : K (a.put o.dst (.agg cs)) w) : o.wp P a w K Q :=
  wp_build t parts ho (by rw [hev, hb]; rfl) (by rw [hev, hb]; exact h)
/-- append([]T{}, xs...): the list is one's own. -/
theorem run_copy_own (w : World) (t e : TypeId) (i : TypeInfo) (z : Value) (ht : P.underlying t = some (.slice e)) (hi : P.info? e = some i) (hz : i.zero = some z) (k : Nat) (hk : i.size = k) (hby : i.bytes ≤ 1024) (hzs : z.cells.size = k) (hk0 : 0 < k)
    (g : Nat) (base : Nat) (hown : w.ownsRow base e k (.slice (some ⟨g, 0, none⟩) 0 0) 0 []) (A : Option Addr) (n c : Nat) (f : Nat → Nat → Value) (h : Sl w w.heap.size k A n f) (h1 : ∀ u ∈ rowsL n k f, u.oneCell' = true) (hn : n ≤ 4096) (hB : base ≤ w.heap.size) (ty : TypeId) :
    ∃ A' c' w', (Builtin.append_ #[t, t] ty #[.slice (some ⟨g, 0, none⟩) 0 0, .slice A n c]).run P w = .ok (.slice A' n c') w' ∧ w'.ownsRow base e k (.slice A' n c') n (rowsL n k f) ∧ Below w.heap.size w w' := by
  by_cases h0 : 0 < n
  · have hb2 : n * i.bytes ≤ 4096 * 1024 := Nat.mul_le_mul hn hby
    obtain ⟨A', c', w', hr, _, hb⟩ := run_copy (P := P) w t e i z ht hi hz k hk hby ⟨g, 0, none⟩ A n c f h h0 hn ty
    obtain ⟨v', w2, hr2, hown2, _⟩ := run_append_any (P := P) w base t ty e i z k i.bytes ht hi hz hk rfl hzs hk0 g 0 0 [] hown (Nat.le_refl _) A n c f h h1 (by simp only [maxLen]; omega) (by rw [Nat.zero_add]; omega) hB
    rw [hr] at hr2
    simp only [Result.ok.injEq] at hr2
    obtain ⟨rfl, rfl⟩ := hr2
    rw [Nat.zero_add, List.nil_append] at hown2
    exact ⟨A', c', w', hr, hown2, hb⟩
  · obtain rfl : n = 0 := by omega
    have e0 : rowsL 0 k f = [] := by simp [rowsL]
    exact ⟨_, _, _, run_append_zero w t ty e i ht hi ⟨g, 0, none⟩ 0 0 A c (Nat.le_refl _), by rw [e0]; exact hown, Below.refl _ _⟩
theorem wpo_copy_own (t : TypeId) (s x : Operand) (ho : o.op = .call { callee := .builtin .append, args := #[s, x], argTypes := #[t, t] })
    (e : TypeId) (i : TypeInfo) (z : Value) (ht : P.underlying t = some (.slice e)) (hi : P.info? e = some i) (hz : i.zero = some z) (k : Nat) (hk : i.size = k) (hby : i.bytes ≤ 1024) (hzs : z.cells.size = k) (hk0 : 0 < k)
    (g base : Nat) (hs : a.eval s = .slice (some ⟨g, 0, none⟩) 0 0) (hown : w.ownsRow base e k (.slice (some ⟨g, 0, none⟩) 0 0) 0 []) (A : Option Addr) (n c : Nat) (hx : a.eval x = .slice A n c) (f : Nat → Nat → Value) (h : Sl w w.heap.size k A n f) (h1 : ∀ u ∈ rowsL n k f, u.oneCell' = true) (hn : n ≤ 4096) (hB : base ≤ w.heap.size)
    (hK : ∀ A' c' w', w'.ownsRow base e k (.slice A' n c') n (rowsL n k f) → Below w.heap.size w w' → K (a.put o.dst (.slice A' n c')) w') : o.wp P a w K Q := by
  obtain ⟨A', c', w', hr, h1, h2⟩ := run_copy_own (P := P) w t e i z ht hi hz k hk hby hzs hk0 g base hown A n c f h h1 hn hB o.type
  unfold Oper.wp execOp
  simp only [ho, resolve, invoke, builtin, Sem.run_bind, Sem.run_pure, Result.andThen_ok, List.map_toArray, List.map_cons, List.map_nil, hs, hx, hr]
  exact hK A' c' w' h1 h2
end
theorem built_rowD0 (p : PlantD) (R : RX) : Tryz.prog.built 125 [(0, .agg (RA p R))] = some (rowArr p R none 0 0) := by kernel_rfl
theorem built_rowD (p : PlantD) (R : RX) (A : Option Addr) (n c : Nat) : Tryz.prog.built 125 [(0, .agg (RA p R)), (1, .slice A n c)] = some (rowArr p R A n c) := by kernel_rfl
theorem rowArr_congr {p : PlantD} {R1 R2 : RX} (h : RA p R1 = RA p R2) (A : Option Addr) (n c : Nat) : rowArr p R1 A n c = rowArr p R2 A n c := by
  unfold RA refA at h
  simp only [Array.mk.injEq, List.cons.injEq, Value.slice.injEq, true_and, and_true] at h
  obtain ⟨⟨a0, b0⟩, ⟨a1, b1⟩, ⟨a2, b2⟩, ⟨a3, b3⟩, ⟨a4, b4⟩, ⟨a5, b5⟩, ⟨a6, b6⟩, ⟨a7, b7⟩, ⟨a8, b8⟩⟩ := h
  unfold rowArr
  rw [a0, b0, a1, b1, a2, b2, a3, b3, a4, b4, a5, b5, a6, b6, a7, b7, a8, b8]

/-! 'rows, codes = add(p, rows, codes, Row{..})'. -/
/-- cs: the state's call is done, ca: add's. -/
def AddJ (E : Exc) (rv cv : Value) (wr : World) (B : Nat) (p : PlantD) (l' : List RowD) (T : Sys) (bs ba : Bool) (vs va : Value) (w1 : World) : Prop :=
  if ba = true then AddPost E wr B p l' (.returned va) w1
  else Below wr.heap.size wr w1 ∧ (bs = true → ∃ R', vs = .agg (RA p R') ∧ @RefAt (exV E rv cv) w1 w1.heap.size R' T)
section
variable {E : Exc} {rv cv : Value} {wr w1 w2 : World} {B : Nat} {p : PlantD} {l' : List RowD} {T : Sys} {bs ba : Bool} {vs va : Value}
theorem AddJ.off (h : AddJ E rv cv wr B p l' T bs ba vs va w1) (hb : ba = false) : Below wr.heap.size wr w1 ∧ (bs = true → ∃ R', vs = .agg (RA p R') ∧ @RefAt (exV E rv cv) w1 w1.heap.size R' T) := by
  unfold AddJ at h; rw [hb] at h; exact h
theorem AddJ.on (h : AddJ E rv cv wr B p l' T bs ba vs va w1) (hb : ba = true) : AddPost E wr B p l' (.returned va) w1 := by
  unfold AddJ at h; rw [hb] at h; exact h
theorem AddJ.start : AddJ E rv cv wr B p l' T false false vs va wr.drew := by
  unfold AddJ; exact ⟨(Below.refl _ _).drew, fun h => absurd h (by decide)⟩
theorem AddJ.call (hb : ba = false) (h : Below wr.heap.size wr w1) (hc : Below w1.heap.size w1 w2) {R' : RX} (hr : @RefAt (exV E rv cv) w2 w2.heap.size R' T) : AddJ E rv cv wr B p l' T true ba (.agg (RA p R')) va w2 := by
  unfold AddJ; rw [hb]
  exact ⟨h.trans (hc.mono h.size), fun _ => ⟨R', rfl, hr⟩⟩
theorem AddJ.done (hB : B ≤ wr.heap.size) (h : Below wr.heap.size wr w1) {v : Value} (hp : AddPost E w1 B p l' (.returned v) w2) : AddJ E rv cv wr B p l' T bs true vs v w2 := by
  unfold AddJ; rw [if_pos rfl]
  obtain ⟨A, c, A', c', Rs, OA, oc, e, hq, hb⟩ := hp
  exact ⟨A, c, A', c', Rs, OA, oc, e, hq, (h.mono hB).trans hb⟩
end
theorem returned_inj {a b : Value} (h : Ending.returned a = Ending.returned b) : a = b := by injection h
theorem AddPost.form {E : Exc} {w w' : World} {B : Nat} {p : PlantD} {l : List RowD} {v : Value} (h : AddPost E w B p l (.returned v) w') : ∃ A c A' c', v = .tuple #[.slice A l.length c, .slice A' l.length c'] := by
  obtain ⟨A, c, A', c', _, _, _, e, _⟩ := h
  exact ⟨A, c, A', c', returned_inj e⟩
/-- s: the state's call, b: the row, a: add's call. -/
def AddR (p : PlantD) (n s b a : Nat) (row : RX → Value) (ix : Nat) (u : Value) (d : Nat → Value) : Prop :=
  (ix = b → ∃ R', d s = .agg (RA p R') ∧ u = row R') ∧ (ix = a + 1 → u = d a ∧ ∃ A c A' c', u = .tuple #[.slice A n c, .slice A' n c']) ∧
  (ix = a + 2 → ∃ A c A' c', d (a + 1) = .tuple #[.slice A n c, .slice A' n c'] ∧ u = .slice A n c) ∧ (ix = a + 3 → ∃ A c A' c', d (a + 1) = .tuple #[.slice A n c, .slice A' n c'] ∧ u = .slice A' n c') ∧
  (ix = a + 4 → u = d (a + 2)) ∧ (ix = a + 5 → u = d (a + 3))

/-- What is left by the operations in the end. -/
theorem AddJ.fin {E : Exc} {rv cv : Value} {wr w1 : World} {B : Nat} {p : PlantD} {l' : List RowD} {T : Sys} {bs : Bool} {v4 v5 v6 v7 v8 v9 vs : Value} (h : AddJ E rv cv wr B p l' T bs true vs v4 w1) (h5 : v5 = v4) {n : Nat} (hn : l'.length = n)
    (h6 : ∃ A c A' c', v5 = .tuple #[.slice A n c, .slice A' n c'] ∧ v6 = .slice A n c) (h7 : ∃ A c A' c', v5 = .tuple #[.slice A n c, .slice A' n c'] ∧ v7 = .slice A' n c') (h8 : v8 = v6) (h9 : v9 = v7) :
    ∃ A c A' c' Rs OA oc, v8 = .slice A l'.length c ∧ v9 = .slice A' l'.length c' ∧ RowsQ E w1 B p l' (.slice A l'.length c) (.slice A' l'.length c') Rs OA oc ∧ Below B wr w1 := by
  obtain ⟨A, c, A', c', Rs, OA, oc, e, hq, hb⟩ := h.on rfl
  have e4 := returned_inj e
  subst hn
  obtain ⟨B1, d1, B1', d1', x1, x2⟩ := h6
  obtain ⟨B2, d2, B2', d2', y1, y2⟩ := h7
  rw [h5, e4] at x1 y1
  simp only [Value.tuple.injEq, Array.mk.injEq, List.cons.injEq, Value.slice.injEq, and_true, true_and] at x1 y1
  obtain ⟨⟨rfl, rfl⟩, _⟩ := x1
  obtain ⟨_, rfl, rfl⟩ := y1
  exact ⟨A, c, A', c', Rs, OA, oc, h8.trans x2, h9.trans y2, hq, hb⟩

/-! 'next, e := Order(p, rows[i].S, o)'. -/
def StJ (E : Exc) (wr : World) (p : PlantD) (T : Sys) (Ev : Int) (bc ba bs : Bool) (vc va : Value) (w1 : World) : Prop :=
  Below wr.heap.size wr w1 ∧ (bc = true → ∃ R', vc = .tuple #[.agg (RA p R'), .int .i64 Ev] ∧ @RefAt E w1 w1.heap.size R' T) ∧
  (ba = true → ∃ nb, va = .pointer (some ⟨nb, 0, none⟩) ∧ wr.heap.size ≤ nb ∧ Boxy w1 nb ∧ (bs = true → ∃ R', vc = .tuple #[.agg (RA p R'), .int .i64 Ev] ∧ Bk w1 nb 53 (RA p R')))
section
variable {E : Exc} {wr w1 w2 : World} {p : PlantD} {T : Sys} {Ev : Int} {bc ba bs : Bool} {vc va : Value}
theorem Boxy.below {w w' : World} {nb : Nat} (h : Boxy w nb) (hb : Below w.heap.size w w') : Boxy w' nb := by
  obtain ⟨R0, a, b, c, h⟩ := h
  exact ⟨R0, a, b, c, h.below hb h.lt⟩
theorem StJ.start (va vc : Value) : StJ E wr p T Ev false false false vc va wr.drew :=
  ⟨(Below.refl _ _).drew, fun h => absurd h (by decide), fun h => absurd h (by decide)⟩
theorem StJ.call (h : StJ E wr p T Ev bc ba bs vc va w1) (hbs : bs = false) (hb : Below w1.heap.size w1 w2) {R' : RX} (hr : @RefAt E w2 w2.heap.size R' T) : StJ E wr p T Ev true ba bs (.tuple #[.agg (RA p R'), .int .i64 Ev]) va w2 := by
  refine ⟨h.1.trans (hb.mono h.1.size), fun _ => ⟨R', rfl, hr⟩, fun e => ?_⟩
  obtain ⟨nb, a, b, c, _⟩ := h.2.2 e
  exact ⟨nb, a, b, c.below hb, fun e2 => by rw [hbs] at e2; exact absurd e2 (by decide)⟩
theorem StJ.alloc (h : StJ E wr p T Ev bc ba bs vc va w1) (hbs : bs = false) {R0 : RX} {a b c : Nat} : StJ E wr p T Ev bc true bs vc (.pointer (some ⟨w1.heap.size, 0, none⟩)) (w1.alloc (.cells (refA R0 a b c) 53)) := by
  have hb : Below w1.heap.size w1 (w1.alloc (.cells (refA R0 a b c) 53)) := (Below.refl _ _).alloc (Nat.le_refl _) _
  refine ⟨h.1.trans (hb.mono h.1.size), fun e => ?_, fun _ => ⟨_, rfl, h.1.size, ⟨R0, a, b, c, Bk.new _ _ _⟩, fun e2 => by rw [hbs] at e2; exact absurd e2 (by decide)⟩⟩
  obtain ⟨R', x, y⟩ := h.2.1 e
  letI := E
  exact ⟨R', x, (RefAt.below y hb).mono hb.size⟩
theorem RefAt.box2 {E : Exc} {R R0 : RX} {nb a b c : Nat} {wf : World} (hr : @RefAt E w1 w1.heap.size R T) (ht : E.top ≤ nb + 1) (hb : Bk w1 nb 53 (refA R0 a b c)) (ho : Only nb w1 wf) : @RefAt E wf wf.heap.size R T := by
  letI : Exc := E
  refine RefB.at_ (lo := nb) (hi := nb + 1) (RefB.only (RefAt.refB (lo := nb) (q := 1) hr ht fun b' g1 g2 j u hu => ?_) ho (by omega) (by omega))
  obtain rfl : b' = nb := by omega
  rw [hb.cell] at hu; exact refA_slices _ _ _ _ _ _ hu
theorem StJ.store (h : StJ E wr p T Ev bc ba bs vc va w1) (hbc : bc = true) (hba : ba = true) {nb : Nat} {R' : RX} (hva : va = .pointer (some ⟨nb, 0, none⟩)) (hvc : vc = .tuple #[.agg (RA p R'), .int .i64 Ev]) (ht : E.top ≤ wr.heap.size) (ho : Only nb w1 w2) (hk : Bk w2 nb 53 (RA p R')) : StJ E wr p T Ev bc ba true vc va w2 := by
  subst hbc
  subst hba
  obtain ⟨nb', a, b, ⟨R0, x, y, z, c⟩, _⟩ := h.2.2 rfl
  obtain ⟨R1, e1, hr⟩ := h.2.1 rfl
  have e : nb' = nb := by rw [hva] at a; simpa using a.symm
  subst e
  refine ⟨h.1.trans (ho.below (by omega)), fun _ => ⟨R1, e1, hr.box2 (by omega) c ho⟩, fun _ => ⟨nb', a, b, ⟨R', _, _, _, hk⟩, fun _ => ⟨R', hvc, hk⟩⟩⟩
end
/-- The call: 7. -/
def StR2 (p : PlantD) (Ev : Int) (ix : Nat) (u : Value) (d : Nat → Value) : Prop :=
  (ix = 8 → u = d 7 ∧ ∃ R', u = .tuple #[.agg (RA p R'), .int .i64 Ev]) ∧ (ix = 9 → ∃ R', d 8 = .tuple #[.agg (RA p R'), .int .i64 Ev] ∧ u = .agg (RA p R'))

/-! 'l := append(append([]api.Order{}, rows[i].Orders...), o)'. -/
def OrdJ (wz : World) (ords : List LitD) (o : LitD) (b0 b6 b8 b9 : Bool) (v0 v6 v8 v9 : Value) (w1 : World) : Prop :=
  Below wz.heap.size wz w1 ∧
  (b9 = false → (b0 = true → ∃ g, v0 = .slice (some ⟨g, 0, none⟩) 0 0 ∧ w1.ownsRow wz.heap.size 38 2 (.slice (some ⟨g, 0, none⟩) 0 0) 0 []) ∧
    (b6 = true → ∃ A c, v6 = .slice A ords.length c ∧ w1.ownsRow wz.heap.size 38 2 (.slice A ords.length c) ords.length (rowsL ords.length 2 fun k => litC (ords.getD k lit0))) ∧
    (b8 = true → ∃ g, v8 = .slice (some ⟨g, 0, none⟩) 1 1 ∧ Bk w1 g 38 #[.int .i64 o.valve, .bool o.opn])) ∧
  (b9 = true → ∃ A c, v9 = .slice A (ords.length + 1) c ∧ Cl w1 wz.heap.size 38 2 A (ords ++ [o]).length fun k => litC ((ords ++ [o]).getD k lit0))
theorem litRows_one (ords : List LitD) : ∀ u ∈ rowsL ords.length 2 (fun k => litC (ords.getD k lit0)), u.oneCell' = true := by
  intro u hu
  simp only [rowsL, List.mem_map, List.mem_range] at hu
  obtain ⟨m, _, rfl⟩ := hu
  have : m % 2 = 0 ∨ m % 2 = 1 := by omega
  rcases this with e | e <;> rw [e] <;> rfl
theorem litRows_push (ords : List LitD) (o : LitD) : rowsL ords.length 2 (fun k => litC (ords.getD k lit0)) ++ [.int .i64 o.valve, .bool o.opn] = rowsL (ords ++ [o]).length 2 fun k => litC ((ords ++ [o]).getD k lit0) := by
  have e0 : (ords ++ [o]).length = ords.length + 1 := by simp
  rw [e0]
  unfold rowsL
  rw [show (ords.length + 1) * 2 = ords.length * 2 + 2 from by omega, List.range_add]
  simp only [List.map_append, List.map_map]
  congr 1
  · apply List.map_congr_left
    intro m hm
    have hm' : m < ords.length * 2 := by simpa using hm
    have h2 : m / 2 < ords.length := by omega
    simp only [List.getD_eq_getElem?_getD]
    rw [List.getElem?_append_left h2]
  · have h1 : (ords.length * 2 + 0) / 2 = ords.length := by omega
    have h2 : (ords.length * 2 + 1) / 2 = ords.length := by omega
    have h3 : (ords.length * 2 + 0) % 2 = 0 := by omega
    have h4 : (ords.length * 2 + 1) % 2 = 1 := by omega
    have h5 : (ords ++ [o]).getD ords.length lit0 = o := by simp [List.getD_eq_getElem?_getD]
    simp only [show List.range 2 = [0, 1] from rfl, List.map_cons, List.map_nil, Function.comp]
    rw [h1, h2, h3, h4, h5]; rfl
section
variable {wz w1 w2 : World} {ords : List LitD} {o : LitD} {b0 b6 b8 b9 : Bool} {v0 v6 v8 v9 : Value}
theorem OrdJ.start (v0 v6 v8 v9 : Value) : OrdJ wz ords o false false false false v0 v6 v8 v9 wz.drew :=
  ⟨(Below.refl _ _).drew, fun _ => ⟨fun h => absurd h (by decide), fun h => absurd h (by decide), fun h => absurd h (by decide)⟩, fun h => absurd h (by decide)⟩
theorem OrdJ.later (h : OrdJ wz ords o b0 b6 b8 b9 v0 v6 v8 v9 w1) (hb : Below w1.heap.size w1 w2) : OrdJ wz ords o b0 b6 b8 b9 v0 v6 v8 v9 w2 := by
  refine ⟨h.1.trans (hb.mono h.1.size), fun e => ⟨fun e2 => ?_, fun e2 => ?_, fun e2 => ?_⟩, fun e => ?_⟩
  · obtain ⟨g, a, b⟩ := (h.2.1 e).1 e2; exact ⟨g, a, World.ownsRow.of_below b hb⟩
  · obtain ⟨A, c, a, b⟩ := (h.2.1 e).2.1 e2; exact ⟨A, c, a, World.ownsRow.of_below b hb⟩
  · obtain ⟨g, a, b⟩ := (h.2.1 e).2.2 e2; exact ⟨g, a, b.below hb b.lt⟩
  · obtain ⟨A, c, a, b⟩ := h.2.2 e; exact ⟨A, c, a, b.below hb⟩
theorem OrdJ.set0 (h : OrdJ wz ords o b0 b6 b8 b9 v0 v6 v8 v9 w1) (hb : Below w1.heap.size w1 w2) {g : Nat} (ho : w2.ownsRow wz.heap.size 38 2 (.slice (some ⟨g, 0, none⟩) 0 0) 0 []) : OrdJ wz ords o true b6 b8 b9 (.slice (some ⟨g, 0, none⟩) 0 0) v6 v8 v9 w2 := by
  have h2 := h.later hb
  exact ⟨h2.1, fun e => ⟨fun _ => ⟨g, rfl, ho⟩, (h2.2.1 e).2.1, (h2.2.1 e).2.2⟩, h2.2.2⟩
theorem OrdJ.set6 (h : OrdJ wz ords o b0 b6 b8 b9 v0 v6 v8 v9 w1) (hb : Below w1.heap.size w1 w2) {A : Option Addr} {c : Nat} (ho : w2.ownsRow wz.heap.size 38 2 (.slice A ords.length c) ords.length (rowsL ords.length 2 fun k => litC (ords.getD k lit0))) : OrdJ wz ords o b0 true b8 b9 v0 (.slice A ords.length c) v8 v9 w2 := by
  have h2 := h.later hb
  exact ⟨h2.1, fun e => ⟨(h2.2.1 e).1, fun _ => ⟨A, c, rfl, ho⟩, (h2.2.1 e).2.2⟩, h2.2.2⟩
theorem OrdJ.set8 (h : OrdJ wz ords o b0 b6 b8 b9 v0 v6 v8 v9 w1) (hb : Below w1.heap.size w1 w2) {g : Nat} (ho : Bk w2 g 38 #[.int .i64 o.valve, .bool o.opn]) : OrdJ wz ords o b0 b6 true b9 v0 v6 (.slice (some ⟨g, 0, none⟩) 1 1) v9 w2 := by
  have h2 := h.later hb
  exact ⟨h2.1, fun e => ⟨(h2.2.1 e).1, (h2.2.1 e).2.1, fun _ => ⟨g, rfl, ho⟩⟩, h2.2.2⟩
theorem OrdJ.set9 (h : Below wz.heap.size wz w2) {A : Option Addr} {c : Nat} (hn : (ords ++ [o]).length ≤ 4096) (ho : w2.ownsRow wz.heap.size 38 2 (.slice A (ords.length + 1) c) (ords.length + 1) (rowsL ords.length 2 (fun k => litC (ords.getD k lit0)) ++ [.int .i64 o.valve, .bool o.opn])) : OrdJ wz ords o b0 b6 b8 true v0 v6 v8 (.slice A (ords.length + 1) c) w2 := by
  refine ⟨h, fun e => absurd e (by decide), fun _ => ⟨A, c, rfl, ?_⟩⟩
  rw [litRows_push] at ho
  have e0 : ords.length + 1 = (ords ++ [o]).length := by simp
  rw [e0] at ho
  obtain ⟨A', c', e, hc⟩ := Cl.of_own hn ho
  have eA : A = A' := by simpa using (Value.slice.inj e).1
  rw [eA]; exact hc
end
/-- The rows' orders are few. -/
def RowsFew (l : List RowD) : Prop := ∀ k, k < l.length → (l.getD k row0).ords.length ≤ k
theorem RowsFew.add {l : List RowD} {r : RowD} (h : RowsFew l) (hr : r.ords.length ≤ l.length) : RowsFew (addD l r) := by
  rcases addD_or l r with e | e <;> rw [e]
  · exact h
  · intro k hk
    by_cases hkl : k < l.length
    · rw [getD_push hkl]; exact h k hkl
    · have : k = l.length := by simp at hk; omega
      subst this
      rw [getD_push_eq]; exact hr
/-- The rows in a search. -/
structure PathQ (E : Exc) (W : World) (p : PlantD) (wr : World) (l : List RowD) (A1 : Option Addr) (c1 : Nat) (A2 : Option Addr) (c2 : Nat) : Prop where
  rows : ∃ Rs OA oc, RowsQ E wr W.heap.size p l (.slice A1 l.length c1) (.slice A2 l.length c2) Rs OA oc
  below : Below W.heap.size W wr
  few : RowsFew l
theorem PathQ.later {E : Exc} {W wr w1 : World} {p : PlantD} {l : List RowD} {A1 A2 : Option Addr} {c1 c2 : Nat} (h : PathQ E W p wr l A1 c1 A2 c2) (hb : Below wr.heap.size wr w1) : PathQ E W p w1 l A1 c1 A2 c2 := by
  obtain ⟨Rs, OA, oc, hq⟩ := h.rows
  exact ⟨⟨Rs, OA, oc, hq.later hb⟩, h.below.trans (hb.mono h.below.size), h.few⟩
theorem getD_some {l : List RowD} {k : Nat} (h : k < l.length) : l[k]? = some (l.getD k row0) := by
  rw [List.getD_eq_getElem?_getD, List.getElem?_eq_getElem h]; rfl
theorem some_getD {l : List RowD} {k : Nat} {r : RowD} (h : l[k]? = some r) : l.getD k row0 = r := by
  rw [List.getD_eq_getElem?_getD, h]; rfl
theorem searchD_none {p : PlantD} {g : List LitD} {great f i : Nat} {l : List RowD} (h : ¬ i < l.length) : searchD p g great (f + 1) i l = ([], 7, true) := by
  have : l[i]? = none := List.getElem?_eq_none (by omega)
  unfold searchD; rw [this]
theorem searchD_goal {p : PlantD} {g : List LitD} {great f i : Nat} {l : List RowD} (h : i < l.length) (hr : reachedB p (l.getD i row0).at_ g = true) : searchD p g great (f + 1) i l = ((l.getD i row0).ords, 0, true) := by
  unfold searchD; rw [getD_some h]; simp only; rw [if_pos hr]
theorem searchD_great {p : PlantD} {g : List LitD} {great f i : Nat} {l : List RowD} (h : i < l.length) (hr : reachedB p (l.getD i row0).at_ g = false) (hg : great < l.length) : searchD p g great (f + 1) i l = ([], 0, false) := by
  unfold searchD; rw [getD_some h]; simp only; rw [if_neg (by rw [hr]; decide), if_pos hg]
theorem searchD_on {p : PlantD} {g : List LitD} {great f i : Nat} {l : List RowD} (h : i < l.length) (hr : reachedB p (l.getD i row0).at_ g = false) (hg : ¬ great < l.length) : searchD p g great (f + 1) i l = searchD p g great f (i + 1) (expandD p (l.getD i row0) l) := by
  conv => lhs; unfold searchD
  rw [getD_some h]; simp only; rw [if_neg (by rw [hr]; decide), if_neg hg]
end Go.Proofs.YtogobjmmgjfjjaaGreat
