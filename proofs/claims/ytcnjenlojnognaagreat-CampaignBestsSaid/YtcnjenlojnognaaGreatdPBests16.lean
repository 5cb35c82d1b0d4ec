/- What is proved: the texts Dt Du, one behind the other; each says at its head what it proves, and under which conditions. -/
import Derived.Test.YtcnjenlojnognaaGreatdPBests15
/- What is proved: lemmas of the document's search: its ways in order, a search in memory, lists joined in a drawn region. Conditions: those that each lemma states. -/
namespace Go.Proofs.YtcnjenlojnognaaGreat
open Go.RowKit

theorem wpo_app {o : Oper} {a : Act} {w : World} {K : Act → World → Prop} {Q : Exit → Act → World → Prop} (s x : Operand) (ho : o.op = .call { callee := .builtin .append, args := #[s, x], argTypes := #[27, 27] })
  {B : Nat} {v : Value} {R S : List RowL} (hs : a.eval s = v) (hv : OwnR w B v R) (A : Option Addr) (n c : Nat) (hx : a.eval x = .slice A n c) (hn : S.length = n) (hS : ∀ i, i < S.length → ∀ j, j < 4 → ∃ b o, A = some ⟨b, o, none⟩ ∧ w.cell? ⟨b, o + (i * 4 + j), none⟩ = (encR (S.getD i row0))[j]?)
  (hR : R.length ≤ 4096) (hSl : S.length ≤ 4096) (hB : B ≤ w.heap.size)
  (hK : ∀ v' w', OwnR w' B v' (R ++ S) → Below B w w' → K (a.put o.dst v') w') : o.wp Tryz.prog a w K Q := by
 obtain ⟨v', w', hr, h1, h2⟩ := run_app hv A c hS hR hSl hB o.type
 rw [hn] at hr
 unfold Oper.wp execOp
 simp only [ho, resolve, invoke, builtin, Sem.run_bind, Sem.run_pure, Result.andThen_ok, List.map_toArray, List.map_cons, List.map_nil, hs, hx, hr]
 exact hK v' w' h1 h2
set_option maxRecDepth 100000 in
/-- append([]T{}, xs...) leaves all old memory alone. -/
theorem run_app_new {w : World} {B g : Nat} {S : List RowL} (hv : OwnR w B (.slice (some ⟨g, 0, none⟩) 0 0) []) (A : Option Addr) (c : Nat) (hS : ∀ i, i < S.length → ∀ j, j < 4 → ∃ b o, A = some ⟨b, o, none⟩ ∧ w.cell? ⟨b, o + (i * 4 + j), none⟩ = (encR (S.getD i row0))[j]?)
  (hSl : S.length ≤ 4096) (hB : B ≤ w.heap.size) (ty : TypeId) :
  ∃ v' w', (Builtin.append_ #[27, 27] ty #[.slice (some ⟨g, 0, none⟩) 0 0, .slice A S.length c]).run Tryz.prog w = .ok v' w' ∧ OwnR w' B v' S ∧ Below w.heap.size w w' := by
 obtain ⟨v', w', hr, h1, _⟩ := run_app hv A c hS (by simp) hSl hB ty
 rw [List.nil_append] at h1
 refine ⟨v', w', hr, h1, ?_⟩
 obtain ⟨i, z, hi, hz, hk, hby⟩ := info_ex (P := Tryz.prog) info_launchx
 have hsl : Sl w w.heap.size 4 A S.length fun i j => ((encR (S.getD i row0))[j]?).getD undef := by
  refine ⟨by omega, fun h0 => ?_⟩
  obtain ⟨b, o, rfl, h2⟩ := hS 0 h0 0 (by omega)
  refine ⟨b, o, rfl, World.block_lt_of_cell? w ⟨b, o + (0 * 4 + 0), none⟩ h2, fun i hi j hj => ?_⟩
  obtain ⟨b', o', e, h3⟩ := hS i hi j hj
  injection e with e
  injection e with e1 e2
  subst e1 e2
  rw [Nat.add_assoc, h3]
  have : j < (encR (S.getD i row0)).length := by rw [encR_len]; exact hj
  dsimp only
  rw [List.getElem?_eq_getElem this, Option.getD_some]
 obtain ⟨A', c', w2, hr2, _, hb⟩ := run_copyAll (P := Tryz.prog) w 27 52 i z Tryz.underlying27 hi hz 4 hk hby ⟨g, 0, none⟩ A S.length c _ hsl hSl ty
 rw [hr] at hr2
 simp only [Result.ok.injEq] at hr2
 rw [hr2.2]; exact hb
theorem wpo_app_new {o : Oper} {a : Act} {w : World} {K : Act → World → Prop} {Q : Exit → Act → World → Prop} (s x : Operand) (ho : o.op = .call { callee := .builtin .append, args := #[s, x], argTypes := #[27, 27] })
  {B g : Nat} {S : List RowL} (hs : a.eval s = .slice (some ⟨g, 0, none⟩) 0 0) (hv : OwnR w B (.slice (some ⟨g, 0, none⟩) 0 0) []) (A : Option Addr) (n c : Nat) (hx : a.eval x = .slice A n c) (hn : S.length = n) (hS : ∀ i, i < S.length → ∀ j, j < 4 → ∃ b o, A = some ⟨b, o, none⟩ ∧ w.cell? ⟨b, o + (i * 4 + j), none⟩ = (encR (S.getD i row0))[j]?)
  (hSl : S.length ≤ 4096) (hB : B ≤ w.heap.size)
  (hK : ∀ v' w', OwnR w' B v' S → Below w.heap.size w w' → K (a.put o.dst v') w') : o.wp Tryz.prog a w K Q := by
 obtain ⟨v', w', hr, h1, h2⟩ := run_app_new hv A c hS hSl hB o.type
 rw [hn] at hr
 unfold Oper.wp execOp
 simp only [ho, resolve, invoke, builtin, Sem.run_bind, Sem.run_pure, Result.andThen_ok, List.map_toArray, List.map_cons, List.map_nil, hs, hx, hr]
 exact hK v' w' h1 h2
theorem ownR_made (w : World) (B : Nat) (hB : B ≤ w.heap.size) : OwnR (w.alloc (.cells #[] 52)) B (.slice (some ⟨w.heap.size, 0, none⟩) 0 0) [] :=
 ⟨World.ownsRow_made w #[] 0 hB (Nat.zero_le _) rfl, w.heap.size, 0, rfl, Nat.le_refl _, hB, by simp⟩
/-- A plan that a call has handed back, as rows. -/
theorem PlanO.toRows {w : World} {B : Nat} {A : Option Addr} {l : List LaunchD} (h : PlanO w B A l) : ∃ R : List RowL, R.map (·.1) = l ∧ R.length = l.length ∧ (∀ r ∈ R, IntsO w B r.2.1 r.1.cargos) ∧
  ∀ w1, Below w.heap.size w w1 → ∀ i, i < R.length → ∀ j, j < 4 → ∃ b o, A = some ⟨b, o, none⟩ ∧ w1.cell? ⟨b, o + (i * 4 + j), none⟩ = (encR (R.getD i row0))[j]? := by
 rcases Nat.eq_zero_or_pos l.length with h0 | h0
 ·obtain rfl := List.length_eq_zero_iff.1 h0
  exact ⟨[], rfl, rfl, fun r hr => absurd hr (List.not_mem_nil), fun _ _ i hi => absurd hi (by simp)⟩
 ·obtain ⟨g, cur, P, Q, rfl, hr⟩ := h.rows h0
  have hlen : ((List.range l.length).map fun i => ((l.getD i launch0, P i, Q i) : RowL)).length = l.length := by simp
  have hget : ∀ i, i < l.length → ((List.range l.length).map fun i => ((l.getD i launch0, P i, Q i) : RowL)).getD i row0 = (l.getD i launch0, P i, Q i) := fun i hi => by
   rw [List.getD_eq_getElem?_getD, List.getElem?_map, List.getElem?_range hi]; rfl
  refine ⟨_, ?_, hlen, fun r hr' => ?_, fun w1 hb i hi j hj => ⟨g, 0, rfl, ?_⟩⟩
  ·apply List.ext_getElem?
   intro i
   rw [List.map_map, List.getElem?_map]
   by_cases hi : i < l.length
   ·rw [List.getElem?_range hi, List.getElem?_eq_getElem hi]
    simp [List.getD_eq_getElem?_getD, List.getElem?_eq_getElem hi]
   ·rw [List.getElem?_eq_none (by simpa using hi), List.getElem?_eq_none (by omega)]; rfl
  ·obtain ⟨i, hi, rfl⟩ := List.mem_map.1 hr'
   exact hr.ints i (List.mem_range.1 hi)
  ·rw [hlen] at hi
   rw [hget i hi, Nat.zero_add, (hr.bk.below hb hr.bk.lt).cell, hr.row i hi j hj]
   match j, hj with
   | 0, _ => rfl
   | 1, _ => rfl
   | 2, _ => rfl
   | 3, _ => rfl
theorem OwnR.planO {w : World} {B C : Nat} {A : Option Addr} {n c : Nat} {R : List RowL} {l : List LaunchD} (h : OwnR w B (.slice A n c) R) (hl : R.map (·.1) = l) (hC : C ≤ B) (hi : ∀ r ∈ R, IntsO w C r.2.1 r.1.cargos) (hn : R.length ≤ 4096) : n = l.length ∧ n ≤ c ∧ PlanO w C A l := by
 obtain ⟨h1, g, cap, e, h2, h3, h4⟩ := id h
 injection e with e1 e2 e3
 subst e1 e2 e3
 have hll : l.length = R.length := by rw [← hl, List.length_map]
 have hg : ∀ i, l.getD i launch0 = (R.getD i row0).1 := fun i => by
  rw [← hl, List.getD_eq_getElem?_getD, List.getD_eq_getElem?_getD, List.getElem?_map]
  cases R[i]? <;> rfl
 refine ⟨hll.symm, h2, by omega, fun h0 => ?_⟩
 rcases h1.2 with ⟨e, _⟩ | ⟨g', cap', cur, e, a1, a2, a3, a4, a5, a6⟩
 ·cases e
 ·injection e with e1 _ _
  injection e1 with e1
  injection e1 with e1
  subst e1
  refine ⟨g, cur, fun i => (R.getD i row0).2.1, fun i => (R.getD i row0).2.2, rfl, ⟨by omega, a2, fun i hi' j hj => ?_, fun i hi' => ?_⟩⟩
  ·rw [hll] at hi'
   have hc := h.cell hi' hj
   rw [Bk.cell (t := 52) a2] at hc
   rw [hc, hg]
   match j, hj with
   | 0, _ => rfl
   | 1, _ => rfl
   | 2, _ => rfl
   | 3, _ => rfl
  ·rw [hll] at hi'
   rw [hg]
   refine hi _ ?_
   rw [List.getD_eq_getElem?_getD, List.getElem?_eq_getElem hi']; exact List.getElem_mem hi'
theorem OwnI.intsO {w : World} {B : Nat} {v : Value} {L : List Int} (h : OwnI w B v L) (hn : L.length ≤ 4096) : ∃ A c, v = .slice A L.length c ∧ L.length ≤ c ∧ IntsO w B A L := by
 refine IntsO.of_own hn ?_
 have e : rowsI L = L.map (Value.int .i64) := by
  unfold rowsI rowsL
  apply List.ext_getElem?
  intro i
  rw [List.getElem?_map, List.getElem?_map]
  by_cases hi : i < L.length
  ·rw [List.getElem?_range (by omega), List.getElem?_eq_getElem hi]
   simp [numI, List.getD_eq_getElem?_getD, List.getElem?_eq_getElem hi]
  ·rw [List.getElem?_eq_none (by simpa using hi), List.getElem?_eq_none (by omega)]; rfl
 rw [e]; exact h
/-- A search in memory. -/
def SrAt (w : World) (S : Option (List LaunchD)) (A : Option Addr) (n cap : Nat) : Prop := ∀ b, S = some b → n = b.length ∧ n ≤ cap ∧ PlanO w 0 A b
theorem SrAt.later {w w' : World} {S : Option (List LaunchD)} {A : Option Addr} {n cap : Nat} (h : SrAt w S A n cap) (hb : Below w.heap.size w w') : SrAt w' S A n cap := fun b e => ⟨(h b e).1, (h b e).2.1, (h b e).2.2.later hb⟩
theorem SrAt.none (w : World) (A : Option Addr) (n cap : Nat) : SrAt w Option.none A n cap := fun b e => by cases e
def srA (A : Option Addr) (n cap : Nat) (b : Bool) : Array Value := #[.slice A n cap, .bool b]
theorem und_search : Tryz.prog.underlying 90 = some (.struct (match Tryz.prog.underlying 90 with | some (.struct f) => f | _ => #[])) := by kernel_rfl
theorem info_srA (A : Option Addr) (n cap : Nat) (b : Bool) : (Tryz.prog.info? 90).map (·.size) = some (srA A n cap b).size := by
 show (Tryz.prog.info? 90).map (·.size) = some 2
 kernel_rfl
theorem srA_one (A : Option Addr) (n cap : Nat) (b : Bool) : ∀ u ∈ (srA A n cap b).toList, u.oneCell' = true := by
 intro u hu
 simp [srA] at hu
 rcases hu with rfl | rfl <;> rfl
/-- The search's box (qs) and its result's, while it runs. -/
structure SrM (W0 : World) (qs : Nat) (S : Option (List LaunchD)) (w : World) : Prop where
 bel : Below qs W0 w
 box : ∃ A n cap, Bk w qs 90 (srA A n cap S.isSome) ∧ SrAt w S A n cap
 res : Bk w (qs + 1) 90 #[.slice none 0 0, .bool false]
theorem SrM.later {W0 w w' : World} {qs : Nat} {S : Option (List LaunchD)} (h : SrM W0 qs S w) (hb : Below w.heap.size w w') : SrM W0 qs S w' := by
 obtain ⟨A, n, cap, h1, h2⟩ := h.box
 exact ⟨h.bel.trans (hb.mono (by have := h1.lt; omega)), ⟨A, n, cap, h1.below hb h1.lt, h2.later hb⟩, h.res.below hb h.res.lt⟩
theorem SrAt.other {w w' : World} {S : Option (List LaunchD)} {A : Option Addr} {n cap g : Nat} {cs : Array Value} (h : SrAt w S A n cap) (hb : Bk w g 90 cs) (ho : Only g w w') : SrAt w' S A n cap :=
 fun b e => ⟨(h b e).1, (h b e).2.1, (h b e).2.2.other hb (by decide) (by decide) ho⟩
theorem SrM.set {W0 w w' : World} {qs : Nat} {S T : Option (List LaunchD)} (h : SrM W0 qs S w) (ho : Only qs w w') {A : Option Addr} {n cap : Nat} (hk : Bk w' qs 90 (srA A n cap T.isSome)) (ht : SrAt w T A n cap) : SrM W0 qs T w' := by
 obtain ⟨A1, n1, c1, h1, _⟩ := h.box
 exact ⟨h.bel.trans (ho.below (Nat.le_refl _)), ⟨A, n, cap, hk, ht.other h1 ho⟩, h.res.only ho (by omega)⟩
/-- The search's ways in order. -/
def goS (c : CampD) (f : Nat) (l : List LaunchD) (S : Option (List LaunchD)) (q : Nat × Nat) : Option (List LaunchD) :=
 if faultB c l (stepD c l q.1 q.2) = 0 then searchB c f S (l ++ [stepD c l q.1 q.2]) else S
def rowW (b m : Nat) : List (Nat × Nat) := (List.range m).map fun k => (b + 1, k)
def waysK (m b : Nat) : List (Nat × Nat) := (List.range b).flatMap fun b => rowW b m
def foldS (c : CampD) (f : Nat) (l : List LaunchD) (T : Option (List LaunchD)) (b k : Nat) : Option (List LaunchD) := (waysK (c.crafts.length * c.pads.length) b ++ rowW b k).foldl (goS c f l) T
theorem foldS_zero (c : CampD) (f : Nat) (l : List LaunchD) (T : Option (List LaunchD)) : foldS c f l T 0 0 = T := rfl
theorem foldS_step (c : CampD) (f : Nat) (l : List LaunchD) (T : Option (List LaunchD)) (b k : Nat) : foldS c f l T b (k + 1) = goS c f l (foldS c f l T b k) (b + 1, k) := by
 unfold foldS rowW
 rw [List.range_succ, List.map_append, ← List.append_assoc, List.foldl_append]; rfl
theorem foldS_next (c : CampD) (f : Nat) (l : List LaunchD) (T : Option (List LaunchD)) (b : Nat) : foldS c f l T (b + 1) 0 = foldS c f l T b (c.crafts.length * c.pads.length) := by
 unfold foldS waysK
 rw [List.range_succ, List.flatMap_append]
 simp [rowW]
theorem foldS_end (c : CampD) (f : Nat) (l : List LaunchD) (S : Option (List LaunchD)) : searchB c (f + 1) S l = foldS c f l (takeB c S l) (2 ^ c.cargos.length - 1) 0 := by
 show (waysD c).foldl (goS c f l) (takeB c S l) = _
 unfold foldS waysD waysK
 simp [rowW]
/-- While 'x := soonest(..)' is drawn. -/
def SxJ (wr : World) (x0 X : LaunchD) (d13 d14 d15 d16 d17 : Bool) (v13 v14 v15 v16 : Value) (w1 : World) : Prop :=
 Below wr.heap.size wr w1 ∧ (d13 = true → ∃ A n, v13 = .slice A X.cargos.length n ∧ IntsO w1 0 A X.cargos) ∧ (d14 = true → ∃ A n, v14 = .agg (launchA x0 A n) ∧ IntsO w1 0 A X.cargos) ∧
 (d15 = true → ∃ A n, v15 = .agg (launchA X A n) ∧ IntsO w1 0 A X.cargos) ∧
 (d16 = true → ∃ g cs, v16 = .pointer (some ⟨g, 0, none⟩) ∧ wr.heap.size ≤ g ∧ cs.size = 4 ∧ Bk w1 g 52 cs ∧ (d17 = true → ∃ A n, cs = launchA X A n ∧ IntsO w1 0 A X.cargos))
section
variable {wr w1 w2 : World} {x0 X : LaunchD} {d13 d14 d15 d16 d17 : Bool} {v13 v14 v15 v16 : Value}
theorem SxJ.later (h : SxJ wr x0 X d13 d14 d15 d16 d17 v13 v14 v15 v16 w1) (hb : Below w1.heap.size w1 w2) : SxJ wr x0 X d13 d14 d15 d16 d17 v13 v14 v15 v16 w2 := by
 obtain ⟨h1, h2, h3, h4, h5⟩ := h
 refine ⟨h1.trans (hb.mono h1.size), fun e => ?_, fun e => ?_, fun e => ?_, fun e => ?_⟩
 ·obtain ⟨A, n, e1, e2⟩ := h2 e; exact ⟨A, n, e1, e2.later hb⟩
 ·obtain ⟨A, n, e1, e2⟩ := h3 e; exact ⟨A, n, e1, e2.later hb⟩
 ·obtain ⟨A, n, e1, e2⟩ := h4 e; exact ⟨A, n, e1, e2.later hb⟩
 ·obtain ⟨g, cs, e1, e2, e3, e4, e5⟩ := h5 e
  exact ⟨g, cs, e1, e2, e3, e4.below hb e4.lt, fun e => by obtain ⟨A, n, e6, e7⟩ := e5 e; exact ⟨A, n, e6, e7.later hb⟩⟩
theorem SxJ.start : SxJ wr x0 X false false false false false v13 v14 v15 v16 wr.drew := ⟨(Below.refl _ _).drew, fun h => absurd h (by decide), fun h => absurd h (by decide), fun h => absurd h (by decide), fun h => absurd h (by decide)⟩
theorem SxJ.made (h : SxJ wr x0 X d13 d14 d15 false d17 v13 v14 v15 v16 w1) (h17 : d17 = false) : SxJ wr x0 X d13 d14 d15 true d17 v13 v14 v15 (.pointer (some ⟨w1.heap.size, 0, none⟩)) (w1.alloc (.cells #[.int .i64 0, .int .i64 0, .int .i64 0, .slice none 0 0] 52)) := by
 have hb : Below w1.heap.size w1 (w1.alloc (.cells #[.int .i64 0, .int .i64 0, .int .i64 0, .slice none 0 0] 52)) := (Below.refl _ _).alloc (Nat.le_refl _) _
 obtain ⟨h1, h2, h3, h4, _⟩ := h.later hb
 exact ⟨h1, h2, h3, h4, fun _ => ⟨_, _, rfl, h.1.size, rfl, Bk.new _ _ _, fun e => by rw [h17] at e; cases e⟩⟩
theorem SxJ.store (h : SxJ wr x0 X d13 d14 d15 d16 d17 v13 v14 v15 v16 w1) {g : Nat} {cs : Array Value} (hv : v16 = .pointer (some ⟨g, 0, none⟩)) (hg : wr.heap.size ≤ g) (hb : Bk w1 g 52 cs) (ho : Only g w1 w2) {A : Option Addr} {n : Nat} (hk : Bk w2 g 52 (launchA X A n)) (hi : IntsO w1 0 A X.cargos) :
  SxJ wr x0 X d13 d14 d15 d16 true v13 v14 v15 v16 w2 := by
 obtain ⟨h1, h2, h3, h4, _⟩ := h
 have hot : ∀ {A L}, IntsO w1 0 A L → IntsO w2 0 A L := fun hh => hh.other hb (by decide) fun k _ hne => ho.block k hne
 refine ⟨h1.trans (ho.below hg), fun e => ?_, fun e => ?_, fun e => ?_, fun _ => ⟨g, _, hv, hg, rfl, hk, fun _ => ⟨A, n, rfl, hot hi⟩⟩⟩
 ·obtain ⟨A, n, e1, e2⟩ := h2 e; exact ⟨A, n, e1, hot e2⟩
 ·obtain ⟨A, n, e1, e2⟩ := h3 e; exact ⟨A, n, e1, hot e2⟩
 ·obtain ⟨A, n, e1, e2⟩ := h4 e; exact ⟨A, n, e1, hot e2⟩
end
/-- While 's = search(c, s, append(append([]T{}, l...), x))' is drawn. -/
def AppJ (wr : World) (R : List RowL) (x : RowL) (T : Option (List LaunchD)) (d2 d4 d6 d7 d8 : Bool) (v2 v4 v6 v7 v8 : Value) (w1 : World) : Prop :=
 Below wr.heap.size wr w1 ∧ (d2 = true → d4 = false → ∃ g, v2 = .slice (some ⟨g, 0, none⟩) 0 0 ∧ OwnR w1 wr.heap.size v2 []) ∧ (d4 = true → d7 = false → OwnR w1 wr.heap.size v4 R) ∧
 (d6 = true → d7 = false → ∃ h c, v6 = .slice (some ⟨h, 0, none⟩) 1 c ∧ Bk w1 h 52 (encR x).toArray) ∧ (d7 = true → OwnR w1 wr.heap.size v7 (R ++ [x])) ∧
 (d8 = true → ∃ A n cap, v8 = .agg (srA A n cap T.isSome) ∧ SrAt w1 T A n cap)
section
variable {wr w1 w2 : World} {R : List RowL} {x : RowL} {T : Option (List LaunchD)} {d2 d4 d6 d7 d8 : Bool} {v2 v4 v6 v7 v8 : Value}
theorem AppJ.start : AppJ wr R x T false false false false false v2 v4 v6 v7 v8 wr.drew := ⟨(Below.refl _ _).drew, fun h => absurd h (by decide), fun h => absurd h (by decide), fun h => absurd h (by decide), fun h => absurd h (by decide), fun h => absurd h (by decide)⟩
theorem AppJ.later (h : AppJ wr R x T d2 d4 d6 d7 d8 v2 v4 v6 v7 v8 w1) (hb : Below w1.heap.size w1 w2) : AppJ wr R x T d2 d4 d6 d7 d8 v2 v4 v6 v7 v8 w2 := by
 obtain ⟨h1, h2, h3, h4, h5, h6⟩ := h
 refine ⟨h1.trans (hb.mono h1.size), fun a b => ?_, fun a b => (h3 a b).later hb, fun a b => ?_, fun a => (h5 a).later hb, fun a => ?_⟩
 ·obtain ⟨g, e1, e2⟩ := h2 a b; exact ⟨g, e1, e2.later hb⟩
 ·obtain ⟨g, c, e1, e2⟩ := h4 a b; exact ⟨g, c, e1, e2.below hb e2.lt⟩
 ·obtain ⟨A, n, cap, e1, e2⟩ := h6 a; exact ⟨A, n, cap, e1, e2.later hb⟩
end
theorem encR_cells {w : World} {h : Nat} {x : RowL} (hb : Bk w h 52 (encR x).toArray) : ∀ i, i < [x].length → ∀ j, j < 4 → ∃ b o, some (⟨h, 0, none⟩ : Addr) = some ⟨b, o, none⟩ ∧ w.cell? ⟨b, o + (i * 4 + j), none⟩ = (encR ([x].getD i row0))[j]? := by
 intro i hi j hj
 obtain rfl : i = 0 := by simpa using hi
 refine ⟨h, 0, rfl, ?_⟩
 rw [hb.cell]; simp
section
variable {P : Program} {ops : Array Oper} {rest : List Oper} {o : Oper} {a : Act} {w : World} {Q : Exit → Act → World → Prop}
theorem wpBuildL (hgd : o.guard = none) (t : TypeId) (parts : Array (Nat × Operand)) (ho : o.op = .build t parts) (l : List (Nat × Value)) (cs : Array Value) (hev : (parts.map fun (i, x) => (i, a.eval x)).toList = l) (hb : P.built t l = some cs)
  (h : wpList P ops Q rest (a.put o.dst (.agg cs)) w) : wpList P ops Q (o :: rest) a w :=
 wpList_plain hgd fun _ hK => wp_build t parts ho (by rw [hev, hb]; rfl) (by rw [hev, hb]; exact hK _ _ h)
end
end Go.Proofs.YtcnjenlojnognaaGreat
/- What is proved: the contract of the document's search. Conditions: the campaign is valid, the plan can go on; both lie in memory. -/
namespace Go.Proofs.YtcnjenlojnognaaGreat
open Go.RowKit

def SrPost (T : Option (List LaunchD)) (w : World) (e : Ending) (w' : World) : Prop := ∃ A n cap, e = .returned (.agg (srA A n cap T.isSome)) ∧ SrAt w' T A n cap ∧ Below w.heap.size w w'
theorem built_launch3 (i k : Int) (A : Option Addr) (n cl : Nat) : Tryz.prog.built 52 [(1, .int .i64 i), (2, .int .i64 k), (3, .slice A n cl)] = some #[.int .i64 0, .int .i64 i, .int .i64 k, .slice A n cl] := by kernel_rfl
theorem built_search (A : Option Addr) (n cl : Nat) : Tryz.prog.built 90 [(0, .slice A n cl), (1, .bool true)] = some (srA A n cl true) := by kernel_rfl
theorem AppJ.made2 {wr w1 : World} {R : List RowL} {x : RowL} {T : Option (List LaunchD)} {d2 d4 d6 d7 d8 : Bool} {v2 v4 v6 v7 v8 : Value} (h : AppJ wr R x T d2 d4 d6 d7 d8 v2 v4 v6 v7 v8 w1) : AppJ wr R x T true d4 d6 d7 d8 (.slice (some ⟨w1.heap.size, 0, none⟩) 0 0) v4 v6 v7 v8 (w1.alloc (.cells #[] 52)) := by
  obtain ⟨h1, _, h3, h4, h5, h6⟩ := h.later ((Below.refl _ w1).alloc (Nat.le_refl _) (.cells #[] 52))
  exact ⟨h1, fun _ _ => ⟨_, rfl, ownR_made w1 _ h.1.size⟩, h3, h4, h5, h6⟩
theorem AppJ.made6 {wr w1 : World} {R : List RowL} {x : RowL} {T : Option (List LaunchD)} {d2 d4 d6 d7 d8 : Bool} {v2 v4 v6 v7 v8 : Value} (h : AppJ wr R x T d2 d4 d6 d7 d8 v2 v4 v6 v7 v8 w1) (c : Nat) (cs : Array Value) (hcs : cs = (encR x).toArray) : AppJ wr R x T d2 d4 true d7 d8 v2 v4 (.slice (some ⟨w1.heap.size, 0, none⟩) 1 c) v7 v8 (w1.alloc (.cells cs 52)) := by
  obtain ⟨h1, h2, h3, _, h5, h6⟩ := h.later ((Below.refl _ w1).alloc (Nat.le_refl _) (.cells cs 52))
  exact ⟨h1, h2, h3, fun _ _ => ⟨_, c, rfl, by rw [← hcs]; exact Bk.new _ _ _⟩, h5, h6⟩
theorem AppJ.app4 {wr w1 w2 : World} {R : List RowL} {x : RowL} {T : Option (List LaunchD)} {d2 d4 d6 d7 d8 : Bool} {v2 v4 v6 v7 v8 v : Value} (h : AppJ wr R x T d2 d4 d6 d7 d8 v2 v4 v6 v7 v8 w1) (hb : Below w1.heap.size w1 w2) (hv : OwnR w2 wr.heap.size v R) : AppJ wr R x T d2 true d6 d7 d8 v2 v v6 v7 v8 w2 := by
  obtain ⟨h1, _, _, h4, h5, h6⟩ := h.later hb
  exact ⟨h1, fun _ e => absurd e (by decide), fun _ _ => hv, h4, h5, h6⟩
theorem AppJ.app7 {wr w1 w2 : World} {R : List RowL} {x : RowL} {T : Option (List LaunchD)} {d2 d4 d6 d7 d8 : Bool} {v2 v4 v6 v7 v8 v : Value} (h : AppJ wr R x T d2 d4 d6 d7 d8 v2 v4 v6 v7 v8 w1) (h4 : d4 = true) (h8 : d8 = false) (hb : Below wr.heap.size w1 w2) (hv : OwnR w2 wr.heap.size v (R ++ [x])) : AppJ wr R x T d2 d4 d6 true d8 v2 v4 v6 v v8 w2 :=
  ⟨h.1.trans hb, fun _ e => absurd (h4.symm.trans e) (by decide), fun _ e => absurd e (by decide), fun _ e => absurd e (by decide), fun _ => hv, fun e => absurd (h8.symm.trans e) (by decide)⟩
theorem AppJ.call8 {wr w1 w2 : World} {R : List RowL} {x : RowL} {T : Option (List LaunchD)} {d2 d4 d6 d7 d8 : Bool} {v2 v4 v6 v7 v8 : Value} (h : AppJ wr R x T d2 d4 d6 d7 d8 v2 v4 v6 v7 v8 w1) (hb : Below w1.heap.size w1 w2) {A : Option Addr} {n cap : Nat} (hs : SrAt w2 T A n cap) : AppJ wr R x T d2 d4 d6 d7 true v2 v4 v6 v7 (.agg (srA A n cap T.isSome)) w2 := by
  obtain ⟨h1, h2, h3, h4, h5, _⟩ := h.later hb
  exact ⟨h1, h2, h3, h4, h5, fun _ => ⟨A, n, cap, rfl, hs⟩⟩
/-- The same with the last store. -/
def AppK (W0 : World) (qs : Nat) (wr : World) (R : List RowL) (x : RowL) (T : Option (List LaunchD)) (d2 d4 d6 d7 d8 d9 : Bool) (v2 v4 v6 v7 v8 : Value) (w1 : World) : Prop :=
  (d9 = true → SrM W0 qs T w1) ∧ (d9 = false → AppJ wr R x T d2 d4 d6 d7 d8 v2 v4 v6 v7 v8 w1)
theorem AppK.off {W0 : World} {qs : Nat} {wr w1 : World} {R : List RowL} {x : RowL} {T : Option (List LaunchD)} {d2 d4 d6 d7 d8 d9 : Bool} {v2 v4 v6 v7 v8 : Value} (h9 : d9 = false) (h : AppJ wr R x T d2 d4 d6 d7 d8 v2 v4 v6 v7 v8 w1) : AppK W0 qs wr R x T d2 d4 d6 d7 d8 d9 v2 v4 v6 v7 v8 w1 := ⟨fun e => absurd (h9.symm.trans e) (by decide), fun _ => h⟩
theorem plan_days {c : CampD} {l : List LaunchD} (hc : campB c = true) (h : PlanOk c l) : ∀ y ∈ l, 0 ≤ y.day ∧ y.day ≤ 10000 := fun y hy => by
  have hp := possB_parts (h.poss y hy)
  have hb := camp_craft hc y.craft
  have h1 := hp.2.2.2.2.2.1
  have h2 := hp.2.2.2.2.2.2.1
  omega
set_option maxRecDepth 100000 in
set_option maxHeartbeats 32000000 in
theorem search_step (V : CV) (c : CampD) (hc : campB c = true) (f : Nat)
    (IH : ∀ (w : World) (S : Option (List LaunchD)) (SA : Option Addr) (sn sc : Nat) (l : List LaunchD) (AL : Option Addr) (cL : Nat), CampAt w w.heap.size V c → SrAt w S SA sn sc → PlanO w 0 AL l → l.length ≤ cL → PlanOk c l → c.cargos.length < l.length + f →
      Calls Tryz.prog 66 #[.agg (campA V c), .agg (srA SA sn sc S.isSome), .slice AL l.length cL] w (SrPost (searchB c f S l) w))
    (w : World) (S : Option (List LaunchD)) (SA : Option Addr) (sn sc : Nat) (l : List LaunchD) (AL : Option Addr) (cL : Nat) (h : CampAt w w.heap.size V c) (hs : SrAt w S SA sn sc) (hp : PlanO w 0 AL l) (hcap : l.length ≤ cL) (hok : PlanOk c l) (hf : c.cargos.length < l.length + (f + 1)) :
    Calls Tryz.prog 66 #[.agg (campA V c), .agg (srA SA sn sc S.isSome), .slice AL l.length cL] w (SrPost (searchB c (f + 1) S l) w) := by
  obtain ⟨qb, hqb⟩ : ∃ qb, w.heap.size = qb := ⟨_, rfl⟩
  obtain ⟨sb, hsb⟩ : ∃ b, S.isSome = b := ⟨_, rfl⟩
  have HQB : Hid (w.heap.size ≤ qb) := Lib.hid (by omega)
  obtain ⟨W0, hW0⟩ : ∃ W0, ((w.alloc (.cells (campA V c) 26)).alloc (.cells (srA SA sn sc sb) 90)).alloc (.cells #[.slice none 0 0, .bool false] 90) = W0 := ⟨_, rfl⟩
  have hb0 : Below w.heap.size w W0 := by rw [← hW0]; exact (((Below.refl _ w).alloc (Nat.le_refl _) _).alloc (by simp) _).alloc (by simp; omega) _
  have HKC : Hid (Bk W0 qb 26 (campA V c)) := Lib.hid (by rw [← hW0, ← hqb]; exact ((Bk.new _ _ _).alloc _).alloc _)
  have HS0 : Hid (SrM W0 (qb + 1) S W0) := Lib.hid ⟨Below.refl _ _, ⟨SA, sn, sc, by rw [hsb, ← hW0, ← hqb]; exact (Bk.newAt _ _ _ _ (by simp)).alloc _, hs.later hb0⟩, by rw [← hW0, ← hqb]; exact Bk.newAt _ _ _ _ (by simp)⟩
  have HBW : Hid (∀ w1, Below (qb + 1) W0 w1 → Below w.heap.size w w1) := Lib.hid fun w1 h1 => hb0.trans (h1.mono (by omega))
  have HCW : Hid (∀ w1, Below (qb + 1) W0 w1 → CampAt w1 w1.heap.size V c) := Lib.hid fun w1 h1 => h.later (HBW.out w1 h1)
  have HPW : Hid (∀ w1, Below (qb + 1) W0 w1 → PlanO w1 0 AL l) := Lib.hid fun w1 h1 => hp.later (HBW.out w1 h1)
  have HLC : Hid (∀ w1, Below (qb + 1) W0 w1 → ∀ j u, (campA V c)[j]? = some u → w1.cell? ⟨qb, 0 + j, none⟩ = some u) := Lib.hid fun w1 hb j u hj => by rw [Nat.zero_add, (HKC.out.below hb (by omega)).cell]; exact hj
  have HCC := Lib.hid hc
  have HOK := Lib.hid hok
  have HF := Lib.hid hf
  have hpl := hp.short
  have hlen := camp_len hc
  have HPL6 : Hid (l.length ≤ 6) := Lib.hid (by have := planOk_len hc hok; omega)
  obtain ⟨R, hR1, hR2, hR3, hR4⟩ := hp.toRows
  have HR1 := Lib.hid hR1
  have HR3 : Hid (∀ w1, Below (qb + 1) W0 w1 → ∀ r ∈ R, IntsO w1 0 r.2.1 r.1.cargos) := Lib.hid fun w1 h1 r hr => (hR3 r hr).later (HBW.out w1 h1)
  have HR4 : Hid (∀ w1, Below (qb + 1) W0 w1 → ∀ i, i < R.length → ∀ j, j < 4 → ∃ b o, AL = some ⟨b, o, none⟩ ∧ w1.cell? ⟨b, o + (i * 4 + j), none⟩ = (encR (R.getD i row0))[j]?) := Lib.hid fun w1 h1 => hR4 w1 (HBW.out w1 h1)
  obtain ⟨nl, hnl⟩ : ∃ n, l.length = n := ⟨_, rfl⟩
  have HNL := Lib.hid hnl
  have HRL : Hid (R.length = nl) := Lib.hid (hR2.trans hnl)
  obtain ⟨nc, hnc⟩ : ∃ n, c.crafts.length = n := ⟨_, rfl⟩
  obtain ⟨np, hnp⟩ : ∃ n, c.pads.length = n := ⟨_, rfl⟩
  obtain ⟨ng, hng⟩ : ∃ n, c.cargos.length = n := ⟨_, rfl⟩
  have HNC := Lib.hid hnc
  have HNP := Lib.hid hnp
  have HNG := Lib.hid hng
  rw [hnc, hnp, hng] at hlen
  obtain ⟨hnc0, hnc1, hnp0, hnp1, hng0, hng1, _⟩ := hlen
  have HAR : Hid (1 ≤ nc ∧ nc ≤ 3 ∧ 1 ≤ np ∧ np ≤ 2 ∧ 1 ≤ ng ∧ ng ≤ 6) := Lib.hid ⟨by omega, by omega, by omega, by omega, by omega, by omega⟩
  have HCB : Hid (∀ w1, Below (qb + 1) W0 w1 → w1.cell? ⟨qb, 0, none⟩ = some (.slice V.cA nc V.cc) ∧ w1.cell? ⟨qb, 1, none⟩ = some (.slice V.pA np V.pc) ∧ w1.cell? ⟨qb, 2, none⟩ = some (.slice V.gA ng V.gc) ∧ w1.cell? ⟨qb, 3, none⟩ = some (.int .i64 c.margin)) := Lib.hid fun w1 h1 => by
    rw [← HNC.out, ← HNP.out, ← HNG.out]
    exact ⟨HLC.out w1 h1 0 _ rfl, HLC.out w1 h1 1 _ rfl, HLC.out w1 h1 2 _ rfl, HLC.out w1 h1 3 _ rfl⟩
  have HCE : Hid (campA V c = #[.slice V.cA nc V.cc, .slice V.pA np V.pc, .slice V.gA ng V.gc, .int .i64 c.margin]) := Lib.hid (by rw [← HNC.out, ← HNP.out, ← HNG.out]; rfl)
  -- contracts
  obtain ⟨wa, hwa⟩ : ∃ x, (worthB c l).1 = x := ⟨_, rfl⟩
  obtain ⟨wd, hwd⟩ : ∃ x, (worthB c l).2.2 = x := ⟨_, rfl⟩
  obtain ⟨cm, hcm⟩ : ∃ x, compB c l = x := ⟨_, rfl⟩
  have HWO : Hid (∀ w1, Below (qb + 1) W0 w1 → Calls Tryz.prog 21 #[.agg (campA V c), .slice AL nl cL] w1 fun e w' => e = .returned (.tuple #[.int .i64 wa, .bool cm, .int .i64 wd]) ∧ Below w1.heap.size w1 w') := Lib.hid fun w1 h1 => by
    rw [← HNL.out, ← hwa, ← hwd, ← hcm]
    exact refWorth_any w1 V c (HCW.out w1 h1) l AL cL (HPW.out w1 h1).at hcap
  have HBT : Hid (∀ w1 A n cap b, Below (qb + 1) W0 w1 → PlanO w1 0 A b → n = b.length → n ≤ cap → Calls Tryz.prog 28 #[.agg (campA V c), .slice AL nl cL, .slice A n cap] w1 fun e w' => e = .returned (.bool (betterB c l b)) ∧ Below w1.heap.size w1 w') := Lib.hid fun w1 A n cap b h1 h2 h3 h4 => by
    subst h3
    rw [← HNL.out]
    exact refBetter_any w1 V c (HCW.out w1 h1) l AL cL (HPW.out w1 h1).at hcap b A cap h2.at h4
  have HCG : Hid (∀ w1 (m : Nat), m < 64 → Calls Tryz.prog 72 #[.int .i64 (m : Int)] w1 fun e w' => ∃ A n, e = .returned (.slice A (bitsL m).length n) ∧ IntsO w' 0 A (bitsL m) ∧ Below w1.heap.size w1 w') := Lib.hid fun w1 m hm =>
    (cargos_any w1 m hm).mono fun e w' ⟨v, he, hv, hb⟩ => by
      obtain ⟨A, n, rfl, _, hi⟩ := hv.intsO (by unfold bitsL; rw [List.length_map]; exact Nat.le_trans (List.length_filter_le _ _) (by simp))
      exact ⟨A, n, he, hi.mono (Nat.zero_le _), hb⟩
  have HSN : Hid (∀ w1 (m q : Nat) A n, Below (qb + 1) W0 w1 → q < nc * np → m < 2 ^ ng → IntsO w1 0 A (bitsL m) → Calls Tryz.prog 99 #[.agg (campA V c), .slice AL nl cL, .agg (launchA ⟨0, (q / np : Nat), (q % np : Nat), bitsL m⟩ A n)] w1 fun e w' => e = .returned (.agg (launchA (stepD c l m q) A n)) ∧ Below w1.heap.size w1 w') := Lib.hid fun w1 m q A n h1 h2 h3 h4 => by
    rw [← HNL.out]
    have hm64 : m < 64 := Nat.lt_of_lt_of_le h3 (Nat.pow_le_pow_right (by decide) (by omega : ng ≤ 6))
    have h5 := soonest_any w1 V c (HCW.out w1 h1) hc l AL cL (HPW.out w1 h1).at (plan_days hc hok) ⟨0, (q / np : Nat), (q % np : Nat), bitsL m⟩ A n h4.at (q / np) (q % np) rfl rfl (by rw [hnc]; exact Nat.div_lt_of_lt_mul (by rw [Nat.mul_comm]; exact h2)) (by rw [hnp]; exact Nat.mod_lt _ (by omega))
      (fun i hi => by
        obtain ⟨a1, a2, a3⟩ := bitsL_mem.1 hi
        refine ⟨a1, ?_⟩
        rcases Nat.lt_or_ge i.toNat ng with h6 | h6
        · rw [hng]; omega
        · rw [Nat.testBit_lt_two_pow (Nat.lt_of_lt_of_le h3 (Nat.pow_le_pow_right (by decide) h6))] at a3; cases a3)
      (by unfold bitsL; rw [List.length_map]; exact Nat.le_trans (List.length_filter_le _ _) (by simp))
    unfold stepD; rw [hnp]; exact h5
  have HFT : Hid (∀ w1 x A n, Below (qb + 1) W0 w1 → IntsO w1 0 A x.cargos → Calls Tryz.prog 38 #[.agg (campA V c), .slice AL nl cL, .agg (launchA x A n)] w1 fun e w' => e = .returned (.int .i64 (faultB c l x)) ∧ Below w1.heap.size w1 w') := Lib.hid fun w1 x A n h1 h2 => by
    rw [← HNL.out]
    exact refFault_any w1 V c (HCW.out w1 h1) hc l AL cL (HPW.out w1 h1).at (fun y hy => by have := plan_days hc hok y hy; unfold DayOk; omega) x A n h2.at
  have HIH : Hid (∀ w1 (S1 : Option (List LaunchD)) A n cap x LA lc, Below (qb + 1) W0 w1 → SrAt w1 S1 A n cap → PlanO w1 0 LA (l ++ [x]) → nl + 1 ≤ lc → faultB c l x = 0 → Calls Tryz.prog 66 #[.agg (campA V c), .agg (srA A n cap S1.isSome), .slice LA (nl + 1) lc] w1 (SrPost (searchB c f S1 (l ++ [x])) w1)) := Lib.hid fun w1 S1 A n cap x LA lc h1 h2 h3 h4 h5 => by
    have h6 := IH w1 S1 A n cap (l ++ [x]) LA lc (HCW.out w1 h1) h2 h3 (by rw [List.length_append, List.length_singleton, hnl]; exact h4) ((PlanOk.snoc hc hok).1 h5) (by rw [List.length_append, List.length_singleton]; omega)
    rw [List.length_append, List.length_singleton, hnl] at h6
    exact h6
  obtain ⟨PQ, hPQ⟩ : ∃ Q, SrPost (searchB c (f + 1) S l) w = Q := ⟨_, rfl⟩
  obtain ⟨T, hT⟩ : ∃ T, takeB c S l = T := ⟨_, rfl⟩
  have HFIN : Hid (∀ A n cap w', SrAt w' (foldS c f l T (2 ^ ng - 1) 0) A n cap → Below w.heap.size w w' → PQ (.returned (.agg (srA A n cap (foldS c f l T (2 ^ ng - 1) 0).isSome))) w') := Lib.hid fun A n cap w' h1 h2 => by
    rw [← hPQ, foldS_end, hT, hng]; exact ⟨A, n, cap, rfl, h1, h2⟩
  have HTK : Hid ((cm = false → T = S) ∧ (cm = true → S = none → T = some l) ∧ (cm = true → ∀ b, S = some b → T = if betterB c l b then some l else some b)) := Lib.hid (by
    rw [← hT, ← hcm]
    unfold takeB
    refine ⟨fun e => by rw [e]; rfl, fun e e2 => by rw [e, e2]; rfl, fun e b e2 => by rw [e, e2]; simp⟩)
  have HSB : Hid (S.isSome = sb) := Lib.hid hsb
  rw [hnl] at hcap hpl
  have HCAP := Lib.hid hcap
  rw [hsb, hnl, hPQ]
  clear h hc hs hp hok hf hb0 hR1 hR2 hR3 hR4 hnl hnc hnp hng hwa hwd hcm hPQ hT hsb IH hcap
  simp only [campA, srA] at hW0 ⊢
  go_enter Tryz.func66, Tryz.ntmps66
  go_upto_region 1 with (fail)
  clear hW0 hqb
  go_wp2_with (first | (refine wpLoadAt rfl 26 _ rfl qb 0 rfl (campA V c) _ (HLC.out _ HS0.out.bel) und_camp rfl (info_campA V c) ?_))
  refine (HWO.out _ HS0.out.bel).mono ?_
  rintro e W1 ⟨rfl, hb1⟩
  have HS1 : Hid (SrM W0 (qb + 1) S W1) := Lib.hid (HS0.out.later hb1)
  clear hb1
  go_upto_region 2 with (fail)
  go_cut [34] (fun v34 w' => ∃ b : Bool, v34 = .bool b ∧ Hid (T = (if b = true then some l else S)) ∧ Hid (SrM W0 (qb + 1) S w'))
  case first =>
    cases cm with
    | false =>
      have HT0 : Hid (T = if false = true then some l else S) := Lib.hid (by rw [HTK.out.1 rfl]; rfl)
      go_wp2_with fail
      go_meet
      case rel => exact ⟨false, rfl, HT0, HS1⟩
    | true =>
      obtain ⟨sA, sN, sC, hk, hat⟩ := HS1.out.box
      have s1 : W1.cell? ⟨qb + 1, 1, none⟩ = some (.bool S.isSome) := hk.cell 1
      have s0 : W1.cell? ⟨qb + 1, 0, none⟩ = some (.slice sA sN sC) := hk.cell 0
      by_cases hS : S.isSome = true
      · obtain ⟨B, hB⟩ := Option.isSome_iff_exists.1 hS
        obtain ⟨hn, hcb, hpo⟩ := hat B hB
        have HBT1 := Lib.hid (HBT.out W1 sA sN sC B HS1.out.bel hpo hn hcb)
        have HTB := Lib.hid (HTK.out.2.2 rfl B hB)
        have HSB2 := Lib.hid hB
        obtain ⟨bt, hbt⟩ : ∃ x, betterB c l B = x := ⟨_, rfl⟩
        rw [hbt] at HBT1 HTB
        rw [HCE.out] at HBT1
        have HT0 : Hid (T = if bt = true then some l else S) := Lib.hid (by rw [HTB.out, HSB2.out])
        rw [hS] at s1
        obtain ⟨k0, k1, k2, k3⟩ := HCB.out W1 HS1.out.bel
        clear hk hat hS hn hcb hpo hbt hB
        go_wp2_with fail
        refine HBT1.out.mono ?_
        rintro e W2 ⟨rfl, hb2⟩
        have HS2 : Hid (SrM W0 (qb + 1) S W2) := Lib.hid (HS1.out.later hb2)
        clear hb2 k0 k1 k2 k3 s0 s1
        go_wp2_with fail
        go_meet
        case rel => exact ⟨bt, rfl, HT0, HS2⟩
      · have hSn : S = none := by simpa using hS
        have HT0 : Hid (T = if true = true then some l else S) := Lib.hid (by rw [HTK.out.2.1 rfl hSn]; rfl)
        rw [show S.isSome = false from by simpa using hS] at s1
        clear hk hat hS hSn s0
        go_wp2_with fail
        go_meet
        case rel => exact ⟨true, rfl, HT0, HS1⟩
  case rest =>
  obtain ⟨b, rfl, HT2, HS2⟩ := hcut
  obtain ⟨Wc, rfl⟩ : ∃ W : World, W = wc := ⟨_, rfl⟩
  clear HS1
  go_upto_if 34 with (fail)
  go_cut [38] (fun _ w' => Hid (SrM W0 (qb + 1) T w'))
  case first =>
    cases b with
    | false =>
      have HST : Hid (SrM W0 (qb + 1) T Wc) := Lib.hid (by rw [HT2.out]; exact HS2.out)
      go_wp2_with fail
      go_meet
      case rel => exact HST
    | true =>
      have HTL : Hid (some l = T) := Lib.hid (by rw [HT2.out]; rfl)
      have HV0 := Lib.hid (ownR_made Wc Wc.heap.size (Nat.le_refl _))
      have HBA : Hid (Below Wc.heap.size Wc (Wc.alloc (.cells #[] 52))) := Lib.hid ((Below.refl _ _).alloc (Nat.le_refl _) _)
      have HRC := Lib.hid (HR4.out (Wc.alloc (.cells #[] 52)) (HS2.out.later HBA.out).bel)
      go_wp2_with (at_builtin; refine wpList_app (w := Wc.alloc (.cells #[] 52)) rfl _ _ rfl (B := Wc.heap.size) (v := .slice (some ⟨Wc.heap.size, 0, none⟩) 0 0) (R := []) (S := R) rfl HV0.out AL nl cL rfl HRL.out HRC.out (by simp) (by have := HRL.out; omega) (by simp) ?_)
      intro v3 W3 hv3 hb3
      obtain ⟨_, g3, c3, hve, _⟩ := id hv3
      subst hve
      have HB3 : Hid (Below Wc.heap.size Wc W3) := Lib.hid (HBA.out.trans hb3)
      have HS3 : Hid (SrM W0 (qb + 1) S W3) := Lib.hid (HS2.out.later HB3.out)
      obtain ⟨hn3, hc3, hpo3⟩ := hv3.planO HR1.out (Nat.zero_le _) (HR3.out W3 HS3.out.bel) (by have := HRL.out; omega)
      obtain ⟨A0, n0, c0, hk0, _⟩ := HS3.out.box
      have HK0 := Lib.hid hk0
      have HAT : Hid (SrAt W3 (some l) (some ⟨g3, 0, none⟩) R.length c3) := Lib.hid fun b e => by
        obtain rfl := Option.some.inj e
        exact ⟨hn3, hc3, hpo3⟩
      clear hv3 hb3 hn3 hc3 hpo3 hk0 HRC HV0
      go_wp2_with (first | (refine wpBuildL rfl 90 _ rfl [(0, .slice (some ⟨g3, 0, none⟩) R.length c3), (1, .bool true)] (srA (some ⟨g3, 0, none⟩) R.length c3 true) (by simp [Act.eval]) (built_search _ _ _) ?_) | (refine wpStoreAt rfl rfl 90 _ _ rfl (qb + 1) 0 rfl (srA (some ⟨g3, 0, none⟩) R.length c3 true) rfl 90 _ HK0.out (by show 0 + 2 ≤ 2; omega) (srA_one _ _ _ _) (info_srA _ _ _ _) ?_; intro w4 hk4 ho4))
      rw [splA_all (srA A0 n0 c0 S.isSome) (srA (some ⟨g3, 0, none⟩) R.length c3 true) rfl] at hk4
      have HS4 : Hid (SrM W0 (qb + 1) T w4) := Lib.hid (by rw [← HTL.out]; exact HS3.out.set ho4 hk4 HAT.out)
      clear hk4 ho4
      go_meet
      case rel => exact HS4
  case rest =>
  have HS4 := hcut
  clear hcut HT2 HS2
  obtain ⟨W4, rfl⟩ : ∃ W : World, W = wc := ⟨_, rfl⟩
  go_wp2_with fail
  go_loopw [10, 11] (fun av iv wr => ∃ (z : Int) (q : Nat), q ≤ ng ∧ av = .int .i64 z ∧ iv = .int .i64 (q : Int) ∧ Hid (z = ((2 ^ q : Nat) : Int)) ∧ Hid (SrM W0 (qb + 1) T wr)) (fun _ iv _ => ng - (intOf iv).toNat)
  case atStart => exact ⟨1, 0, Nat.zero_le _, rfl, rfl, Lib.hid (by simp), HS4⟩
  case round =>
    obtain ⟨z, q, hq, rfl, rfl, HZ, HSL⟩ := hrel
    have h0q : (0 : Int) ≤ (q : Int) := by omega
    obtain ⟨p0, p1, p2, p3⟩ := HCB.out wr HSL.out.bel
    by_cases hlt : q < ng
    case pos =>
      have hqi : (q : Int) < (ng : Int) := by omega
      have hzb : 0 ≤ z ∧ z ≤ 64 := by
        obtain ⟨pw, hpw⟩ : ∃ x : Nat, 2 ^ q = x := ⟨_, rfl⟩
        have h1 : pw ≤ 64 := by rw [← hpw]; exact Nat.pow_le_pow_right (by decide) (by have := HAR.out; omega : q ≤ 6)
        have h2 := HZ.out
        rw [hpw] at h2
        omega
      have hws : IntKind.i64.wrap (2 * z) = 2 * z := IntWalk.i64_in _ (by omega)
      have HZ2 : Hid (2 * z = ((2 ^ (q + 1) : Nat) : Int)) := Lib.hid (by
        rw [HZ.out, Nat.pow_succ]
        obtain ⟨pw, hpw⟩ : ∃ x : Nat, 2 ^ q = x := ⟨_, rfl⟩
        rw [hpw]; omega)
      go_wp2_with fail
      go_roundw
      case rel => exact ⟨2 * z, q + 1, by omega, rfl, by go_num, HZ2, HSL⟩
      case measure => simp [intOf]; omega
    case neg =>
      obtain rfl : q = ng := by omega
      obtain ⟨al, hal⟩ : ∃ al : Nat, 2 ^ q = al := ⟨_, rfl⟩
      have hz := HZ.out
      rw [hal] at hz
      subst hz
      have HAL := Lib.hid hal
      have hal1 : 1 ≤ al := by rw [← hal]; exact Nat.one_le_two_pow
      have hal64 : al ≤ 64 := by rw [← hal]; exact Nat.pow_le_pow_right (by decide) (by have := HAR.out; omega : q ≤ 6)
      clear hal HZ
      obtain ⟨W5, rfl⟩ : ∃ W : World, W = wr := ⟨_, rfl⟩
      go_wp2_with fail
      clear p0 p1 p2 p3
      go_loopw [12] (fun bv wr => ∃ m : Nat, 1 ≤ m ∧ m ≤ al ∧ bv = .int .i64 (m : Int) ∧ Hid (SrM W0 (qb + 1) (foldS c f l T (m - 1) 0) wr)) (fun bv _ => al - (intOf bv).toNat)
      case atStart => exact ⟨1, Nat.le_refl _, hal1, rfl, Lib.hid (by rw [show 1 - 1 = 0 from rfl, foldS_zero]; exact HSL.out)⟩
      case round =>
        obtain ⟨m, hm1, hma, rfl, HSO⟩ := hrel
        have h0m : (0 : Int) ≤ (m : Int) := by omega
        obtain ⟨W6, rfl⟩ : ∃ W : World, W = wr := ⟨_, rfl⟩
        by_cases hmt : m < al
        case neg =>
          obtain rfl : m = al := by omega
          obtain ⟨A0, n0, c0, hk0, hat0⟩ := HSO.out.box
          have HK0 := Lib.hid hk0
          have HA0 := Lib.hid hat0
          have HRS := Lib.hid HSO.out.res
          have HSZ : Hid (Below w.heap.size w W6) := Lib.hid (HBW.out W6 HSO.out.bel)
          obtain ⟨F, hF⟩ : ∃ F, foldS c f l T (m - 1) 0 = F := ⟨_, rfl⟩
          have HF2 : Hid (foldS c f l T (2 ^ q - 1) 0 = F) := Lib.hid (by rw [HAL.out]; exact hF)
          rw [hF] at HK0 HA0
          rw [HF2.out] at HFIN
          have HL0 : Hid (∀ j u, (srA A0 n0 c0 F.isSome)[j]? = some u → W6.cell? ⟨qb + 1, 0 + j, none⟩ = some u) := Lib.hid fun j u hj => by rw [Nat.zero_add, HK0.out.cell]; exact hj
          clear hk0 hat0 hF
          go_wp2_with (first | (refine wpLoadAt rfl 90 _ rfl (qb + 1) 0 rfl (srA A0 n0 c0 F.isSome) _ HL0.out und_search rfl (info_srA _ _ _ _) ?_) | (refine wpStoreAt rfl rfl 90 _ _ rfl (qb + 1 + 1) 0 rfl (srA A0 n0 c0 F.isSome) rfl 90 _ HRS.out (by show 0 + 2 ≤ 2; omega) (srA_one _ _ _ _) (info_srA _ _ _ _) ?_; intro wf hkf hof))
          rw [splA_all #[.slice none 0 0, .bool false] (srA A0 n0 c0 F.isSome) rfl] at hkf
          refine bodyPost_ret (v := .agg (srA A0 n0 c0 F.isSome)) (results_cellS rfl _ _ (qb + 1 + 1) 90 (srA A0 n0 c0 F.isSome) _ rfl hkf und_search rfl (info_srA _ _ _ _)) rfl (HFIN.out A0 n0 c0 _ (HA0.out.other HRS.out hof) (HSZ.out.trans (hof.below (by have := HQB.out; omega))))
        case pos =>
          have hmi : (m : Int) < (al : Int) := by omega
          obtain ⟨wy, hwy⟩ : ∃ n, nc * np = n := ⟨_, rfl⟩
          have HWY := Lib.hid hwy
          have hwy6 : wy ≤ 6 := by
            have := HAR.out
            rw [← hwy]
            exact Nat.le_trans (Nat.mul_le_mul this.2.1 this.2.2.2.1) (by decide)
          have hws : IntKind.i64.wrap ((nc : Int) * (np : Int)) = (wy : Int) := by
            rw [← hwy]
            rw [show ((nc : Int) * (np : Int)) = ((nc * np : Nat) : Int) from by simp]
            exact IntWalk.i64_in _ (by omega)
          have HWS := Lib.hid hws
          clear hwy hws
          go_wp2_with fail
          go_loopw [13] (fun kv wr => ∃ r : Nat, r ≤ wy ∧ kv = .int .i64 (r : Int) ∧ Hid (SrM W0 (qb + 1) (foldS c f l T (m - 1) r) wr)) (fun kv _ => wy - (intOf kv).toNat)
          case atStart => exact ⟨0, Nat.zero_le _, rfl, HSO⟩
          case round =>
            obtain ⟨r, hr, rfl, HSI⟩ := hrel
            have h0r : (0 : Int) ≤ (r : Int) := by omega
            obtain ⟨W7, rfl⟩ : ∃ W : World, W = wr := ⟨_, rfl⟩
            obtain ⟨p0, p1, p2, p3⟩ := HCB.out W7 HSI.out.bel
            have hws := HWS.out
            by_cases hrt : r < wy
            case neg =>
              obtain rfl : r = wy := by omega
              have HSN2 : Hid (SrM W0 (qb + 1) (foldS c f l T (m + 1 - 1) 0) W7) := Lib.hid (by
                rw [show m + 1 - 1 = m - 1 + 1 from by omega, foldS_next, HNC.out, HNP.out, HWY.out]; exact HSI.out)
              go_wp2_with fail
              go_roundw
              case rel => first | exact ⟨m + 1, by omega, by omega, by go_num, HSN2⟩ | ((repeat apply Exists.intro); exact ⟨⟨by omega, by omega, by go_num, HSN2⟩, rfl⟩)
              case measure => simp [intOf]; omega
            case pos =>
              have hri : (r : Int) < (wy : Int) := by omega
              obtain ⟨X, hX⟩ : ∃ X, stepD c l m r = X := ⟨_, rfl⟩
              obtain ⟨x0, hx0⟩ : ∃ x : LaunchD, (⟨0, (r / np : Nat), (r % np : Nat), bitsL m⟩ : LaunchD) = x := ⟨_, rfl⟩
              have HX := Lib.hid hX
              have HX0 := Lib.hid hx0
              have HXC : Hid (x0.cargos.length = X.cargos.length ∧ bitsL m = X.cargos) := Lib.hid (by rw [← hx0, ← hX]; exact ⟨rfl, rfl⟩)
              obtain ⟨ci, hci⟩ : ∃ n, r / np = n := ⟨_, rfl⟩
              obtain ⟨pi, hpi⟩ : ∃ n, r % np = n := ⟨_, rfl⟩
              have hnp1 := HAR.out.2.2.1
              have hq1 : (r : Int).tdiv (np : Int) = (ci : Int) := by rw [Int.tdiv_eq_ediv_of_nonneg h0r, ← hci]; simp
              have hq2 : (r : Int).tmod (np : Int) = (pi : Int) := by rw [Int.tmod_eq_emod_of_nonneg h0r, ← hpi]; simp
              have HCP : Hid (ci ≤ 6 ∧ pi ≤ 6) := Lib.hid ⟨by have := Nat.div_le_self r np; omega, by have := Nat.mod_lt r (show 0 < np by omega); omega⟩
              have HQ1 := Lib.hid hq1
              have HQ2 := Lib.hid hq2
              have HCI : Hid (∀ A n, launchA x0 A n = #[.int .i64 0, .int .i64 (ci : Int), .int .i64 (pi : Int), .slice A X.cargos.length n]) := Lib.hid fun A n => by rw [← hci, ← hpi, ← HXC.out.1, ← hx0]; rfl
              have HM64 : Hid (m < 64) := Lib.hid (by omega)
              have HWB : Hid (∀ w1, Below W7.heap.size W7 w1 → Below (qb + 1) W0 w1) := Lib.hid fun w1 h1 => (HSI.out.later h1).bel
              have HLG : Hid (∀ w1, Calls Tryz.prog 72 #[.int .i64 (m : Int)] w1 fun e w' => ∃ A n, e = .returned (.slice A X.cargos.length n) ∧ IntsO w' 0 A X.cargos ∧ Below w1.heap.size w1 w') := Lib.hid fun w1 => by
                rw [← HXC.out.2]; exact HCG.out w1 m HM64.out
              have HLS : Hid (∀ w1 A n, Below W7.heap.size W7 w1 → IntsO w1 0 A X.cargos → Calls Tryz.prog 99 #[.agg (campA V c), .slice AL nl cL, .agg (launchA x0 A n)] w1 fun e w' => e = .returned (.agg (launchA X A n)) ∧ Below w1.heap.size w1 w') := Lib.hid fun w1 A n h1 h2 => by
                rw [← HX.out, ← HX0.out]
                refine HSN.out w1 m r A n (HWB.out w1 h1) (by rw [HWY.out]; exact hrt) (by rw [HAL.out]; exact hmt) ?_
                rw [HXC.out.2]; exact h2
              clear hX hx0 hci hpi hq1 hq2 p2 p3
              go_wp2_with fail
              go_upto_region 15 with (fail)
              clear p0 p1 hws
              refine wp_region_stepsJ (by kernel_rfl) (by kernel_rfl) (fun dn vs w1 => SxJ W7 x0 X (dn 13) (dn 14) (dn 15) (dn 16) (dn 17) (vs 13) (vs 14) (vs 15) (vs 16) w1) (fun _ _ _ => True)
                (fun ix u _ _ => match ix with
                  | 0 => u = .agg (campA V c)
                  | 1 => u = .slice AL nl cL
                  | 2 => u = .int .i64 (r : Int)
                  | 3 => u = .pointer (some ⟨qb, 1, none⟩)
                  | 4 => u = .slice V.pA np V.pc
                  | 5 => u = .int .i64 np
                  | 6 => u = .int .i64 (ci : Int)
                  | 7 => u = .int .i64 (r : Int)
                  | 8 => u = .pointer (some ⟨qb, 1, none⟩)
                  | 9 => u = .slice V.pA np V.pc
                  | 10 => u = .int .i64 np
                  | 11 => u = .int .i64 (pi : Int)
                  | 12 => u = .int .i64 (m : Int)
                  | 13 => True
                  | 14 => True
                  | 15 => True
                  | 16 => True
                  | _ => True) (fun _ => SxJ.start) (fun _ _ _ _ _ _ _ _ h _ => h) ?_ ?_
              · refine ⟨?_, ?_, ?_, ?_, ?_, ?_, ?_, ?_, ?_, ?_, ?_, ?_, ?_, ?_, ?_, ?_, ?_, ?_, trivial⟩
                · intro a w1 vs K dn Hd Hb HJ HK HD HN kk
                  have e3 := HK 3 (by decide)
                  exact wpo_loadS 26 (.tmp 3) rfl qb 0 (by simpa [Act.eval] using e3) (campA V c) _ (HLC.out w1 (HWB.out w1 HJ.1)) und_camp rfl (info_campA V c) (kk _ _ (by simp) HJ trivial rfl)
                · intro a w1 vs K dn Hd Hb HJ HK HD HN kk
                  have e2 := HK 2 (by decide)
                  go_simp; exact kk _ _ (by simp) HJ trivial rfl
                · intro a w1 vs K dn Hd Hb HJ HK HD HN kk
                  have e13 := HK 13 (by decide)
                  go_simp; exact kk _ _ (by simp) HJ trivial rfl
                · intro a w1 vs K dn Hd Hb HJ HK HD HN kk
                  have e3 := HK 3 (by decide)
                  go_simp; exact kk _ _ (by simp) HJ trivial rfl
                · intro a w1 vs K dn Hd Hb HJ HK HD HN kk
                  have e67 := (HD 3 _ 67 rfl rfl rfl).1.trans (HD 3 _ 67 rfl rfl rfl).2
                  have ca := (HCB.out w1 (HWB.out w1 HJ.1)).2.1
                  go_simp; exact kk _ _ (by simp) HJ trivial rfl
                · intro a w1 vs K dn Hd Hb HJ HK HD HN kk
                  have e68 := (HD 4 _ 68 rfl rfl rfl).1.trans (HD 4 _ 68 rfl rfl rfl).2
                  go_simp; exact kk _ _ (by simp) HJ trivial rfl
                · intro a w1 vs K dn Hd Hb HJ HK HD HN kk
                  have e66 := (HD 2 _ 66 rfl rfl rfl).1.trans (HD 2 _ 66 rfl rfl rfl).2
                  have e69 := (HD 5 _ 69 rfl rfl rfl).1.trans (HD 5 _ 69 rfl rfl rfl).2
                  have hq1 := HQ1.out
                  have hz1 : (np : Int) ≠ 0 := by omega
                  have hz2 : ((np : Int) == 0) = false := by rw [beq_eq_false_iff_ne]; omega
                  have hz3 : ¬ np = 0 := by omega
                  have hw1 : IntKind.i64.wrap (ci : Int) = (ci : Int) := IntWalk.i64_in _ (by have := HCP.out; omega)
                  go_simp; exact kk _ _ (by simp) HJ trivial rfl
                · intro a w1 vs K dn Hd Hb HJ HK HD HN kk
                  have e13 := HK 13 (by decide)
                  go_simp; exact kk _ _ (by simp) HJ trivial rfl
                · intro a w1 vs K dn Hd Hb HJ HK HD HN kk
                  have e3 := HK 3 (by decide)
                  go_simp; exact kk _ _ (by simp) HJ trivial rfl
                · intro a w1 vs K dn Hd Hb HJ HK HD HN kk
                  have e72 := (HD 8 _ 72 rfl rfl rfl).1.trans (HD 8 _ 72 rfl rfl rfl).2
                  have ca := (HCB.out w1 (HWB.out w1 HJ.1)).2.1
                  go_simp; exact kk _ _ (by simp) HJ trivial rfl
                · intro a w1 vs K dn Hd Hb HJ HK HD HN kk
                  have e73 := (HD 9 _ 73 rfl rfl rfl).1.trans (HD 9 _ 73 rfl rfl rfl).2
                  go_simp; exact kk _ _ (by simp) HJ trivial rfl
                · intro a w1 vs K dn Hd Hb HJ HK HD HN kk
                  have e71 := (HD 7 _ 71 rfl rfl rfl).1.trans (HD 7 _ 71 rfl rfl rfl).2
                  have e74 := (HD 10 _ 74 rfl rfl rfl).1.trans (HD 10 _ 74 rfl rfl rfl).2
                  have hq1 := HQ2.out
                  have hz1 : (np : Int) ≠ 0 := by omega
                  have hz2 : ((np : Int) == 0) = false := by rw [beq_eq_false_iff_ne]; omega
                  have hz3 : ¬ np = 0 := by omega
                  have hw1 : IntKind.i64.wrap (pi : Int) = (pi : Int) := IntWalk.i64_in _ (by have := HCP.out; omega)
                  go_simp; exact kk _ _ (by simp) HJ trivial rfl
                · intro a w1 vs K dn Hd Hb HJ HK HD HN kk
                  have e12 := HK 12 (by decide)
                  go_simp; exact kk _ _ (by simp) HJ trivial rfl
                · intro a w1 vs K dn Hd Hb HJ HK HD HN kk
                  have e76 := (HD 12 _ 76 rfl rfl rfl).1.trans (HD 12 _ 76 rfl rfl rfl).2
                  exact wpo_call 72 _ _ rfl #[.int .i64 (m : Int)] (by simp [Act.eval, e76]) (fun args w => by kernel_rfl)
                    ((HLG.out w1).mono fun e w' h => by
                      obtain ⟨A, n, he, hi, hb⟩ := h
                      obtain ⟨h1, _, h3, h4, h5⟩ := SxJ.later HJ hb
                      exact ⟨_, he, kk _ _ (by simp) ⟨h1, fun _ => ⟨A, n, rfl, hi⟩, h3, h4, h5⟩ trivial trivial⟩)
                · intro a w1 vs K dn Hd Hb HJ HK HD HN kk
                  have e70 := (HD 6 _ 70 rfl rfl rfl).1.trans (HD 6 _ 70 rfl rfl rfl).2
                  have e75 := (HD 11 _ 75 rfl rfl rfl).1.trans (HD 11 _ 75 rfl rfl rfl).2
                  have d13 : dn 13 = true := Hb 13 (by decide)
                  obtain ⟨A, n, hu, hi⟩ := HJ.2.1 d13
                  have e77 := (HD 13 _ 77 rfl rfl rfl).1.trans hu
                  exact wpo_buildL 52 _ rfl [(1, .int .i64 (ci : Int)), (2, .int .i64 (pi : Int)), (3, .slice A X.cargos.length n)] _ (by simp [Act.eval, e70, e75, e77]) (built_launch3 _ _ _ _ _) (kk _ _ (by simp) ⟨HJ.1, HJ.2.1, fun _ => ⟨A, n, by rw [HCI.out]; rfl, hi⟩, HJ.2.2.2.1, HJ.2.2.2.2⟩ trivial trivial)
                · intro a w1 vs K dn Hd Hb HJ HK HD HN kk
                  have e64 := (HD 0 _ 64 rfl rfl rfl).1.trans (HD 0 _ 64 rfl rfl rfl).2
                  have e65 := (HD 1 _ 65 rfl rfl rfl).1.trans (HD 1 _ 65 rfl rfl rfl).2
                  have d14 : dn 14 = true := Hb 14 (by decide)
                  obtain ⟨A, n, hu, hi⟩ := HJ.2.2.1 d14
                  have e78 := (HD 14 _ 78 rfl rfl rfl).1.trans hu
                  exact wpo_call 99 _ _ rfl #[.agg (campA V c), .slice AL nl cL, .agg (launchA x0 A n)] (by simp [Act.eval, e64, e65, e78]) (fun args w => by kernel_rfl)
                    ((HLS.out w1 A n HJ.1 hi).mono fun e w' h => by
                      obtain ⟨he, hb⟩ := h
                      obtain ⟨h1, h2, h3, _, h5⟩ := SxJ.later HJ hb
                      exact ⟨_, he, kk _ _ (by simp) ⟨h1, h2, h3, fun _ => ⟨A, n, rfl, hi.later hb⟩, h5⟩ trivial trivial⟩)
                · intro a w1 vs K dn Hd Hb HJ HK HD HN kk
                  have d16 : dn 16 = false := by cases hq : dn 16 with | false => rfl | true => exact absurd rfl (Hd 16 hq).1
                  have d17 : dn 17 = false := by cases hq : dn 17 with | false => rfl | true => exact absurd (Hd 17 hq).2 (by decide)
                  have hJ0 : SxJ W7 x0 X (dn 13) (dn 14) (dn 15) false (dn 17) (vs 13) (vs 14) (vs 15) (vs 16) w1 := by rw [← d16]; exact HJ
                  go_simp
                  exact kk _ _ (by simp) (hJ0.made d17) trivial trivial
                · intro a w1 vs K dn Hd Hb HJ HK HD HN kk
                  have d15 : dn 15 = true := Hb 15 (by decide)
                  have d16 : dn 16 = true := Hb 16 (by decide)
                  obtain ⟨A, n, hu, hi⟩ := HJ.2.2.2.1 d15
                  have e79 := (HD 15 _ 79 rfl rfl rfl).1.trans hu
                  obtain ⟨g, cs, hg, hlo, hcs, hbk, _⟩ := HJ.2.2.2.2 d16
                  have e14 := (HD 16 _ 14 rfl rfl rfl).1.trans hg
                  exact wpo_storeS 52 (.tmp 14) (.tmp 79) rfl rfl g 0 (by simpa [Act.eval] using e14) (launchA X A n) (by simpa [Act.eval] using e79) 52 cs hbk (by rw [hcs]; show 0 + 4 ≤ 4; omega) (launchA_one _ _ _) (info_launchA _ _ _) (fun w' hk' ho => by
                    rw [splA_all cs (launchA X A n) (by rw [hcs]; rfl)] at hk'
                    have hJ2 := SxJ.store HJ hg hlo hbk ho hk' hi
                    exact kk _ _ (by simp) hJ2 trivial trivial)
              · intro vs dn W8 hdn hJ hrr
                have d16 : dn 16 = true := hdn 16 (by decide)
                have d17 : dn 17 = true := hdn 17 (by decide)
                obtain ⟨g, cs, hv16, hlo, hcs, hbk, hst⟩ := hJ.2.2.2.2 d16
                obtain ⟨A, n, hce, hint⟩ := hst d17
                subst hce
                obtain ⟨FSx, hFS⟩ : ∃ x, foldS c f l T (m - 1) r = x := ⟨_, rfl⟩
                obtain ⟨fv, hfv⟩ : ∃ x, faultB c l X = x := ⟨_, rfl⟩
                have HFV := Lib.hid hfv
                have HSTP : Hid (foldS c f l T (m - 1) (r + 1) = if fv = 0 then searchB c f FSx (l ++ [X]) else FSx) := Lib.hid (by
                  rw [foldS_step, hFS]
                  unfold goS
                  dsimp only
                  rw [show m - 1 + 1 = m from by omega, HX.out, hfv])
                have HS8 : Hid (SrM W0 (qb + 1) FSx W8) := Lib.hid (by rw [← hFS]; exact HSI.out.later hJ.1)
                have HI8 := Lib.hid hint
                have HKX := Lib.hid hbk
                have HLX : Hid (∀ j u, (launchA X A n)[j]? = some u → W8.cell? ⟨g, 0 + j, none⟩ = some u) := Lib.hid fun j u hj => by rw [Nat.zero_add, HKX.out.cell]; exact hj
                have HFT1 := Lib.hid (HFT.out W8 X A n HS8.out.bel HI8.out)
                rw [hfv] at HFT1
                clear hrr hJ hdn d16 d17 hlo hcs hbk hst hint hFS hfv
                simp only [putAll, Act.put, List.setIfInBounds_toArray, List.set_cons_zero, List.set_cons_succ]
                rw [hv16]
                clear hv16
                go_wp2_with (first | (refine wpLoadAt rfl 26 _ rfl qb 0 rfl (campA V c) _ (HLC.out _ HS8.out.bel) und_camp rfl (info_campA V c) ?_) | (refine wpLoadAt rfl 52 _ rfl g 0 rfl (launchA X A n) _ HLX.out und_launch rfl (info_launchA _ _ _) ?_))
                refine HFT1.out.mono ?_
                rintro e W9 ⟨rfl, hb9⟩
                have HS9 : Hid (SrM W0 (qb + 1) FSx W9) := Lib.hid (HS8.out.later hb9)
                have HI9 : Hid (IntsO W9 0 A X.cargos) := Lib.hid (HI8.out.later hb9)
                have HKX9 := Lib.hid (HKX.out.below hb9 HKX.out.lt)
                clear hb9
                by_cases hf0 : fv = 0
                case neg =>
                  have hfb : (fv == 0) = false := by rw [beq_eq_false_iff_ne]; exact hf0
                  have HSE : Hid (SrM W0 (qb + 1) (foldS c f l T (m - 1) (r + 1)) W9) := Lib.hid (by rw [HSTP.out, if_neg hf0]; exact HS9.out)
                  clear hf0
                  go_wp2_with fail
                  go_roundw
                  case rel => first | exact ⟨r + 1, by omega, by go_num, HSE⟩ | ((repeat apply Exists.intro); exact ⟨⟨r + 1, by omega, by go_num, HSE⟩, rfl⟩)
                  case measure => simp [intOf]; omega
                case pos =>
                  subst hf0
                  obtain ⟨T2, hT2⟩ : ∃ x, searchB c f FSx (l ++ [X]) = x := ⟨_, rfl⟩
                  have HT3 := Lib.hid hT2
                  have HSTQ : Hid (foldS c f l T (m - 1) (r + 1) = T2) := Lib.hid (by rw [HSTP.out, if_pos rfl]; exact hT2)
                  obtain ⟨A1, n1, c1, hk1, hat1⟩ := HS9.out.box
                  obtain ⟨sb1, hsb1⟩ : ∃ b, FSx.isSome = b := ⟨_, rfl⟩
                  have HSB1 := Lib.hid hsb1
                  rw [hsb1] at hk1
                  have HK1 := Lib.hid hk1
                  have HAT1 := Lib.hid hat1
                  have HWB9 : Hid (∀ w1, Below W9.heap.size W9 w1 → Below (qb + 1) W0 w1) := Lib.hid fun w1 h1 => (HS9.out.later h1).bel
                  have HL1 : Hid (∀ w1, Below W9.heap.size W9 w1 → ∀ j u, (srA A1 n1 c1 sb1)[j]? = some u → w1.cell? ⟨qb + 1, 0 + j, none⟩ = some u) := Lib.hid fun w1 h1 j u hj => by rw [Nat.zero_add, (HK1.out.below h1 HK1.out.lt).cell]; exact hj
                  have HL2 : Hid (∀ w1, Below W9.heap.size W9 w1 → ∀ j u, (launchA X A n)[j]? = some u → w1.cell? ⟨g, 0 + j, none⟩ = some u) := Lib.hid fun w1 h1 j u hj => by rw [Nat.zero_add, (HKX9.out.below h1 HKX9.out.lt).cell]; exact hj
                  have HCL : Hid (∀ w1 LA lc, Below W9.heap.size W9 w1 → PlanO w1 0 LA (l ++ [X]) → nl + 1 ≤ lc → Calls Tryz.prog 66 #[.agg (campA V c), .agg (srA A1 n1 c1 sb1), .slice LA (nl + 1) lc] w1 (SrPost T2 w1)) := Lib.hid fun w1 LA lc h1 h2 h3 => by
                    rw [← HT3.out, ← HSB1.out]
                    exact HIH.out w1 FSx A1 n1 c1 X LA lc (HWB9.out w1 h1) (HAT1.out.later h1) h2 h3 HFV.out
                  have HRI : Hid (∀ w1, Below W9.heap.size W9 w1 → ∀ y ∈ R ++ [((X, A, n) : RowL)], IntsO w1 0 y.2.1 y.1.cargos) := Lib.hid fun w1 h1 y hy => by
                    rcases List.mem_append.1 hy with hy | hy
                    · exact HR3.out w1 (HWB9.out w1 h1) y hy
                    · rw [List.mem_singleton.1 hy]; exact HI9.out.later h1
                  have HRM : Hid ((R ++ [((X, A, n) : RowL)]).map (·.1) = l ++ [X] ∧ (R ++ [((X, A, n) : RowL)]).length = nl + 1) := Lib.hid ⟨by rw [List.map_append, HR1.out]; rfl, by rw [List.length_append, HRL.out]; rfl⟩
                  clear hT2 hk1 hat1 hsb1
                  go_upto_region 17 with (fail)
                  refine wp_region_stepsJ (by kernel_rfl) (by kernel_rfl) (fun dn vs w1 => AppK W0 (qb + 1) W9 R (X, A, n) T2 (dn 2) (dn 4) (dn 6) (dn 7) (dn 8) (dn 9) (vs 2) (vs 4) (vs 6) (vs 7) (vs 8) w1) (fun _ _ _ => True)
                    (fun ix u _ _ => match ix with
                      | 0 => u = .agg (campA V c)
                      | 1 => u = .agg (srA A1 n1 c1 sb1)
                      | 2 => True
                      | 3 => u = .slice AL nl cL
                      | 4 => True
                      | 5 => u = .agg (launchA X A n)
                      | 6 => True
                      | 7 => True
                      | 8 => True
                      | _ => True) (fun _ => ⟨fun e => absurd e (by decide), fun _ => AppJ.start⟩) (fun _ _ _ _ _ _ _ _ h _ => h) ?_ ?_
                  · refine ⟨?_, ?_, ?_, ?_, ?_, ?_, ?_, ?_, ?_, ?_, trivial⟩
                    · intro a w1 vs K dn Hd Hb HJ HK HD HN kk
                      have e3 := HK 3 (by decide)
                      have d9 : dn 9 = false := by cases hq : dn 9 with | false => rfl | true => exact absurd (Hd 9 hq).2 (by decide)
                      exact wpo_loadS 26 (.tmp 3) rfl qb 0 (by simpa [Act.eval] using e3) (campA V c) _ (HLC.out w1 (HWB9.out w1 (HJ.2 d9).1)) und_camp rfl (info_campA V c) (kk _ _ (by simp) HJ trivial rfl)
                    · intro a w1 vs K dn Hd Hb HJ HK HD HN kk
                      have e4 := HK 4 (by decide)
                      have d9 : dn 9 = false := by cases hq : dn 9 with | false => rfl | true => exact absurd (Hd 9 hq).2 (by decide)
                      exact wpo_loadS 90 (.tmp 4) rfl (qb + 1) 0 (by simpa [Act.eval] using e4) (srA A1 n1 c1 sb1) _ (HL1.out w1 (HJ.2 d9).1) und_search rfl (info_srA _ _ _ _) (kk _ _ (by simp) HJ trivial rfl)
                    · intro a w1 vs K dn Hd Hb HJ HK HD HN kk
                      have d9 : dn 9 = false := by cases hq : dn 9 with | false => rfl | true => exact absurd (Hd 9 hq).2 (by decide)
                      have hA := HJ.2 d9
                      go_simp
                      exact kk _ _ (by simp) (AppK.off d9 hA.made2) trivial trivial
                    · intro a w1 vs K dn Hd Hb HJ HK HD HN kk
                      have e2 := HK 2 (by decide)
                      go_simp; exact kk _ _ (by simp) HJ trivial rfl
                    · intro a w1 vs K dn Hd Hb HJ HK HD HN kk
                      have e88 := (HD 3 _ 88 rfl rfl rfl).1.trans (HD 3 _ 88 rfl rfl rfl).2
                      have d9 : dn 9 = false := by cases hq : dn 9 with | false => rfl | true => exact absurd (Hd 9 hq).2 (by decide)
                      have d4 : dn 4 = false := by cases hq : dn 4 with | false => rfl | true => exact absurd rfl (Hd 4 hq).1
                      have hA := HJ.2 d9
                      have d2 : dn 2 = true := Hb 2 (by decide)
                      obtain ⟨gg, hu, hv⟩ := hA.2.1 d2 d4
                      rw [hu] at hv
                      have e87 := (HD 2 _ 87 rfl rfl rfl).1.trans hu
                      exact wpo_app_new (.tmp 87) (.tmp 88) rfl (by simpa [Act.eval] using e87) hv AL nl cL (by simpa [Act.eval] using e88) HRL.out (HR4.out w1 (HWB9.out w1 hA.1)) (by have := HRL.out; omega) hA.1.size (fun v' w' hv' hb' => kk _ _ (by simp) (AppK.off d9 (hA.app4 hb' hv')) trivial trivial)
                    · intro a w1 vs K dn Hd Hb HJ HK HD HN kk
                      have e14 := HK 14 (by decide)
                      have d9 : dn 9 = false := by cases hq : dn 9 with | false => rfl | true => exact absurd (Hd 9 hq).2 (by decide)
                      exact wpo_loadS 52 (.tmp 14) rfl g 0 (by simpa [Act.eval] using e14) (launchA X A n) _ (HL2.out w1 (HJ.2 d9).1) und_launch rfl (info_launchA _ _ _) (kk _ _ (by simp) HJ trivial rfl)
                    · intro a w1 vs K dn Hd Hb HJ HK HD HN kk
                      have e90 := (HD 5 _ 90 rfl rfl rfl).1.trans (HD 5 _ 90 rfl rfl rfl).2
                      have d9 : dn 9 = false := by cases hq : dn 9 with | false => rfl | true => exact absurd (Hd 9 hq).2 (by decide)
                      have hA := HJ.2 d9
                      go_simp
                      exact kk _ _ (by simp) (AppK.off d9 (hA.made6 _ _ rfl)) trivial trivial
                    · intro a w1 vs K dn Hd Hb HJ HK HD HN kk
                      have d9 : dn 9 = false := by cases hq : dn 9 with | false => rfl | true => exact absurd (Hd 9 hq).2 (by decide)
                      have d8 : dn 8 = false := by cases hq : dn 8 with | false => rfl | true => exact absurd (Hd 8 hq).2 (by decide)
                      have d7 : dn 7 = false := by cases hq : dn 7 with | false => rfl | true => exact absurd rfl (Hd 7 hq).1
                      have hA := HJ.2 d9
                      have d4 : dn 4 = true := Hb 4 (by decide)
                      have d6 : dn 6 = true := Hb 6 (by decide)
                      have hv4 := hA.2.2.1 d4 d7
                      obtain ⟨hh, cc, hu6, hbk6⟩ := hA.2.2.2.1 d6 d7
                      have e91 := (HD 6 _ 91 rfl rfl rfl).1.trans hu6
                      have e89 := (HD 4 _ 89 rfl rfl rfl).1
                      exact wpo_app (.tmp 89) (.tmp 91) rfl (by simpa [Act.eval] using e89) hv4 _ 1 cc (by simpa [Act.eval] using e91) rfl (encR_cells hbk6) (by have := HRL.out; omega) (by simp) hA.1.size (fun v' w' hv' hb' => kk _ _ (by simp) (AppK.off d9 (hA.app7 d4 d8 hb' hv')) trivial trivial)
                    · intro a w1 vs K dn Hd Hb HJ HK HD HN kk
                      have e85 := (HD 0 _ 85 rfl rfl rfl).1.trans (HD 0 _ 85 rfl rfl rfl).2
                      have e86 := (HD 1 _ 86 rfl rfl rfl).1.trans (HD 1 _ 86 rfl rfl rfl).2
                      have d9 : dn 9 = false := by cases hq : dn 9 with | false => rfl | true => exact absurd (Hd 9 hq).2 (by decide)
                      have hA := HJ.2 d9
                      have d7 : dn 7 = true := Hb 7 (by decide)
                      have hv := hA.2.2.2.2.1 d7
                      obtain ⟨_, gg, cc, hu, _⟩ := id hv
                      rw [hu] at hv
                      obtain ⟨hn, hcc, hpo⟩ := hv.planO HRM.out.1 (Nat.zero_le _) (HRI.out w1 hA.1) (by rw [HRM.out.2]; have := HPL6.out; have := HNL.out; omega)
                      rw [HRM.out.2] at hu hcc
                      have e92 := (HD 7 _ 92 rfl rfl rfl).1.trans hu
                      exact wpo_call 66 _ _ rfl #[.agg (campA V c), .agg (srA A1 n1 c1 sb1), .slice (some ⟨gg, 0, none⟩) (nl + 1) cc] (by simp [Act.eval, e85, e86, e92]) (fun args w => by kernel_rfl)
                        ((HCL.out w1 (some ⟨gg, 0, none⟩) cc hA.1 hpo hcc).mono fun e w' h => by
                          obtain ⟨A2, n2, c2, he, hs2, hb⟩ := h
                          exact ⟨_, he, kk _ _ (by simp) (AppK.off d9 (hA.call8 hb hs2)) trivial trivial⟩)
                    · intro a w1 vs K dn Hd Hb HJ HK HD HN kk
                      have e4 := HK 4 (by decide)
                      have d9 : dn 9 = false := by cases hq : dn 9 with | false => rfl | true => exact absurd rfl (Hd 9 hq).1
                      have hA := HJ.2 d9
                      have d8 : dn 8 = true := Hb 8 (by decide)
                      obtain ⟨A2, n2, c2, hu, hs2⟩ := hA.2.2.2.2.2 d8
                      have e93 := (HD 8 _ 93 rfl rfl rfl).1.trans hu
                      have hS1 := HS9.out.later hA.1
                      obtain ⟨A0, n0, c0, hk0, _⟩ := hS1.box
                      exact wpo_storeS 90 (.tmp 4) (.tmp 93) rfl rfl (qb + 1) 0 (by simpa [Act.eval] using e4) (srA A2 n2 c2 T2.isSome) (by simpa [Act.eval] using e93) 90 _ hk0 (by show 0 + 2 ≤ 2; omega) (srA_one _ _ _ _) (info_srA _ _ _ _) (fun w' hk' ho => by
                        rw [splA_all (srA A0 n0 c0 FSx.isSome) (srA A2 n2 c2 T2.isSome) rfl] at hk'
                        exact kk _ _ (by simp) ⟨fun _ => hS1.set ho hk' hs2, fun e => absurd (show true = false from e) (by decide)⟩ trivial trivial)
                  · intro vs dn W10 hdn hJ hrr
                    have HSM : Hid (SrM W0 (qb + 1) (foldS c f l T (m - 1) (r + 1)) W10) := Lib.hid (by rw [HSTQ.out]; exact hJ.1 (hdn 9 (by decide)))
                    clear hrr hJ hdn
                    simp only [putAll, Act.put, List.setIfInBounds_toArray, List.set_cons_zero, List.set_cons_succ]
                    go_wp2_with fail
                    go_roundw
                    case rel => first | exact ⟨r + 1, by omega, by go_num, HSM⟩ | ((repeat apply Exists.intro); exact ⟨⟨r + 1, by omega, by go_num, HSM⟩, rfl⟩)
                    case measure => simp [intOf]; omega
set_option maxRecDepth 100000 in
theorem search_any (V : CV) (c : CampD) (hc : campB c = true) : ∀ (f : Nat) (w : World) (S : Option (List LaunchD)) (SA : Option Addr) (sn sc : Nat) (l : List LaunchD) (AL : Option Addr) (cL : Nat), CampAt w w.heap.size V c → SrAt w S SA sn sc → PlanO w 0 AL l → l.length ≤ cL → PlanOk c l → c.cargos.length < l.length + f →
      Calls Tryz.prog 66 #[.agg (campA V c), .agg (srA SA sn sc S.isSome), .slice AL l.length cL] w (SrPost (searchB c f S l) w)
  | 0, w, S, SA, sn, sc, l, AL, cL, _, _, _, _, hok, hf => by have := planOk_len hc hok; omega
  | f + 1, w, S, SA, sn, sc, l, AL, cL, h, hs, hp, hcap, hok, hf => search_step V c hc f (search_any V c hc f) w S SA sn sc l AL cL h hs hp hcap hok hf
end Go.Proofs.YtcnjenlojnognaaGreat
