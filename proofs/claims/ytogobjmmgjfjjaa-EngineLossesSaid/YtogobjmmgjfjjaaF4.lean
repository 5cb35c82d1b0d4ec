/- What is proved: what engine.New builds, as plain cells, and what holds while it does. Conditions: those that each lemma states. -/
import Derived.Test.YtogobjmmgjfjjaaF3
namespace Go.Proofs.Ytogobjmmgjfjjaa
open Go.RowKit

def rest0 (tb cb nt nl : Nat) : Array Value := #[.slice (some ⟨tb, 0, none⟩) nt nt, .slice (some ⟨cb, 0, none⟩) nl nl, .nilFunc, .nilFunc, .nilFunc, .nilFunc, .bool true]
def sys0 (x : PV) (p : PlantD) (tb cb nt nl : Nat) : Array Value := plantA x p ++ (spotsA (firstB p) ++ (stuckA (fun _ => false) ++ rest0 tb cb nt nl))
set_option maxRecDepth 100000 in
theorem built_sys (x : PV) (p : PlantD) (tb cb nt nl : Nat) :
    Try.prog.built 81 [(0, .agg (plantA x p)), (1, .agg (spotsA (firstB p))), (3, .slice (some ⟨tb, 0, none⟩) nt nt), (4, .slice (some ⟨cb, 0, none⟩) nl nl), (6, .bool true)] =
      some (sys0 x p tb cb nt nl) := by
  kernel_rfl
theorem sys0_congr {x x2 : PV} {p : PlantD} {tb cb nt nl : Nat} (h : plantA x p = plantA x2 p) : sys0 x p tb cb nt nl = sys0 x2 p tb cb nt nl := by
  unfold sys0
  generalize plantA x p = a at *
  subst h
  rfl
theorem sys0_get (x : PV) (p : PlantD) (tb cb nt nl j : Nat) : (sys0 x p tb cb nt nl)[40 + j]? = (rest0 tb cb nt nl)[j]? := by
  unfold sys0
  rw [show 40 + j = 4 + (24 + (12 + j)) from by omega, get_right 4 _ rfl, get_right 24 _ rfl, get_right 12 _ rfl]
def zeroT : TankS := ⟨0, 0, 0, 0, 0⟩
theorem made_tanks (n : Nat) : madeCells #[.int .i64 0, .int .i64 0, .int .i64 0, .int .i64 0, .int .i64 0] (n * 5) = tanksA n fun _ => zeroT := by
  apply Array.ext_getElem?
  intro m
  by_cases hm : m < n * 5
  · obtain ⟨q, r, hr, rfl⟩ : ∃ q r, r < 5 ∧ m = q * 5 + r := ⟨m / 5, m % 5, Nat.mod_lt _ (by omega), by omega⟩
    rw [tanksA_get _ _ _ _ (by omega) hr]
    unfold madeCells
    have e : (q * 5 + r) % 5 = r := by omega
    simp only [Array.getElem?_map]
    rw [Array.getElem?_eq_getElem (by simpa using hm)]
    simp only [Array.getElem_range, Option.map_some]
    match r, hr with
    | 0, _ => simp [tankRow, zeroT]
    | 1, _ => simp [tankRow, zeroT, e]
    | 2, _ => simp [tankRow, zeroT, e]
    | 3, _ => simp [tankRow, zeroT, e]
    | 4, _ => simp [tankRow, zeroT, e]
  · rw [Array.getElem?_eq_none (by rw [size_madeCells]; omega), Array.getElem?_eq_none (by rw [tanksA_size]; omega)]
theorem made_carr (n : Nat) : madeCells #[.int .i64 0] (n * 1) = carrA n fun _ => 0 := by
  apply Array.ext_getElem?
  intro m
  by_cases hm : m < n
  · rw [carrA_get _ _ _ hm]
    unfold madeCells
    simp only [Array.getElem?_map]
    rw [Array.getElem?_eq_getElem (by simpa using hm)]
    simp [Nat.mod_one]
  · rw [Array.getElem?_eq_none (by rw [size_madeCells]; omega), Array.getElem?_eq_none (by rw [carrA_size]; omega)]
theorem wpo_make {P : Program} {o : Oper} {a : Act} {w : World} {K : Act → World → Prop} {Q : Exit → Act → World → Prop} (t e : TypeId) (x y : Operand) (ho : o.op = .makeSlice t x y) (n : Nat) (hx : a.eval x = .int .i64 n) (hy : a.eval y = .int .i64 n)
    (i : TypeInfo) (z : Value) (k : Nat) (ht : P.underlying t = some (.slice e)) (hi : P.info? e = some i) (hz : i.zero = some z) (hk : i.size = k) (hn : n ≤ 4096) (hk2 : k ≤ 64) (hb : i.bytes ≤ 1024)
    (h : K (a.put o.dst (.slice (some ⟨w.heap.size, 0, none⟩) n n)) (w.alloc (.cells (madeCells z.cells (n * k)) e))) : o.wp P a w K Q := by
  subst hk
  have h1 : n * i.size ≤ 4096 * 64 := Nat.mul_le_mul hn hk2
  have h2 : i.bytes * n ≤ 1024 * 4096 := Nat.mul_le_mul hb hn
  have hm := run_makeSlice (P := P) w t e i z ht hi hz .i64 .i64 (n : Int) (n : Int) (by omega) (by omega) (by simp only [Int.toNat_natCast]; omega) (by rw [← Int.natCast_mul]; omega) (by omega)
  simp only [Int.toNat_natCast] at hm
  unfold Oper.wp execOp
  simp only [ho, hx, hy, hm, Sem.run_bind, Sem.run_pure, Result.andThen_ok]
  exact h

/-- The block that a value leads to. -/
def blk : Value → Nat
  | .slice (some a) _ _ => a.block
  | .pointer (some a) => a.block
  | _ => 0
def ownJ (j : Nat) : Bool := j == 7 || j == 11 || j == 13 || j == 14
/-- What holds while a system is built: the copy's blocks are none of the other new ones. -/
structure NewJ (W : World) (p : PlantD) (dn : Nat → Bool) (vs : Nat → Value) (w1 : World) : Prop where
  below : Below W.heap.size W w1
  own : ∀ j, ownJ j = true → dn j = true → W.heap.size ≤ blk (vs j) ∧ blk (vs j) < w1.heap.size
  plant : dn 1 = true → ∃ x' lo hi, vs 1 = .agg (plantA x' p) ∧ W.heap.size ≤ lo ∧ hi ≤ w1.heap.size ∧ PlantIn w1 (fun b => lo ≤ b ∧ b < hi) x' p ∧ ∀ j, ownJ j = true → dn j = true → ¬ (lo ≤ blk (vs j) ∧ blk (vs j) < hi)
theorem NewJ.step {W w1 w2 : World} {p : PlantD} {dn : Nat → Bool} {vs : Nat → Value} (h : NewJ W p dn vs w1) (i : Nat) (v : Value) (hi : i ≠ 1) (hb : Below w1.heap.size w1 w2) (hv : ownJ i = true → w1.heap.size ≤ blk v ∧ blk v < w2.heap.size) :
    NewJ W p (updB dn i) (updV vs i v) w2 := by
  have hs := h.below.size
  have hs2 := hb.size
  refine ⟨h.below.trans (hb.mono hs), fun j hj hd => ?_, fun hd => ?_⟩
  · unfold updV; unfold updB at hd
    by_cases e : j = i
    · subst e; rw [if_pos rfl]; have := hv hj; omega
    · rw [if_neg e] at hd ⊢; have := h.own j hj hd; omega
  · unfold updB at hd
    rw [if_neg (Ne.symm hi)] at hd
    obtain ⟨x', lo, hi', e1, e2, e3, e4, e5⟩ := h.plant hd
    refine ⟨x', lo, hi', by unfold updV; rw [if_neg (Ne.symm hi)]; exact e1, e2, by omega, e4.keep fun b hb' => hb.block b (by omega), fun j hj hd' => ?_⟩
    unfold updV; unfold updB at hd'
    by_cases e : j = i
    · subst e; rw [if_pos rfl]; have := hv hj; omega
    · rw [if_neg e] at hd' ⊢; exact e5 j hj hd'
theorem NewJ.copied {W w1 w2 : World} {p : PlantD} {dn : Nat → Bool} {vs : Nat → Value} (h : NewJ W p dn vs w1) (x' : PV) (hb : Below w1.heap.size w1 w2) (hp : PlantIn w2 (fun b => w1.heap.size ≤ b ∧ b < w2.heap.size) x' p) :
    NewJ W p (updB dn 1) (updV vs 1 (.agg (plantA x' p))) w2 := by
  have hs := h.below.size
  have hs2 := hb.size
  have hne : ∀ j, ownJ j = true → j ≠ 1 := by rintro j hj rfl; cases hj
  refine ⟨h.below.trans (hb.mono hs), fun j hj hd => ?_, fun _ => ⟨x', _, _, rfl, hs, Nat.le_refl _, hp, fun j hj hd => ?_⟩⟩
  · unfold updV; unfold updB at hd
    rw [if_neg (hne j hj)] at hd ⊢; have := h.own j hj hd; omega
  · unfold updV; unfold updB at hd
    rw [if_neg (hne j hj)] at hd ⊢; have := h.own j hj hd; omega
theorem NewJ.only {W w1 w2 : World} {p : PlantD} {dn : Nat → Bool} {vs : Nat → Value} (h : NewJ W p dn vs w1) (h14 : dn 14 = true) (ho : Only (blk (vs 14)) w1 w2) :
    NewJ W p (updB dn 15) (updV vs 15 undef) w2 := by
  have h0 := h.own 14 rfl h14
  have hne : ∀ j, ownJ j = true → j ≠ 15 := by rintro j hj rfl; cases hj
  refine ⟨h.below.trans (ho.below h0.1), fun j hj hd => ?_, fun hd => ?_⟩
  · unfold updV; unfold updB at hd
    rw [if_neg (hne j hj)] at hd ⊢; rw [ho.size]; exact h.own j hj hd
  · obtain ⟨x', lo, hi', e1, e2, e3, e4, e5⟩ := h.plant hd
    refine ⟨x', lo, hi', e1, e2, by rw [ho.size]; exact e3, e4.keep fun b hb' => ho.block b (fun e => e5 14 rfl h14 (by rw [← e]; exact hb')), fun j hj hd' => ?_⟩
    unfold updV; unfold updB at hd'
    rw [if_neg (hne j hj)] at hd' ⊢; exact e5 j hj hd'
/-- What each operation does to the world. -/
def NewE (j : Nat) (w1 w2 : World) : Prop :=
  (j ≠ 15 → Below w1.heap.size w1 w2) ∧ (Below w1.heap.size w1 w2 ∨ ∃ gb cs', Only gb w1 w2 ∧ (∃ cs, Bk w1 gb 37 cs) ∧ Bk w2 gb 37 cs' ∧ cs'.size = 1)
theorem NewE.of {j : Nat} {w1 w2 : World} (h : Below w1.heap.size w1 w2) : NewE j w1 w2 := ⟨fun _ => h, .inl h⟩
theorem NewE.bk {j : Nat} {w1 w2 : World} {g : Nat} {T : TypeId} {cs : Array Value} (h : NewE j w1 w2) (hb : Bk w1 g T cs) (hT : T ≠ 37) : Bk w2 g T cs := by
  rcases h.2 with h | ⟨gb, cs', ho, ⟨cs2, h2⟩, _, _⟩
  · exact hb.below h hb.lt
  · exact hb.only ho (hb.ne h2 hT)
theorem NewE.gb {j : Nat} {w1 w2 : World} {g : Nat} {cs : Array Value} (h : NewE j w1 w2) (hb : Bk w1 g 37 cs) (hs : cs.size = 1) : ∃ cs', cs'.size = 1 ∧ Bk w2 g 37 cs' := by
  rcases h.2 with h | ⟨gb, cs', ho, _, h3, h4⟩
  · exact ⟨cs, hs, hb.below h hb.lt⟩
  · by_cases e : g = gb
    · subst e; exact ⟨cs', h4, h3⟩
    · exact ⟨cs, hs, hb.only ho e⟩
def startB (p : PlantD) : Sys := ⟨p, firstB p, fun _ => false, fun _ => zeroT, fun _ => 0⟩
theorem sys0_set (x : PV) (p : PlantD) (X : SX) (f0 f1 f2 f3 : Value) (hx : X.pv = x)
    (h : ((((rest0 X.tb X.cb p.tanks.length p.lines.length).setIfInBounds 2 f0).setIfInBounds 3 f1).setIfInBounds 4 f2).setIfInBounds 5 f3 = restA X p) :
    ((((sys0 x p X.tb X.cb p.tanks.length p.lines.length).setIfInBounds 42 f0).setIfInBounds 43 f1).setIfInBounds 44 f2).setIfInBounds 45 f3 = sysA X (startB p) := by
  have key : ∀ (r : Array Value) (j : Nat) (v : Value), (plantA x p ++ (spotsA (firstB p) ++ (stuckA (fun _ => false) ++ r))).setIfInBounds (40 + j) v = plantA x p ++ (spotsA (firstB p) ++ (stuckA (fun _ => false) ++ r.setIfInBounds j v)) := fun r j v => by
    rw [show 40 + j = 4 + (24 + (12 + j)) from by omega, set_right 4 _ _ rfl, set_right 24 _ _ rfl, set_right 12 _ _ rfl]
  unfold sys0
  rw [key _ 2, key _ 3, key _ 4, key _ 5, h]
  unfold sysA
  rw [hx]
  rfl
theorem startB_ok {p : PlantD} (h : plantB p = true) : SysOk (startB p) := by
  have h2 := h
  unfold plantB at h2
  simp only [Bool.and_eq_true] at h2
  refine ⟨h, firstB_spots (valvesOk_of _ h2.1.1.1.1.2), h2.2, fun i hi => ?_⟩
  have := tankOk_of h i hi
  simp only [startB, zeroT]
  omega
theorem infoC_tank : (Try.prog.info? 83).map (fun i => (i.zero, i.size, i.bytes)) = some (some (.agg #[.int .i64 0, .int .i64 0, .int .i64 0, .int .i64 0, .int .i64 0]), 5, 40) := by kernel_rfl
end Go.Proofs.Ytogobjmmgjfjjaa
