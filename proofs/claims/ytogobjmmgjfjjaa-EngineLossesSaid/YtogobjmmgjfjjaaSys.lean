/- What is proved: how a system lies in memory, and how that is kept. Conditions: those that each lemma states. -/
import Derived.Test.YtogobjmmgjfjjaaC2
namespace Go.Proofs.Ytogobjmmgjfjjaa
open Go.RowKit

structure TankS where
  content : Int
  gas : Int
  leak : Int
  lost : Int
  vented : Int
/-- A system. -/
structure Sys where
  p : PlantD
  at_ : Spots
  stuck : Nat → Bool
  tank : Nat → TankS
  carried : Nat → Int
/-- Where it lies: its own block, those of its tanks and of what lines carried, that of the variable that its closures hold; all of its blocks are from lo to hi. -/
structure SX where
  pv : PV
  sb : Nat
  tb : Nat
  cb : Nat
  gb : Nat
  lo : Nat
  hi : Nat

def tankRow (t : TankS) : List Value := [.int .i64 t.content, .int .i64 t.gas, .int .i64 t.leak, .int .i64 t.lost, .int .i64 t.vented]
def tanksA (n : Nat) (t : Nat → TankS) : Array Value := ((List.range n).flatMap fun i => tankRow (t i)).toArray
def carrA (n : Nat) (c : Nat → Int) : Array Value := ((List.range n).map fun i => Value.int .i64 (c i)).toArray
def restA (X : SX) (p : PlantD) : Array Value := #[.slice (some ⟨X.tb, 0, none⟩) p.tanks.length p.tanks.length, .slice (some ⟨X.cb, 0, none⟩) p.lines.length p.lines.length,
  .func (.func 24) #[] #[.pointer (some ⟨X.gb, 0, none⟩)], .func (.func 25) #[.pointer (some ⟨X.sb, 0, none⟩)] #[],
  .func (.func 26) #[] #[.pointer (some ⟨X.gb, 0, none⟩)], .func (.func 27) #[] #[.pointer (some ⟨X.gb, 0, none⟩)], .bool true]
def sysA (X : SX) (S : Sys) : Array Value := plantA X.pv S.p ++ (spotsA S.at_ ++ (stuckA S.stuck ++ restA X S.p))

theorem sysA_size (X : SX) (S : Sys) : (sysA X S).size = 47 := by
  unfold sysA
  rw [Array.size_append, Array.size_append, Array.size_append, spotsA_size, stuckA_size]; rfl
theorem sysA_plant (X : SX) (S : Sys) (j : Nat) (u : Value) (h : (plantA X.pv S.p)[j]? = some u) : (sysA X S)[j]? = some u := by
  unfold sysA
  have hj : j < (plantA X.pv S.p).size := (Array.getElem?_eq_some_iff.1 h).1
  rw [Array.getElem?_append_left hj]; exact h
theorem get_right {a b : Array Value} (k j : Nat) (hk : a.size = k) : (a ++ b)[k + j]? = b[j]? := by
  subst hk
  rw [Array.getElem?_append_right (by omega)]; congr 1; omega
theorem sysA_spots (X : SX) (S : Sys) (j : Nat) (u : Value) (h : (spotsA S.at_)[j]? = some u) : (sysA X S)[4 + j]? = some u := by
  unfold sysA
  have hj : j < (spotsA S.at_).size := (Array.getElem?_eq_some_iff.1 h).1
  rw [get_right 4 j rfl, Array.getElem?_append_left hj]; exact h
theorem sysA_stuck (X : SX) (S : Sys) (j : Nat) (u : Value) (h : (stuckA S.stuck)[j]? = some u) : (sysA X S)[28 + j]? = some u := by
  unfold sysA
  have hj : j < (stuckA S.stuck).size := (Array.getElem?_eq_some_iff.1 h).1
  rw [show 28 + j = 4 + (24 + j) from by omega, get_right 4 _ rfl, get_right 24 _ rfl, Array.getElem?_append_left hj]; exact h
theorem sysA_rest (X : SX) (S : Sys) (j : Nat) : (sysA X S)[40 + j]? = (restA X S.p)[j]? := by
  unfold sysA
  rw [show 40 + j = 4 + (24 + (12 + j)) from by omega, get_right 4 _ rfl, get_right 24 _ rfl, get_right 12 _ rfl]
theorem set_right {a b : Array Value} (k j : Nat) (v : Value) (hk : a.size = k) : (a ++ b).setIfInBounds (k + j) v = a ++ b.setIfInBounds j v := by
  subst hk
  apply Array.ext_getElem?
  intro i
  rw [Array.getElem?_setIfInBounds]
  by_cases h1 : i < a.size
  · rw [if_neg (by omega), Array.getElem?_append_left h1, Array.getElem?_append_left h1]
  · rw [Array.getElem?_append_right (by omega), Array.getElem?_append_right (by omega), Array.getElem?_setIfInBounds]
    by_cases h2 : i = a.size + j
    · subst h2
      rw [if_pos rfl, Array.size_append, Nat.add_sub_cancel_left, if_pos rfl]
      by_cases h3 : j < b.size
      · rw [if_pos (by omega), if_pos h3]
      · rw [if_neg (by omega), if_neg h3]
    · rw [if_neg (by omega), if_neg (by omega)]
theorem set_left {a b : Array Value} (j : Nat) (v : Value) (hj : j < a.size) : (a ++ b).setIfInBounds j v = a.setIfInBounds j v ++ b := by
  apply Array.ext_getElem?
  intro i
  rw [Array.getElem?_setIfInBounds]
  by_cases h1 : i < a.size
  · rw [Array.getElem?_append_left h1, Array.getElem?_append_left (by simpa using h1), Array.getElem?_setIfInBounds]
    by_cases h2 : j = i
    · subst h2; simp [h1]; omega
    · simp [h2]
  · rw [if_neg (by omega), Array.getElem?_append_right (by omega), Array.getElem?_append_right (by simp; omega)]; simp
theorem sysA_setStuck (X : SX) (S : Sys) (i : Nat) (hi : i < 12) (b : Bool) : (sysA X S).setIfInBounds (28 + i) (.bool b) = sysA X { S with stuck := fun k => if k = i then b else S.stuck k } := by
  unfold sysA
  rw [show 28 + i = 4 + (24 + i) from by omega, set_right 4 _ _ rfl, set_right 24 _ _ rfl, set_left _ _ (by rw [stuckA_size]; exact hi), stuck_set _ _ hi]
theorem splA_mid {a b : Array Value} (S T : List Value) (k : Nat) (hk : a.size = k) (hl : S.length = T.length) : splA (a ++ (S.toArray ++ b)) k T = a ++ (T.toArray ++ b) := by
  subst hk
  apply Array.ext_getElem?
  intro i
  rw [splA_get _ _ _ _ (by simp; omega)]
  by_cases h1 : i < a.size
  · rw [if_neg (by omega), Array.getElem?_append_left h1, Array.getElem?_append_left h1]
  · rw [Array.getElem?_append_right (xs := a) (by omega), Array.getElem?_append_right (xs := a) (by omega)]
    by_cases h2 : i < a.size + T.length
    · rw [if_pos (by omega), Array.getElem?_append_left (by simp; omega)]; simp
    · rw [if_neg (by omega), Array.getElem?_append_right (by simp; omega), Array.getElem?_append_right (by simp; omega)]; simp [hl]
theorem sysA_setSpots (X : SX) (S : Sys) (s : Spots) : splA (sysA X S) 4 (spotsA s).toList = sysA X { S with at_ := s } := by
  unfold sysA
  exact splA_mid (a := plantA X.pv S.p) (b := stuckA S.stuck ++ restA X S.p) (spotsA S.at_).toList (spotsA s).toList 4 rfl rfl

theorem tanksA_size (n : Nat) (t : Nat → TankS) : (tanksA n t).size = n * 5 := by
  unfold tanksA
  simp only [List.size_toArray]
  induction n with
  | zero => rfl
  | succ n ih => rw [List.range_succ, List.flatMap_append, List.length_append, ih]; simp [tankRow]; omega
theorem tanksA_get (n : Nat) (t : Nat → TankS) (i j : Nat) (hi : i < n) (hj : j < 5) : (tanksA n t)[i * 5 + j]? = (tankRow (t i))[j]? := by
  unfold tanksA
  rw [List.getElem?_toArray]
  induction n with
  | zero => omega
  | succ n ih =>
    have hl : ((List.range n).flatMap fun i => tankRow (t i)).length = n * 5 := by have := tanksA_size n t; unfold tanksA at this; simpa using this
    rw [List.range_succ, List.flatMap_append]
    by_cases h : i < n
    · rw [List.getElem?_append_left (by rw [hl]; omega)]; exact ih h
    · obtain rfl : i = n := by omega
      rw [List.getElem?_append_right (by rw [hl]; omega), hl]
      simp [Nat.add_sub_cancel_left]
def setTank (t : TankS) (j : Nat) (v : Int) : TankS := match j with
  | 0 => { t with content := v }
  | 1 => { t with gas := v }
  | 2 => { t with leak := v }
  | 3 => { t with lost := v }
  | _ => { t with vented := v }
theorem tankRow_set (t : TankS) (j k : Nat) (hj : j < 5) (v : Int) : (tankRow (setTank t j v))[k]? = if k = j then some (.int .i64 v) else (tankRow t)[k]? := by
  match j, hj with
  | 0, _ => rcases k with _ | k <;> simp [tankRow, setTank]
  | 1, _ => rcases k with _ | _ | k <;> simp [tankRow, setTank]
  | 2, _ => rcases k with _ | _ | _ | k <;> simp [tankRow, setTank]
  | 3, _ => rcases k with _ | _ | _ | _ | k <;> simp [tankRow, setTank]
  | 4, _ => rcases k with _ | _ | _ | _ | _ | k <;> simp [tankRow, setTank]
theorem tanksA_set (n : Nat) (t : Nat → TankS) (i j : Nat) (hi : i < n) (hj : j < 5) (v : Int) : (tanksA n t).setIfInBounds (i * 5 + j) (.int .i64 v) = tanksA n fun k => if k = i then setTank (t i) j v else t k := by
  apply Array.ext_getElem?
  intro m
  by_cases hm : m < n * 5
  · obtain ⟨q, r, hr, rfl⟩ : ∃ q r, r < 5 ∧ m = q * 5 + r := ⟨m / 5, m % 5, Nat.mod_lt _ (by omega), by omega⟩
    have hq : q < n := by omega
    rw [Array.getElem?_setIfInBounds, tanksA_get _ _ _ _ hq hr, tanksA_get _ _ _ _ hq hr, tanksA_size]
    by_cases hqi : q = i
    · subst hqi
      rw [if_pos rfl, tankRow_set _ _ _ hj]
      by_cases hrj : r = j
      · subst hrj; rw [if_pos rfl, if_pos rfl, if_pos hm]
      · rw [if_neg (by omega), if_neg hrj]
    · rw [if_neg (by omega), if_neg hqi]
  · rw [Array.getElem?_eq_none (by simp [tanksA_size]; omega), Array.getElem?_eq_none (by rw [tanksA_size]; omega)]
theorem carrA_size (n : Nat) (c : Nat → Int) : (carrA n c).size = n := by simp [carrA]
theorem carrA_get (n : Nat) (c : Nat → Int) (i : Nat) (hi : i < n) : (carrA n c)[i]? = some (.int .i64 (c i)) := by simp [carrA, hi]
theorem carrA_set (n : Nat) (c : Nat → Int) (i : Nat) (v : Int) : (carrA n c).setIfInBounds i (.int .i64 v) = carrA n fun k => if k = i then v else c k := by
  apply Array.ext_getElem?
  intro m
  rw [Array.getElem?_setIfInBounds]
  by_cases hm : m < n
  · rw [carrA_get _ _ _ hm, carrA_get _ _ _ hm]
    by_cases h : i = m
    · subst h; simp [carrA_size, hm]
    · rw [if_neg h, if_neg (by omega)]
  · have e1 : (carrA n fun k => if k = i then v else c k)[m]? = none := Array.getElem?_eq_none (by rw [carrA_size]; omega)
    have e2 : (carrA n c)[m]? = none := Array.getElem?_eq_none (by rw [carrA_size]; omega)
    rw [e1, e2, carrA_size]
    split
    · rw [if_neg (by omega)]
    · rfl
/-! A plant whose blocks are all in D. -/
def SlD (w : World) (D : Nat → Prop) (k : Nat) (A : Option Addr) (n : Nat) (f : Nat → Nat → Value) : Prop :=
  n ≤ 9223372036854775807 ∧ (0 < n → ∃ b off, A = some ⟨b, off, none⟩ ∧ D b ∧ ∀ i, i < n → ∀ j, j < k → w.cell? ⟨b, off + i * k + j, none⟩ = some (f i j))
theorem SlD.sl {w : World} {D : Nat → Prop} {k n B : Nat} {A : Option Addr} {f : Nat → Nat → Value} (h : SlD w D k A n f) (hD : ∀ b, D b → b < B) : Sl w B k A n f :=
  ⟨h.1, fun hn => by obtain ⟨b, off, e, hb, hc⟩ := h.2 hn; exact ⟨b, off, e, hD b hb, hc⟩⟩
theorem SlD.keep {w w' : World} {D : Nat → Prop} {k n : Nat} {A : Option Addr} {f : Nat → Nat → Value} (h : SlD w D k A n f) (hk : ∀ b, D b → w'.heap[b]? = w.heap[b]?) : SlD w' D k A n f :=
  ⟨h.1, fun hn => by obtain ⟨b, off, e, hb, hc⟩ := h.2 hn; exact ⟨b, off, e, hb, fun i hi j hj => (World.cell?_of_block (hk b hb)).trans (hc i hi j hj)⟩⟩
theorem SlD.mono {w : World} {D D' : Nat → Prop} {k n : Nat} {A : Option Addr} {f : Nat → Nat → Value} (h : SlD w D k A n f) (hD : ∀ b, D b → D' b) : SlD w D' k A n f :=
  ⟨h.1, fun hn => by obtain ⟨b, off, e, hb, hc⟩ := h.2 hn; exact ⟨b, off, e, hD b hb, hc⟩⟩
theorem Sl.slD {w : World} {B k n : Nat} {A : Option Addr} {f : Nat → Nat → Value} (h : Sl w B k A n f) : SlD w (· < B) k A n f := h

structure PlantIn (w : World) (D : Nat → Prop) (x : PV) (p : PlantD) : Prop where
  tanks : SlD w D 4 x.tA p.tanks.length fun i => tankC (p.tank i)
  valves : SlD w D 3 x.vA p.valves.length fun i => valveC (p.valve i)
  lines : SlD w D 5 x.lA p.lines.length fun i => lineC (x.iA i) (x.ic i) (p.line i)
  lv : ∀ i, i < p.lines.length → SlD w D 1 (x.iA i) (p.line i).valves.length fun k _ => .int .i64 ((p.line i).valves.getD k 0)
  never : SlD w D 1 x.nA p.never.length fun i _ => .slice (x.jA i) (p.nev i).length (x.jc i)
  nv : ∀ i, i < p.never.length → SlD w D 2 (x.jA i) (p.nev i).length fun k => litC ((p.nev i).getD k lit0)
  room : p.tanks.length * 16 ≤ 140737488355328 ∧ p.valves.length * 16 ≤ 140737488355328
theorem PlantIn.at_ {w : World} {D : Nat → Prop} {B : Nat} {x : PV} {p : PlantD} (h : PlantIn w D x p) (hD : ∀ b, D b → b < B) : PlantAt w B x p :=
  ⟨h.tanks.sl hD, h.valves.sl hD, h.lines.sl hD, fun i hi => (h.lv i hi).sl hD, h.never.sl hD, fun i hi => (h.nv i hi).sl hD, h.room⟩
theorem PlantIn.keep {w w' : World} {D : Nat → Prop} {x : PV} {p : PlantD} (h : PlantIn w D x p) (hk : ∀ b, D b → w'.heap[b]? = w.heap[b]?) : PlantIn w' D x p :=
  ⟨h.tanks.keep hk, h.valves.keep hk, h.lines.keep hk, fun i hi => (h.lv i hi).keep hk, h.never.keep hk, fun i hi => (h.nv i hi).keep hk, h.room⟩
theorem PlantIn.mono {w : World} {D D' : Nat → Prop} {x : PV} {p : PlantD} (h : PlantIn w D x p) (hD : ∀ b, D b → D' b) : PlantIn w D' x p :=
  ⟨h.tanks.mono hD, h.valves.mono hD, h.lines.mono hD, fun i hi => (h.lv i hi).mono hD, h.never.mono hD, fun i hi => (h.nv i hi).mono hD, h.room⟩

/-- What a call on a system may turn: the system's three blocks, and what is new. -/
structure Chg (X : SX) (w w' : World) : Prop where
  os : w'.os = w.os
  tape : w'.tape = w.tape
  output : w'.output = w.output
  size : w.heap.size ≤ w'.heap.size
  block : ∀ b, b < w.heap.size → b ≠ X.sb → b ≠ X.tb → b ≠ X.cb → w'.heap[b]? = w.heap[b]?
theorem Chg.refl (X : SX) (w : World) : Chg X w w := ⟨rfl, rfl, rfl, Nat.le_refl _, fun _ _ _ _ _ => rfl⟩
theorem Chg.trans {X : SX} {a b c : World} (h : Chg X a b) (k : Chg X b c) : Chg X a c :=
  ⟨k.os.trans h.os, k.tape.trans h.tape, k.output.trans h.output, Nat.le_trans h.size k.size, fun i h1 h2 h3 h4 => (k.block i (Nat.lt_of_lt_of_le h1 h.size) h2 h3 h4).trans (h.block i h1 h2 h3 h4)⟩
theorem Chg.of_below {X : SX} {w w' : World} (h : Below w.heap.size w w') : Chg X w w' := ⟨h.os, h.tape, h.output, h.size, fun b hb _ _ _ => h.block b hb⟩
theorem Chg.of_only {X : SX} {w w' : World} {g : Nat} (h : Only g w w') (hg : g = X.sb ∨ g = X.tb ∨ g = X.cb) : Chg X w w' :=
  ⟨h.os, h.tape, h.output, by rw [h.size]; exact Nat.le_refl _, fun b _ h1 h2 h3 => h.block b (by rintro rfl; rcases hg with h | h | h <;> contradiction)⟩
theorem Chg.below {X : SX} {w w' : World} {B : Nat} (h : Chg X w w') (hB : B ≤ w.heap.size) (h1 : B ≤ X.sb) (h2 : B ≤ X.tb) (h3 : B ≤ X.cb) : Below B w w' :=
  ⟨h.os, h.tape, h.output, h.size, fun k hk => h.block k (by omega) (by omega) (by omega) (by omega)⟩

def SX.D (X : SX) (b : Nat) : Prop := X.lo ≤ b ∧ b < X.hi ∧ b ≠ X.sb ∧ b ≠ X.tb ∧ b ≠ X.cb

/-- What always holds of a system's numbers. -/
structure SysOk (S : Sys) : Prop where
  valid : plantB S.p = true
  spots : SpotsOk S.p S.at_
  safe : safeB S.p S.at_ = true
  tanks : ∀ i, i < S.p.tanks.length → 0 ≤ (S.tank i).content ∧ (S.tank i).content ≤ (S.p.tank i).room ∧ 0 ≤ (S.tank i).gas ∧ (S.tank i).gas ≤ 1073741824 ∧ 0 ≤ (S.tank i).leak ∧ (S.tank i).leak ≤ 1073741824

/-- The system S lies at X. -/
structure SysAt (w : World) (X : SX) (S : Sys) : Prop where
  s : Bk w X.sb 81 (sysA X S)
  t : Bk w X.tb 83 (tanksA S.p.tanks.length S.tank)
  c : Bk w X.cb 3 (carrA S.p.lines.length S.carried)
  g : Bk w X.gb 37 #[.pointer (some ⟨X.sb, 0, none⟩)]
  plant : PlantIn w X.D X.pv S.p
  lo : X.lo ≤ X.sb ∧ X.lo ≤ X.tb ∧ X.lo ≤ X.cb ∧ X.lo ≤ X.gb
  hi : X.sb < X.hi ∧ X.tb < X.hi ∧ X.cb < X.hi ∧ X.gb < X.hi ∧ X.hi ≤ w.heap.size
  ok : SysOk S
theorem SysAt.ne {w : World} {X : SX} {S : Sys} (h : SysAt w X S) : X.sb ≠ X.tb ∧ X.sb ≠ X.cb ∧ X.tb ≠ X.cb ∧ X.gb ≠ X.sb ∧ X.gb ≠ X.tb ∧ X.gb ≠ X.cb := by
  have ne : ∀ {g g' t t' : Nat} {c c' : Array Value}, Bk w g t c → Bk w g' t' c' → t ≠ t' → g ≠ g' := by
    intro g g' t t' c c' h1 h2 hne e
    subst e
    unfold Bk at h1 h2
    rw [h1] at h2
    injection h2 with h2
    injection h2 with _ h3 _
    exact hne h3
  exact ⟨ne h.s h.t (by decide), ne h.s h.c (by decide), ne h.t h.c (by decide), ne h.g h.s (by decide), ne h.g h.t (by decide), ne h.g h.c (by decide)⟩
/-- A call that leaves all of the system's blocks as they were keeps the system. -/
theorem SysAt.keep {w w' : World} {X : SX} {S : Sys} (h : SysAt w X S) (hk : ∀ b, X.lo ≤ b → b < X.hi → w'.heap[b]? = w.heap[b]?) (hs : w.heap.size ≤ w'.heap.size) : SysAt w' X S := by
  obtain ⟨l1, l2, l3, l4⟩ := h.lo
  obtain ⟨h1, h2, h3, h4, h5⟩ := h.hi
  exact ⟨(hk _ l1 h1).trans h.s, (hk _ l2 h2).trans h.t, (hk _ l3 h3).trans h.c, (hk _ l4 h4).trans h.g, h.plant.keep (fun b hb => hk b hb.1 hb.2.1), h.lo, ⟨h1, h2, h3, h4, by omega⟩, h.ok⟩
theorem SysAt.below {w w' : World} {X : SX} {S : Sys} (h : SysAt w X S) (hb : Below w.heap.size w w') : SysAt w' X S :=
  h.keep (fun b _ hh => hb.block b (by have := h.hi.2.2.2.2; omega)) hb.size
theorem SysAt.plantAt {w : World} {X : SX} {S : Sys} (h : SysAt w X S) : PlantAt w w.heap.size X.pv S.p :=
  h.plant.at_ fun b hb => by have := h.hi.2.2.2.2; have := hb.2.1; omega
/-- The same plant, other numbers. -/
theorem SysAt.turn {w w' : World} {X : SX} {S S' : Sys} (h : SysAt w X S) (hc : Chg X w w') (hp : S'.p = S.p) (hs : Bk w' X.sb 81 (sysA X S'))
    (ht : Bk w' X.tb 83 (tanksA S'.p.tanks.length S'.tank)) (hcb : Bk w' X.cb 3 (carrA S'.p.lines.length S'.carried)) (ok : SysOk S') : SysAt w' X S' := by
  obtain ⟨h1, h2, h3, h4, h5⟩ := h.hi
  obtain ⟨_, _, _, n4, n5, n6⟩ := h.ne
  refine ⟨hs, ht, hcb, (hc.block _ (by omega) n4 n5 n6).trans h.g, ?_, h.lo, ⟨h1, h2, h3, h4, by have := hc.size; omega⟩, ok⟩
  rw [hp]
  exact h.plant.keep fun b hb => hc.block b (by have := hb.2.1; omega) hb.2.2.1 hb.2.2.2.1 hb.2.2.2.2
end Go.Proofs.Ytogobjmmgjfjjaa
