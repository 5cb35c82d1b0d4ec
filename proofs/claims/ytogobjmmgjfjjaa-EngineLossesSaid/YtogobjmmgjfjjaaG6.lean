/- What is proved: a contract of engine.search.reach. Conditions: the search lies in memory; the row's state is one of the plant's. -/
import Derived.Test.YtogobjmmgjfjjaaG5
import Derived.Test.YtogobjmmgjfjjaaReg3
namespace Go.Proofs.Ytogobjmmgjfjjaa
open Go.RowKit

structure SrX where
  pv : PV
  gA : Option Addr
  gc : Nat
  sb : Nat
  mb : Nat
def searchA (X : SrX) (p : PlantD) (n : Nat) (next : Nat) (full : Bool) (qv fv : Value) : Array Value :=
  #[.slice X.pv.tA p.tanks.length X.pv.tc, .slice X.pv.vA p.valves.length X.pv.vc, .slice X.pv.lA p.lines.length X.pv.lc, .slice X.pv.nA p.never.length X.pv.nc,
    .slice X.gA n X.gc, .map (some X.mb), qv, .int .i64 next, fv, .bool full]
theorem searchA_plant (X : SrX) (p : PlantD) (n next : Nat) (full : Bool) (qv fv : Value) (j : Nat) (u : Value) (h : (plantA X.pv p)[j]? = some u) : (searchA X p n next full qv fv)[j]? = some u := by
  match j, h with
  | 0, h => exact h
  | 1, h => exact h
  | 2, h => exact h
  | 3, h => exact h
  | j + 4, h => simp [plantA] at h

/-- A search lies in memory: all of its own from block B on, the plant and the goal below it. -/
structure SrAt (w : World) (B : Nat) (X : SrX) (p : PlantD) (g : List LitD) (st : Srch) (qv fv : Value) (rb : List Nat) : Prop where
  plant : PlantAt w B X.pv p
  goal : LitsAt w B X.gA g
  s : Bk w X.sb 92 (searchA X p g.length st.next st.full qv fv)
  seen : SetP w X.mb st.seen
  sB : B ≤ X.sb
  mB : B ≤ X.mb
  own : w.ownsRow B 90 1 qv st.rows.length (rb.map ptr)
  rows : ∀ i, i < st.rows.length → ∃ r b, st.rows[i]? = some r ∧ rb[i]? = some b ∧ RowIn w r b ∧ SpotsOk p r.at_
  found : (st.found = none ∧ fv = .pointer none) ∨ ∃ r b, st.found = some r ∧ fv = ptr b ∧ RowIn w r b
  next : st.next ≤ st.rows.length
  few : st.rows.length ≤ st.seen.length ∧ st.seen.length ≤ 20000
def SrIn (w : World) (B : Nat) (X : SrX) (p : PlantD) (g : List LitD) (st : Srch) : Prop := ∃ qv fv rb, SrAt w B X p g st qv fv rb

section
variable {w w' : World} {B : Nat} {X : SrX} {p : PlantD} {g : List LitD} {st : Srch} {qv fv : Value} {rb : List Nat}
theorem SrAt.lt (h : SrAt w B X p g st qv fv rb) : B ≤ w.heap.size := by have := h.s.lt; have := h.sB; omega
theorem SrAt.len (h : SrAt w B X p g st qv fv rb) : rb.length = st.rows.length := by have := h.own.1; simpa using this
theorem SetP.ne_own {l : List Spots} {n : Nat} {T : TypeId} {xs : List Value} {mb : Nat} (h : SetP w mb l) (ho : w.ownsRow B T 1 qv n xs) : some mb ≠ qv.ownBlock := by
  rcases ho.2 with ⟨rfl, _⟩ | ⟨g, cap, cur, rfl, _, hg, _⟩
  · simp [Value.ownBlock]
  · simp only [Value.ownBlock, ne_eq, Option.some.injEq]
    rintro rfl
    obtain ⟨_, arr, c, h1, _⟩ := h
    have e := h1.symm.trans hg
    simp at e
theorem SetP.ne_bk {l : List Spots} {mb sb : Nat} {t : TypeId} {cs : Array Value} (h : SetP w mb l) (hb : Bk w sb t cs) : mb ≠ sb := by
  rintro rfl
  obtain ⟨_, arr, c, h1, _⟩ := h
  have e := h1.symm.trans hb
  simp at e
/-- Where the search's own parts are as they were. -/
theorem SrAt.fr (h : SrAt w B X p g st qv fv rb) (hf : Fr B w w') (hs : Bk w' X.sb 92 (searchA X p g.length st.next st.full qv fv)) (hm : SetP w' X.mb st.seen) (ho : w'.ownsRow B 90 1 qv st.rows.length (rb.map ptr)) :
    SrAt w' B X p g st qv fv rb :=
  ⟨h.plant.below hf.below, Sl.below h.goal hf.below, hs, hm, h.sB, h.mB, ho, fun i hi => by obtain ⟨r, b, h1, h2, h3, h4⟩ := h.rows i hi; exact ⟨r, b, h1, h2, h3.fr hf, h4⟩,
    h.found.imp id fun ⟨r, b, h1, h2, h3⟩ => ⟨r, b, h1, h2, h3.fr hf⟩, h.next, h.few⟩
theorem SrAt.below (h : SrAt w B X p g st qv fv rb) (hb : Below w.heap.size w w') : SrAt w' B X p g st qv fv rb :=
  h.fr (Fr.of_below hb h.lt) (h.s.below hb h.s.lt) (h.seen.keep (hb.block _ h.seen.lt)) (h.own.kept (row := none) ⟨hb.os, hb.tape, hb.output, hb.size, fun k hk _ => hb.block k hk⟩ (by cases hq : qv.ownBlock <;> simp))
theorem own_kept_only {n sb : Nat} {T t : TypeId} {xs : List Value} {cs : Array Value} (ho : w.ownsRow B T 1 qv n xs) (hb : Bk w sb t cs) (ht : t ≠ T) (hO : Only sb w w') : w'.ownsRow B T 1 qv n xs :=
  ho.kept (row := some sb) ⟨hO.os, hO.tape, hO.output, by rw [hO.size]; exact Nat.le_refl _, fun k _ hk => hO.block k (fun e => hk (by rw [e]))⟩ (.inr (Ne.symm (own_ne ho hb ht)))
theorem SrAt.frOnly (h : SrAt w B X p g st qv fv rb) (hO : Only X.sb w w') : Fr B w w' := Fr.of_only hO h.sB h.s (.inl rfl)
/-- The search's own block was written. -/
theorem SrAt.store (h : SrAt w B X p g st qv fv rb) (hO : Only X.sb w w') (nx : Nat) (fl : Bool) (fd : Option RowC) (fv' : Value) (hs : Bk w' X.sb 92 (searchA X p g.length nx fl qv fv'))
    (hn : nx ≤ st.rows.length) (hfd : (fd = none ∧ fv' = .pointer none) ∨ ∃ r b, fd = some r ∧ fv' = ptr b ∧ RowIn w r b) : SrAt w' B X p g { st with next := nx, full := fl, found := fd } qv fv' rb :=
  have hf := h.frOnly hO
  ⟨h.plant.below hf.below, Sl.below h.goal hf.below, hs, h.seen.keep (hO.block _ (h.seen.ne_bk h.s)), h.sB, h.mB, own_kept_only h.own h.s (by decide) hO,
    fun i hi => by obtain ⟨r, b, h1, h2, h3, h4⟩ := h.rows i hi; exact ⟨r, b, h1, h2, h3.fr hf, h4⟩,
    hfd.imp id fun ⟨r, b, h1, h2, h3⟩ => ⟨r, b, h1, h2, h3.fr hf⟩, hn, h.few⟩
/-- A state was added to those that are seen. -/
theorem SrAt.see (h : SrAt w B X p g st qv fv rb) {w0 : World} (hb : Below w.heap.size w w0) (hO : Only X.mb w0 w') (s : Spots) (hm : SetP w' X.mb (st.seen ++ [s])) (hl : st.seen.length ≠ 20000) :
    SrAt w' B X p g { st with seen := st.seen ++ [s] } qv fv rb ∧ Fr B w w' := by
  have h0 := h.below hb
  obtain ⟨_, arr, c, hh, _⟩ := h0.seen
  have hf : Fr B w0 w' := Fr.of_map hO h.mB hh
  refine ⟨⟨h0.plant.below hf.below, Sl.below h0.goal hf.below, h0.s.only hO (Ne.symm (h0.seen.ne_bk h0.s)), hm, h.sB, h.mB,
    h0.own.kept (row := some X.mb) ⟨hO.os, hO.tape, hO.output, by rw [hO.size]; exact Nat.le_refl _, fun k _ hk => hO.block k (fun e => hk (by rw [e]))⟩ (.inr (Ne.symm (h0.seen.ne_own h0.own))),
    fun i hi => by obtain ⟨r, b, h1, h2, h3, h4⟩ := h0.rows i hi; exact ⟨r, b, h1, h2, h3.fr hf, h4⟩,
    h0.found.imp id fun ⟨r, b, h1, h2, h3⟩ => ⟨r, b, h1, h2, h3.fr hf⟩, h0.next, ?_⟩, (Fr.of_below hb h.lt).trans hf⟩
  have := h.few
  simp only [List.length_append, List.length_cons, List.length_nil]
  omega
/-- A row was put behind the others. -/
theorem SrAt.put (h : SrAt w B X p g st qv fv rb) {qv' : Value} {b : Nat} (hp : PutTo w w' B X.sb (searchA X p g.length st.next st.full qv fv) qv qv' (st.rows.length + 1) (rb.map ptr ++ [ptr b])) (r : RowC) (hr : RowIn w r b) (hs : SpotsOk p r.at_)
    (hl : st.rows.length < st.seen.length) : SrAt w' B X p g { st with rows := st.rows ++ [r] } qv' fv (rb ++ [b]) ∧ Fr B w w' := by
  have hne := own_ne h.own h.s (by decide)
  have hbelow : Below B w w' := ⟨hp.os, hp.tape, hp.output, hp.size, fun k hk => hp.block k (by have := h.lt; omega) (by have := h.sB; omega) (by
    rcases h.own.2 with ⟨rfl, _⟩ | ⟨gg, cap, cur, rfl, hB, _⟩
    · simp [Value.ownBlock]
    · simp only [Value.ownBlock, ne_eq, Option.some.injEq]; omega)⟩
  have hf : Fr B w w' := ⟨hbelow, fun k cs t ht hu hk => by
    have e1 : k ≠ X.sb := by
      rintro rfl
      have e := hk.symm.trans h.s
      simp only [Option.some.injEq, Obj.cells.injEq] at e
      exact ht e.2.1
    exact (hp.block k hk.lt e1 (own_ne h.own hk hu)).trans hk⟩
  refine ⟨⟨h.plant.below hf.below, Sl.below h.goal hf.below, hp.s, h.seen.keep (hp.block _ h.seen.lt (h.seen.ne_bk h.s) (h.seen.ne_own h.own)), h.sB, h.mB, ?_, ?_,
    h.found.imp id fun ⟨r, b, h1, h2, h3⟩ => ⟨r, b, h1, h2, h3.fr hf⟩, ?_, ?_⟩, hf⟩
  · have := hp.own
    simpa using this
  · intro i hi
    simp only [List.length_append, List.length_cons, List.length_nil] at hi
    have hlen := h.len
    by_cases hlt : i < st.rows.length
    · obtain ⟨r', b', h1, h2, h3, h4⟩ := h.rows i hlt
      exact ⟨r', b', by simp only [List.getElem?_append_left hlt]; exact h1, by rw [List.getElem?_append_left (by omega)]; exact h2, h3.fr hf, h4⟩
    · obtain rfl : i = st.rows.length := by omega
      exact ⟨r, b, by simp, by rw [← hlen]; simp, hr.fr hf, hs⟩
  · have := h.next
    simp only [List.length_append, List.length_cons, List.length_nil]; omega
  · have := h.few
    simp only [List.length_append, List.length_cons, List.length_nil]; omega
end

theorem SetP.size {w : World} {b : Nat} {l : List Spots} (h : SetP w b l) (ty : TypeId) : (Builtin.len_ #[86] ty #[.map (some b)]).run Try.prog w = .ok (.int .i64 l.length) w := by
  obtain ⟨_, arr, clock, h1, h2⟩ := h
  have ht : Try.prog.underlying 86 = some (.map 74 4) := by kernel_rfl
  have e : arr.size = l.length := by have := congrArg List.length h2; simpa using this
  simp [Builtin.len_, run_underlying ht, run_getObj_map1 h1, goInt, Result.andThen, e]
theorem wpLenMap {P : Program} {ops : Array Oper} {rest : List Oper} {o : Oper} {a : Act} {w : World} {Q : Exit → Act → World → Prop} (hgd : o.guard = none) (x : Operand) (t : TypeId) (ho : o.op = .call { callee := .builtin .len, args := #[x], argTypes := #[t] })
    (v : Value) (hx : a.eval x = v) (n : Value) (hr : ∀ ty, (Builtin.len_ #[t] ty #[v]).run P w = .ok n w) (h : wpList P ops Q rest (a.put o.dst n) w) : wpList P ops Q (o :: rest) a w :=
  wpList_plain hgd fun _ hK => by
    unfold Oper.wp execOp
    simp only [ho, resolve, invoke, builtin, Sem.run_bind, Sem.run_pure, Result.andThen_ok, List.map_toArray, List.map_cons, List.map_nil, hx, hr]
    exact hK _ _ h

set_option maxRecDepth 100000 in
set_option maxHeartbeats 4000000 in
theorem reach_any (w : World) (B : Nat) (X : SrX) (p : PlantD) (g : List LitD) (st : Srch) (h0 : SrIn w B X p g st) (hv : ValvesOk p) (hG : GoalOk p g) (r : RowC) (b : Nat) (hr : RowIn w r b) (hs : SpotsOk p r.at_) :
    Calls Try.prog 29 #[.pointer (some ⟨X.sb, 0, none⟩), .pointer (some ⟨b, 0, none⟩)] w
      fun e w' => e = .returned (.bool (reachS p g st r).1) ∧ SrIn w' B X p g (reachS p g st r).2 ∧ Fr B w w' := by
  obtain ⟨qv, fv, rb, h⟩ := h0
  have HP : Hid (PlacesOk r.at_) := Lib.hid (hs.places hv)
  have HR0 := Lib.hid hr
  have HSO := Lib.hid hs
  have HS0 := Lib.hid h
  obtain ⟨fb, ob, hrow⟩ := hr.bk
  have HC : Hid (∀ w1, Below w.heap.size w w1 → w1.cell? ⟨X.sb, 5, none⟩ = some (.map (some X.mb))) := Lib.hid fun w1 hw1 => (h.s.below hw1 h.s.lt).cell 5
  have HL : Hid (∀ w1, Below w.heap.size w w1 → SetP w1 X.mb st.seen) := Lib.hid fun w1 hw1 => h.seen.keep (hw1.block _ h.seen.lt)
  have HR : Hid (∀ w1, Below w.heap.size w w1 → ∀ j u, (spotsA r.at_)[j]? = some u → w1.cell? ⟨b, 0 + j, none⟩ = some u) := Lib.hid fun w1 hw1 j u hj => by rw [Nat.zero_add]; exact ((hrow.below hw1 hrow.lt).cell j).trans (rowA_at _ _ _ j u hj)
  clear h hr hrow hs
  go_enter Try.func29, Try.ntmps29
  go_wp2_with fail
  refine wp_region_steps (by kernel_rfl) (by kernel_rfl) (fun w1 => Below w.heap.size w w1) (fun _ _ _ => True)
    (fun ix u _ _ => match ix with
      | 0 => u = .pointer (some ⟨X.sb, 0, none⟩)
      | 1 => u = .pointer (some ⟨X.sb, 0, none⟩)
      | 2 => u = .pointer (some ⟨X.sb, 5, none⟩)
      | 3 => u = .map (some X.mb)
      | 4 => u = .pointer (some ⟨b, 0, none⟩)
      | 5 => u = .pointer (some ⟨b, 0, none⟩)
      | 6 => u = .pointer (some ⟨b, 0, none⟩)
      | 7 => u = .agg (spotsA r.at_)
      | _ => u = .bool (inSet st.seen r.at_)) (Below.refl _ _).drew (fun _ _ _ _ _ _ _ _ h _ _ => h) ?_ ?_
  · refine ⟨?_, ?_, ?_, ?_, ?_, ?_, ?_, ?_, ?_, trivial⟩
    · intro a w1 vs K HJ HK HD HN k
      have e0 := HK 0 (by decide)
      go_simp; exact k _ _ (by simp) HJ trivial rfl
    · intro a w1 vs K HJ HK HD HN k
      have e5 := (HD 0 _ 5 rfl rfl rfl).1.trans (HD 0 _ 5 rfl rfl rfl).2
      go_simp; exact k _ _ (by simp) HJ trivial rfl
    · intro a w1 vs K HJ HK HD HN k
      have e6 := (HD 1 _ 6 rfl rfl rfl).1.trans (HD 1 _ 6 rfl rfl rfl).2
      go_simp; exact k _ _ (by simp) HJ trivial rfl
    · intro a w1 vs K HJ HK HD HN k
      have e7 := (HD 2 _ 7 rfl rfl rfl).1.trans (HD 2 _ 7 rfl rfl rfl).2
      have c := HC.out w1 HJ
      go_simp; exact k _ _ (by simp) HJ trivial rfl
    · intro a w1 vs K HJ HK HD HN k
      have e1 := HK 1 (by decide)
      go_simp; exact k _ _ (by simp) HJ trivial rfl
    · intro a w1 vs K HJ HK HD HN k
      have e9 := (HD 4 _ 9 rfl rfl rfl).1.trans (HD 4 _ 9 rfl rfl rfl).2
      go_simp; exact k _ _ (by simp) HJ trivial rfl
    · intro a w1 vs K HJ HK HD HN k
      have e10 := (HD 5 _ 10 rfl rfl rfl).1.trans (HD 5 _ 10 rfl rfl rfl).2
      go_simp; exact k _ _ (by simp) HJ trivial rfl
    · intro a w1 vs K HJ HK HD HN k
      have e11 := (HD 6 _ 11 rfl rfl rfl).1.trans (HD 6 _ 11 rfl rfl rfl).2
      exact wpo_loadS 74 (.tmp 11) rfl b 0 (by simpa [Act.eval] using e11) (spotsA r.at_) _ (HR.out w1 HJ) und_spots rfl (info_spots_s _) (k _ _ (by simp) HJ trivial rfl)
    · intro a w1 vs K HJ HK HD HN k
      have e8 := (HD 3 _ 8 rfl rfl rfl).1.trans (HD 3 _ 8 rfl rfl rfl).2
      have e12 := (HD 7 _ 12 rfl rfl rfl).1.trans (HD 7 _ 12 rfl rfl rfl).2
      have c := (HL.out w1 HJ).lookup r.at_ HP.out; go_simp; exact k _ _ (by simp) HJ trivial rfl
  intro vs wa hw1 hrr
  have h8 : vs 8 = _ := hrr 8 _ rfl
  clear hrr
  simp only [putAll, Act.put, h8]
  clear h8
  have hs1 := HS0.out.below hw1
  have HF1 := Lib.hid (Fr.of_below (B := B) hw1 HS0.out.lt)
  have hr1 := HR0.out.fr (B := B) HF1.out
  clear hw1 HC HL HR HS0 HR0
  cases hin : inSet st.seen r.at_ with
  | true =>
    have Hf := Lib.hid (show reachS p g st r = (true, st) by unfold reachS; rw [if_pos hin])
    have HS1 := Lib.hid hs1
    clear hin hs1 hr1
    go_simp
    go_wp2_with fail
    go_ret
    rw [Hf.out]
    exact ⟨rfl, ⟨qv, fv, rb, HS1.out⟩, HF1.out⟩
  | false =>
    have c5 : wa.cell? ⟨X.sb, 5, none⟩ = some (.map (some X.mb)) := hs1.s.cell 5
    have HLen := Lib.hid hs1.seen.size
    by_cases hl : st.seen.length = 20000
    · have Hf := Lib.hid (show reachS p g st r = (false, { st with full := true }) by unfold reachS; rw [if_neg (by rw [hin]; decide), if_pos hl])
      have c9 : wa.cell? ⟨X.sb, 9, none⟩ = some (.bool st.full) := hs1.s.cell 9
      have f9 := hs1.s.free 9
      have HT := Lib.hid (hs1.s.set 9 (.bool true))
      have HO := Lib.hid (Only.setCell wa X.sb 9 (.bool true))
      have hq : ((st.seen.length : Int) == 20000) = true := by rw [hl]; rfl
      have HS1 := Lib.hid hs1
      clear hin hs1 hr1 hl
      go_simp
      go_wp2_with (first | (refine wpLenMap rfl (.tmp 17) 86 rfl _ rfl _ HLen.out ?_))
      go_ret
      rw [Hf.out]
      exact ⟨rfl, ⟨qv, fv, rb, HS1.out.store HO.out st.next true st.found fv HT.out HS1.out.next HS1.out.found⟩, HF1.out.trans (HS1.out.frOnly HO.out)⟩
    · have hq : ((st.seen.length : Int) == 20000) = false := by simp; omega
      have HI : Hid (inSet st.seen r.at_ = false) := Lib.hid hin
      have HS1 := Lib.hid hs1
      have HN := Lib.hid hl
      have Hf := Lib.hid (show reachS p g st r = if reachedB p r.at_ g then (false, { st with seen := st.seen ++ [r.at_], found := some r }) else (true, { st with seen := st.seen ++ [r.at_], rows := st.rows ++ [r] }) by unfold reachS; rw [if_neg (by rw [hin]; decide), if_neg hl])
      have HR1 := Lib.hid hr1
      obtain ⟨fb1, ob1, hrow⟩ := hr1.bk
      have HC : Hid (∀ w1, Below wa.heap.size wa w1 → w1.cell? ⟨X.sb, 5, none⟩ = some (.map (some X.mb))) := Lib.hid fun w1 hw1 => (hs1.s.below hw1 hs1.s.lt).cell 5
      have HL : Hid (∀ w1, Below wa.heap.size wa w1 → SetP w1 X.mb st.seen) := Lib.hid fun w1 hw1 => hs1.seen.keep (hw1.block _ hs1.seen.lt)
      have HR : Hid (∀ w1, Below wa.heap.size wa w1 → ∀ j u, (spotsA r.at_)[j]? = some u → w1.cell? ⟨b, 0 + j, none⟩ = some u) := Lib.hid fun w1 hw1 j u hj => by rw [Nat.zero_add]; exact ((hrow.below hw1 hrow.lt).cell j).trans (rowA_at _ _ _ j u hj)
      clear hin hs1 hr1 hl hrow
      go_simp
      go_wp2_with (first | (refine wpLenMap rfl (.tmp 17) 86 rfl _ rfl _ HLen.out ?_))
      clear c5 HLen hq
      refine wp_region_stepsM (by kernel_rfl) (by kernel_rfl) 8 (by decide) (fun bq w1 => if bq = true then ∃ w0, Below wa.heap.size wa w0 ∧ SetP w1 X.mb (st.seen ++ [r.at_]) ∧ Only X.mb w0 w1 else Below wa.heap.size wa w1) (fun _ _ _ => True)
        (fun ix u _ _ => match ix with
          | 0 => u = .pointer (some ⟨X.sb, 0, none⟩)
          | 1 => u = .pointer (some ⟨X.sb, 0, none⟩)
          | 2 => u = .pointer (some ⟨X.sb, 5, none⟩)
          | 3 => u = .map (some X.mb)
          | 4 => u = .pointer (some ⟨b, 0, none⟩)
          | 5 => u = .pointer (some ⟨b, 0, none⟩)
          | 6 => u = .pointer (some ⟨b, 0, none⟩)
          | 7 => u = .agg (spotsA r.at_)
          | _ => True) (Below.refl _ _).drew (fun _ _ _ _ _ _ _ _ h _ => h) ?_ ?_
      · refine ⟨?_, ?_, ?_, ?_, ?_, ?_, ?_, ?_, ?_, trivial⟩
        · intro a w1 vs K bq Hb HJ HK HD HN k
          obtain rfl : bq = false := by cases bq with | false => rfl | true => exact absurd (Hb rfl).2 (by decide)
          have HJ' : Below wa.heap.size wa w1 := HJ
          have e0 := HK 0 (by decide)
          go_simp; exact k _ _ (by simp) HJ trivial rfl
        · intro a w1 vs K bq Hb HJ HK HD HN k
          obtain rfl : bq = false := by cases bq with | false => rfl | true => exact absurd (Hb rfl).2 (by decide)
          have HJ' : Below wa.heap.size wa w1 := HJ
          have e23 := (HD 0 _ 23 rfl rfl rfl).1.trans (HD 0 _ 23 rfl rfl rfl).2
          go_simp; exact k _ _ (by simp) HJ trivial rfl
        · intro a w1 vs K bq Hb HJ HK HD HN k
          obtain rfl : bq = false := by cases bq with | false => rfl | true => exact absurd (Hb rfl).2 (by decide)
          have HJ' : Below wa.heap.size wa w1 := HJ
          have e24 := (HD 1 _ 24 rfl rfl rfl).1.trans (HD 1 _ 24 rfl rfl rfl).2
          go_simp; exact k _ _ (by simp) HJ trivial rfl
        · intro a w1 vs K bq Hb HJ HK HD HN k
          obtain rfl : bq = false := by cases bq with | false => rfl | true => exact absurd (Hb rfl).2 (by decide)
          have HJ' : Below wa.heap.size wa w1 := HJ
          have e25 := (HD 2 _ 25 rfl rfl rfl).1.trans (HD 2 _ 25 rfl rfl rfl).2
          have c := HC.out w1 HJ'
          go_simp; exact k _ _ (by simp) HJ trivial rfl
        · intro a w1 vs K bq Hb HJ HK HD HN k
          obtain rfl : bq = false := by cases bq with | false => rfl | true => exact absurd (Hb rfl).2 (by decide)
          have HJ' : Below wa.heap.size wa w1 := HJ
          have e1 := HK 1 (by decide)
          go_simp; exact k _ _ (by simp) HJ trivial rfl
        · intro a w1 vs K bq Hb HJ HK HD HN k
          obtain rfl : bq = false := by cases bq with | false => rfl | true => exact absurd (Hb rfl).2 (by decide)
          have HJ' : Below wa.heap.size wa w1 := HJ
          have e27 := (HD 4 _ 27 rfl rfl rfl).1.trans (HD 4 _ 27 rfl rfl rfl).2
          go_simp; exact k _ _ (by simp) HJ trivial rfl
        · intro a w1 vs K bq Hb HJ HK HD HN k
          obtain rfl : bq = false := by cases bq with | false => rfl | true => exact absurd (Hb rfl).2 (by decide)
          have HJ' : Below wa.heap.size wa w1 := HJ
          have e28 := (HD 5 _ 28 rfl rfl rfl).1.trans (HD 5 _ 28 rfl rfl rfl).2
          go_simp; exact k _ _ (by simp) HJ trivial rfl
        · intro a w1 vs K bq Hb HJ HK HD HN k
          obtain rfl : bq = false := by cases bq with | false => rfl | true => exact absurd (Hb rfl).2 (by decide)
          have HJ' : Below wa.heap.size wa w1 := HJ
          have e29 := (HD 6 _ 29 rfl rfl rfl).1.trans (HD 6 _ 29 rfl rfl rfl).2
          exact wpo_loadS 74 (.tmp 29) rfl b 0 (by simpa [Act.eval] using e29) (spotsA r.at_) _ (HR.out w1 HJ') und_spots rfl (info_spots_s _) (k _ _ (by simp) HJ trivial rfl)
        · intro a w1 vs K bq Hb HJ HK HD HN k
          obtain rfl : bq = false := by cases bq with | false => rfl | true => exact absurd rfl (Hb rfl).1
          have HJ' : Below wa.heap.size wa w1 := HJ
          have e26 := (HD 3 _ 26 rfl rfl rfl).1.trans (HD 3 _ 26 rfl rfl rfl).2
          have e30 := (HD 7 _ 30 rfl rfl rfl).1.trans (HD 7 _ 30 rfl rfl rfl).2
          obtain ⟨w2, u1, u2, u3⟩ := (HL.out w1 HJ').update r.at_ HP.out HI.out; clear HC HL HR HP HI; go_simp; exact k undef _ (by simp) ⟨w1, HJ', u2, u3⟩ trivial trivial
      intro vs wb hwb hrr
      clear hrr HC HL HR
      obtain ⟨w0, hw0, hm, hO⟩ : ∃ w0, Below wa.heap.size wa w0 ∧ SetP wb X.mb (st.seen ++ [r.at_]) ∧ Only X.mb w0 wb := hwb
      obtain ⟨hs2, hf2⟩ := HS1.out.see hw0 hO r.at_ hm HN.out
      have hr2 := HR1.out.fr hf2
      have HF2 := Lib.hid (HF1.out.trans hf2)
      have HN2 : Hid (st.rows.length < (st.seen ++ [r.at_]).length) := Lib.hid (by have := HS1.out.few; simp only [List.length_append, List.length_cons, List.length_nil]; omega)
      clear hw0 hm hO hf2 HF1 HS1 HR1 HN
      obtain ⟨fb2, ob2, hrow⟩ := hr2.bk
      have HC : Hid (∀ w1, Below wb.heap.size wb w1 → w1.cell? ⟨X.sb, 4, none⟩ = some (.slice X.gA g.length X.gc)) := Lib.hid fun w1 hw1 => (hs2.s.below hw1 hs2.s.lt).cell 4
      have HPl : Hid (∀ w1, Below wb.heap.size wb w1 → ∀ j u, (plantA X.pv p)[j]? = some u → w1.cell? ⟨X.sb, 0 + j, none⟩ = some u) := Lib.hid fun w1 hw1 j u hj => by rw [Nat.zero_add]; exact ((hs2.s.below hw1 hs2.s.lt).cell j).trans (searchA_plant _ _ _ _ _ _ _ j u hj)
      have HR : Hid (∀ w1, Below wb.heap.size wb w1 → ∀ j u, (spotsA r.at_)[j]? = some u → w1.cell? ⟨b, 0 + j, none⟩ = some u) := Lib.hid fun w1 hw1 j u hj => by rw [Nat.zero_add]; exact ((hrow.below hw1 hrow.lt).cell j).trans (rowA_at _ _ _ j u hj)
      have HH : Hid (∀ w1, Below wb.heap.size wb w1 → Calls Try.prog 61 #[.agg (plantA X.pv p), .agg (spotsA r.at_), .slice X.gA g.length X.gc] w1 fun e w' => e = .returned (.bool (reachedB p r.at_ g)) ∧ Below w1.heap.size w1 w') := Lib.hid fun w1 hw1 => by
        have h3 := hs2.below hw1
        exact reached_any w1 X.pv p (h3.plant.mono h3.lt) r.at_ HP.out hv.1 X.gA X.gc g (h3.goal.mono h3.lt) hG
      have HS2 := Lib.hid hs2
      have HR2 := Lib.hid hr2
      clear hs2 hr2 hrow HI
      simp only [putAll, Act.put]
      go_wp2_with fail
      refine wp_region_steps (by kernel_rfl) (by kernel_rfl) (fun w1 => Below wb.heap.size wb w1) (fun _ _ _ => True)
        (fun ix u _ _ => match ix with
          | 0 => u = .pointer (some ⟨X.sb, 0, none⟩)
          | 1 => u = .pointer (some ⟨X.sb, 0, none⟩)
          | 2 => u = .pointer (some ⟨X.sb, 0, none⟩)
          | 3 => u = .agg (plantA X.pv p)
          | 4 => u = .pointer (some ⟨b, 0, none⟩)
          | 5 => u = .pointer (some ⟨b, 0, none⟩)
          | 6 => u = .pointer (some ⟨b, 0, none⟩)
          | 7 => u = .agg (spotsA r.at_)
          | 8 => u = .pointer (some ⟨X.sb, 0, none⟩)
          | 9 => u = .pointer (some ⟨X.sb, 0, none⟩)
          | 10 => u = .pointer (some ⟨X.sb, 4, none⟩)
          | 11 => u = .slice X.gA g.length X.gc
          | _ => u = .bool (reachedB p r.at_ g)) (Below.refl _ _).drew (fun _ _ _ _ _ _ _ _ h _ _ => h) ?_ ?_
      · refine ⟨?_, ?_, ?_, ?_, ?_, ?_, ?_, ?_, ?_, ?_, ?_, ?_, ?_, trivial⟩
        · intro a w1 vs K HJ HK HD HN k
          have e0 := HK 0 (by decide)
          go_simp; exact k _ _ (by simp) HJ trivial rfl
        · intro a w1 vs K HJ HK HD HN k
          have e31 := (HD 0 _ 31 rfl rfl rfl).1.trans (HD 0 _ 31 rfl rfl rfl).2
          go_simp; exact k _ _ (by simp) HJ trivial rfl
        · intro a w1 vs K HJ HK HD HN k
          have e32 := (HD 1 _ 32 rfl rfl rfl).1.trans (HD 1 _ 32 rfl rfl rfl).2
          go_simp; exact k _ _ (by simp) HJ trivial rfl
        · intro a w1 vs K HJ HK HD HN k
          have e33 := (HD 2 _ 33 rfl rfl rfl).1.trans (HD 2 _ 33 rfl rfl rfl).2
          exact wpo_loadS 33 (.tmp 33) rfl X.sb 0 (by simpa [Act.eval] using e33) (plantA X.pv p) _ (HPl.out w1 HJ) und_plant rfl info_plant (k _ _ (by simp) HJ trivial rfl)
        · intro a w1 vs K HJ HK HD HN k
          have e1 := HK 1 (by decide)
          go_simp; exact k _ _ (by simp) HJ trivial rfl
        · intro a w1 vs K HJ HK HD HN k
          have e35 := (HD 4 _ 35 rfl rfl rfl).1.trans (HD 4 _ 35 rfl rfl rfl).2
          go_simp; exact k _ _ (by simp) HJ trivial rfl
        · intro a w1 vs K HJ HK HD HN k
          have e36 := (HD 5 _ 36 rfl rfl rfl).1.trans (HD 5 _ 36 rfl rfl rfl).2
          go_simp; exact k _ _ (by simp) HJ trivial rfl
        · intro a w1 vs K HJ HK HD HN k
          have e37 := (HD 6 _ 37 rfl rfl rfl).1.trans (HD 6 _ 37 rfl rfl rfl).2
          exact wpo_loadS 74 (.tmp 37) rfl b 0 (by simpa [Act.eval] using e37) (spotsA r.at_) _ (HR.out w1 HJ) und_spots rfl (info_spots_s _) (k _ _ (by simp) HJ trivial rfl)
        · intro a w1 vs K HJ HK HD HN k
          have e0 := HK 0 (by decide)
          go_simp; exact k _ _ (by simp) HJ trivial rfl
        · intro a w1 vs K HJ HK HD HN k
          have e39 := (HD 8 _ 39 rfl rfl rfl).1.trans (HD 8 _ 39 rfl rfl rfl).2
          go_simp; exact k _ _ (by simp) HJ trivial rfl
        · intro a w1 vs K HJ HK HD HN k
          have e40 := (HD 9 _ 40 rfl rfl rfl).1.trans (HD 9 _ 40 rfl rfl rfl).2
          go_simp; exact k _ _ (by simp) HJ trivial rfl
        · intro a w1 vs K HJ HK HD HN k
          have e41 := (HD 10 _ 41 rfl rfl rfl).1.trans (HD 10 _ 41 rfl rfl rfl).2
          have c := HC.out w1 HJ
          go_simp; exact k _ _ (by simp) HJ trivial rfl
        · intro a w1 vs K HJ HK HD HN k
          have e34 := (HD 3 _ 34 rfl rfl rfl).1.trans (HD 3 _ 34 rfl rfl rfl).2
          have e38 := (HD 7 _ 38 rfl rfl rfl).1.trans (HD 7 _ 38 rfl rfl rfl).2
          have e42 := (HD 11 _ 42 rfl rfl rfl).1.trans (HD 11 _ 42 rfl rfl rfl).2
          exact wpo_call 61 _ _ rfl #[.agg (plantA X.pv p), .agg (spotsA r.at_), .slice X.gA g.length X.gc] (by simp [Act.eval, e34, e38, e42]) (fun args w => by kernel_rfl)
            ((HH.out w1 HJ).mono fun e w' ⟨he, hb⟩ => ⟨_, he, k _ _ (by simp) (Below.trans HJ (hb.mono HJ.size)) trivial rfl⟩)
      intro vs wc hwc hrr
      have h12 : vs 12 = _ := hrr 12 _ rfl
      clear hrr
      simp only [putAll, Act.put, h12]
      have hs3 := HS2.out.below hwc
      have hf3 := Fr.of_below (B := B) hwc HS2.out.lt
      have hr3 := HR2.out.fr hf3
      have HF3 := Lib.hid (HF2.out.trans hf3)
      clear hwc h12 HC HPl HR HH HS2 HR2 hf3 HF2
      cases hq : reachedB p r.at_ g with
      | true =>
        rw [hq] at Hf
        have c8 : wc.cell? ⟨X.sb, 8, none⟩ = some fv := hs3.s.cell 8
        have f8 := hs3.s.free 8
        have HT := Lib.hid (hs3.s.set 8 (ptr b))
        have HO := Lib.hid (Only.setCell wc X.sb 8 (ptr b))
        have HS3 := Lib.hid hs3
        have HR3 := Lib.hid hr3
        clear hs3 hr3 hq
        go_simp
        go_wp2_with fail
        go_ret
        rw [Hf.out]
        exact ⟨rfl, ⟨qv, ptr b, rb, HS3.out.store HO.out st.next st.full (some r) (ptr b) HT.out HS3.out.next (.inr ⟨r, b, rfl, rfl, HR3.out⟩)⟩, HF3.out.trans (HS3.out.frOnly HO.out)⟩
      | false =>
        rw [hq] at Hf
        have HS3 := Lib.hid hs3
        have HR3 := Lib.hid hr3
        have HQ := Lib.hid (qput_any wc B X.sb _ hs3.s hs3.lt qv rfl _ _ hs3.own (by have := hs3.few; have := hs3.next; simp only at *; omega) b)
        clear hs3 hr3 hq
        go_simp
        go_wp2_with fail
        refine HQ.out.mono ?_
        rintro e w' ⟨rfl, qv', hput⟩
        obtain ⟨hs4, hf4⟩ := HS3.out.put hput r HR3.out HSO.out HN2.out
        have HS4 := Lib.hid hs4
        have HF4 := Lib.hid hf4
        clear hput hs4 hf4
        go_wp2_with fail
        go_ret
        rw [Hf.out]
        exact ⟨rfl, ⟨qv', fv, rb ++ [b], HS4.out⟩, HF3.out.trans HF4.out⟩
end Go.Proofs.Ytogobjmmgjfjjaa
