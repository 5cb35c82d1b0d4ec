/- What is proved: the texts Rd Rw Rp Lw, one behind the other; each says at its head what it proves, and under which conditions. -/
import Derived.Test.YtogobjmmgjfjjaaRows
import Derived.ProofKit
import Derived.OpenShut
import Derived.JoinedOf
import Derived.JoinedCond
import Derived.SizedLaws
import Derived.ChangeSame
import Derived.Carry
import Derived.Test.YtogobjmmgjfjjaadPLeads4
/- What is proved: what the form's reading of data says of the cells, type by type; and the last step of a law that only makes memory. Conditions: those that each lemma states. -/
namespace Go.Proofs.Ytogobjmmgjfjjaa
open Go.ChangeShapes Go.WideShapes Go.ChangeAt Go.RowKit

section
variable {H : Type} {enc : TypeId × Value → H} {P : Program} {w : World} {t e : TypeId} {cs : List Value}
/-- The cells cs read as a value of type t. -/
def Rd (enc : TypeId × Value → H) (P : Program) (w : World) (t : TypeId) (cs : List Value) : Prop := ∃ fuel x, DataW.trod enc P w 0 (fun _ => true) true fuel t cs = some x
theorem Rd.of_trod {v : Value} {d : DataW H} {ps : List MemPlace} (h : DataW.Trod enc P w 0 (fun _ => true) true t v d ps) : Rd enc P w t v.cells.toList := by
  obtain ⟨n, hn⟩ := h
  exact ⟨n, _, hn⟩
theorem Rd.int {k : IntKind} (h : Rd enc P w t cs) (ht : P.underlying t = some (.int k)) : ∃ n, cs = [.int k n] ∧ (Lit.int k n).wf = true := by
  obtain ⟨fuel, x, h⟩ := h
  cases fuel with
  | zero => simp [DataW.trod] at h
  | succ m =>
    unfold DataW.trod at h
    rw [ht] at h
    split at h <;> simp_all
theorem Rd.bool (h : Rd enc P w t cs) (ht : P.underlying t = some .bool) : ∃ b, cs = [.bool b] := by
  obtain ⟨fuel, x, h⟩ := h
  cases fuel with
  | zero => simp [DataW.trod] at h
  | succ m =>
    unfold DataW.trod at h
    rw [ht] at h
    split at h <;> simp_all
theorem Rd.string (h : Rd enc P w t cs) (ht : P.underlying t = some .string) : ∃ s, cs = [.string s] ∧ s.size ≤ maxLen := by
  obtain ⟨fuel, x, h⟩ := h
  cases fuel with
  | zero => simp [DataW.trod] at h
  | succ m =>
    unfold DataW.trod at h
    rw [ht] at h
    split at h <;> simp_all
theorem Rd.struct {fs : Array Field} (h : Rd enc P w t cs) (ht : P.underlying t = some (.struct fs)) : cs.length = P.cellsOf t ∧ ∀ f ∈ fs.toList, Rd enc P w f.type ((cs.drop f.offset).take (P.cellsOf f.type)) := by
  obtain ⟨fuel, x, h⟩ := h
  cases fuel with
  | zero => simp [DataW.trod] at h
  | succ m =>
    unfold DataW.trod at h
    rw [ht] at h
    split at h <;> simp_all
    obtain ⟨hl, xs, hp, _⟩ := h
    refine fun f hf => ?_
    obtain ⟨i, hi⟩ := List.getElem?_of_mem (Array.mem_toList_iff.2 hf)
    have hg := mapM_some_get hp i f hi
    have hlen := mapM_some_length hp
    have : i < xs.length := by rw [hlen]; exact (List.getElem?_eq_some_iff.1 hi).1
    exact ⟨m, xs[i], by rw [hg]; exact List.getElem?_eq_getElem this⟩
theorem Rd.fields {fs : Array Field} {l : List (TypeId × Nat)} (h : Rd enc P w t cs) (ht : P.underlying t = some (.struct fs)) (hl : fs.toList.map (fun f => (f.type, f.offset)) = l) :
    cs.length = P.cellsOf t ∧ ∀ q ∈ l, Rd enc P w q.1 ((cs.drop q.2).take (P.cellsOf q.1)) := by
  obtain ⟨h1, h2⟩ := h.struct ht
  refine ⟨h1, fun q hq => ?_⟩
  rw [← hl] at hq
  obtain ⟨f, hf, rfl⟩ := List.mem_map.1 hq
  exact h2 f hf
theorem Rd.array {n : Nat} (h : Rd enc P w t cs) (ht : P.underlying t = some (.array n e)) : cs.length = P.cellsOf t ∧ ∀ i, i < n → Rd enc P w e ((cs.drop (i * P.cellsOf e)).take (P.cellsOf e)) := by
  obtain ⟨fuel, x, h⟩ := h
  obtain ⟨xs, m, _, _, h1, h2, h3⟩ := DataW.trod_array ht h
  refine ⟨h1, fun i hi => ?_⟩
  exact ⟨m, xs[i]'(by omega), by rw [h3 i hi]; exact List.getElem?_eq_getElem _⟩
theorem cells_get {base n : Nat} {a : Addr} {l : List Value} (h : w.cells? base a n = some l) : l.length = n ∧ ∀ j, j < n → w.cell? (a.add j) = l[j]? := by
  unfold World.cells? at h
  split at h
  · exact ⟨by simpa using mapM_some_length h, fun j hj => mapM_some_get h j j (by simp [hj])⟩
  · cases h
theorem Rd.slice (h : Rd enc P w t cs) (ht : P.underlying t = some (.slice e)) :
    cs = [.slice none 0 0] ∨ ∃ a len cap, cs = [.slice (some a) len cap] ∧ len ≤ maxLen ∧ ∀ i, i < len → ∃ l, w.cells? 0 (a.add (i * P.cellsOf e)) (P.cellsOf e) = some l ∧ Rd enc P w e l := by
  obtain ⟨fuel, x, h⟩ := h
  cases fuel with
  | zero => simp [DataW.trod] at h
  | succ m =>
    unfold DataW.trod at h
    rw [ht] at h
    split at h <;> simp_all
    rename_i a len cap _
    obtain ⟨⟨h1, h2⟩, h3⟩ := h
    refine ⟨a, len, ⟨rfl, rfl⟩, by omega, fun i hi => ?_⟩
    obtain ⟨elems, he, _⟩ := Option.bind_eq_some_iff.1 h3
    have hg := mapM_some_get he i i (by simp [hi])
    have hlen := mapM_some_length he
    have hi2 : i < elems.length := by rw [hlen]; simpa using hi
    rw [List.getElem?_eq_getElem hi2] at hg
    obtain ⟨l, hl, hr⟩ := Option.bind_eq_some_iff.1 hg
    exact ⟨l, hl, m, _, hr⟩
/-- A slice, each of whose rows of k cells is some y. -/
theorem Rd.list {Y : Type} (C : Y → Nat → Value) (Q : Y → Prop) (y0 : Y) {k : Nat} (h : Rd enc P w t cs) (ht : P.underlying t = some (.slice e)) (hk : P.cellsOf e = k) (hk0 : 0 < k)
    (hrow : ∀ l, l.length = k → Rd enc P w e l → ∃ y, Q y ∧ ∀ j, j < k → l[j]? = some (C y j)) :
    ∃ (A : Option Addr) (c : Nat) (l : List Y), cs = [.slice A l.length c] ∧ (∀ y ∈ l, Q y) ∧ Sl w w.heap.size k A l.length fun i => C (l.getD i y0) := by
  rcases h.slice ht with rfl | ⟨a, len, cap, rfl, hm, hi⟩
  · exact ⟨none, 0, [], rfl, fun y hy => by simp at hy, Sl.nil _ _ _ _ _⟩
  · rw [hk] at hi
    have hex : ∀ i, ∃ y, i < len → Q y ∧ ∀ j, j < k → w.cell? ((a.add (i * k)).add j) = some (C y j) := fun i => by
      by_cases hlt : i < len
      · obtain ⟨l, hl, hr⟩ := hi i hlt
        obtain ⟨h1, h2⟩ := cells_get hl
        obtain ⟨y, hq, hy⟩ := hrow l h1 hr
        exact ⟨y, fun _ => ⟨hq, fun j hj => (h2 j hj).trans (hy j hj)⟩⟩
      · exact ⟨y0, fun h => absurd h hlt⟩
    obtain ⟨f, hf⟩ := Classical.axiomOfChoice hex
    have hlen : ((List.range len).map f).length = len := by simp
    have hget : ∀ i, i < len → ((List.range len).map f).getD i y0 = f i := fun i hlt => by simp [hlt]
    refine ⟨some a, cap, (List.range len).map f, by rw [hlen], fun y hy => ?_, ?_, fun h0 => ?_⟩
    · obtain ⟨i, h1, rfl⟩ := List.mem_map.1 hy
      exact (hf i (by simpa using h1)).1
    · rw [hlen]; unfold maxLen at hm; omega
    · rw [hlen] at h0
      have h1 := (hf 0 h0).2 0 hk0
      simp only [Nat.zero_mul, Addr.add] at h1
      obtain ⟨b, off, sp⟩ := a
      have hsp : sp = none := by
        cases sp with
        | none => rfl
        | some s => simp [World.cell?] at h1; split at h1 <;> cases h1
      subst hsp
      refine ⟨b, off, rfl, World.block_lt_of_cell? w _ h1, fun i hi2 j hj => ?_⟩
      rw [hlen] at hi2
      show w.cell? _ = some (C (((List.range len).map f).getD i y0) j)
      rw [hget i hi2]
      have := (hf i hi2).2 j hj
      rwa [Addr.add_lit, Addr.add_lit] at this
theorem i64_bd {n : Int} (h : (Lit.int .i64 n).wf = true) : -9223372036854775808 ≤ n ∧ n ≤ 9223372036854775807 := by
  simpa [Lit.wf, IntKind.min, IntKind.max, IntKind.signed, IntKind.bits] using h

/-! The last step. -/
theorem trodAll_stays (hl : laidOutB P = true) {W W' : World} {base : Nat} {sp : Nat → Bool} : ∀ (ts : List TypeId) {vs : List Value} {ds : List (DataW H)} {ps : List MemPlace}, (∀ t ∈ ts, P.readableRec t = true ∧ t < P.types.size) →
    DataW.TrodAll enc P W base (fun _ => true) true ts vs ds ps → (∀ p ∈ ps, W.sameAt W' p) → (∀ p ∈ ps, sp p.block = true) → DataW.TrodAll enc P W' base sp true ts vs ds ps
  | [], vs, ds, ps, _, h, _, _ => by
    cases vs <;> cases ds <;> simp_all [DataW.TrodAll]
  | t :: ts, vs, ds, ps, ht, h, hs, hsp => by
    obtain ⟨v, vs', d, ds', p, q, rfl, rfl, rfl, h1, h2⟩ := trodAll_cons h
    exact trodAll_cons_mk (WideElems.Trod_stays hl (ht t (List.mem_cons_self ..)).1 (ht t (List.mem_cons_self ..)).2 h1 (fun x hx => hs x (List.mem_append_left _ hx)) (fun x hx => hsp x (List.mem_append_left _ hx)))
      (trodAll_stays hl ts (fun t' h' => ht t' (List.mem_cons_of_mem _ h')) h2 (fun x hx => hs x (List.mem_append_right _ hx)) (fun x hx => hsp x (List.mem_append_right _ hx)))
theorem law_post {f : Func} {s : ChangeSpec} {bt : TypeId} {W W' : World} {args : Array Value} {ds gs : List (DataW H)} {before : List MemPlace}
    (hl : laidOutB P = true) (hps : ∀ t ∈ f.params.toList, P.readableRec t = true ∧ t < P.types.size) (hrt : f.resultTypes = #[bt]) (hbt : P.underlying bt = some .bool) (hv : s.vars = [])
    (hW : DataW.Whole enc P f.params.toList s.vars false W args.toList ds gs before) (hres : (s.fn H (ds ++ gs)).results = [.lit (.bool true)]) (hargs : (s.fn H (ds ++ gs)).args = ds) (hvars : (s.fn H (ds ++ gs)).vars = [])
    (hb : Below W.heap.size W W') : s.post enc P f false true false false W args (.bool true) W' := by
  have hW' := hW
  have hlt : ∀ p ∈ before, p.block < W.heap.size := fun p hp => hW.lt p hp
  have hold : ∀ p ∈ before, (fun b => decide (b < W.heap.size)) p.block = true := fun p hp => by simpa using hlt p hp
  obtain ⟨p, q, hA, hV, rfl, hz, hn⟩ := hW
  rw [hv] at hV
  obtain ⟨rfl, rfl⟩ := trodVars_none hV
  have hr : ∀ (b : Nat) (sp : Nat → Bool) (hd : Bool), DataW.TrodAll enc P W' b sp hd f.resultTypes.toList ((Value.bool true).resultList f.resultTypes.size) (s.fn H (ds ++ [])).results [] := fun b sp hd => by
    rw [hrt, hres]; exact trodAll_mk1 (shut_bool hbt _)
  have ha : ∀ sp : Nat → Bool, (∀ x ∈ p, sp x.block = true) → DataW.TrodAll enc P W' 0 sp true f.params.toList args.toList (s.fn H (ds ++ [])).args p := fun sp hsp => by
    rw [hargs]; exact trodAll_stays hl _ hps hA (fun x hx => hb.same (hlt x (List.mem_append_left _ hx))) hsp
  have hvs : ∀ sp : Nat → Bool, DataW.TrodVars enc P W' sp s.vars (s.fn H (ds ++ [])).vars [] := fun sp => by rw [hv, hvars]; rfl
  refine ⟨ds, [], p ++ [], [], p, [], hW', hr _ _ _, ha _ (fun x hx => hold x (List.mem_append_left _ hx)), hvs _, World.keptBut_mono (fun x hx => ⟨hx, ?_⟩) (hb.frame (· ∈ p ++ [])), fun _ => ?_⟩
  · exact Or.inr (List.mem_append.1 hx)
  · refine ⟨?_, _, _, ([] ++ p) ++ [], ⟨[] ++ p, [], trodAll_append (ha _ (fun _ _ => rfl)) (hr _ _ _), hvs _, rfl, ?_, ?_⟩, ?_⟩
    · exact ok_one hrt rfl (okWide_bool_mk hbt _)
    · intro b off hp
      have hin : MemPlace.cell b off ∈ p ++ [] := by simpa using hp
      rw [hb.frozen (hlt _ hin)]
      exact hz b off hin
    · intro ha; cases ha
    · intro x hx _
      simpa using hx
end
end Go.Proofs.Ytogobjmmgjfjjaa
/- What is proved: what the form's reading of data says of the cells, with the form's reach: how long lists are. Conditions: those that each lemma states. -/
namespace Go.Proofs.Ytogobjmmgjfjjaa
open Go.ChangeShapes Go.WideShapes Go.ChangeAt Go.RowKit

section
variable {H : Type} {enc : TypeId × Value → H} {P : Program} {w : World} {t e : TypeId} {cs : List Value}
/-- The cells cs read as a value of type t, within the reach. -/
def RdW (enc : TypeId × Value → H) (P : Program) (w : World) (t : TypeId) (cs : List Value) : Prop :=
  ∃ fuel d ps, DataW.trod enc P w 0 (fun _ => true) true fuel t cs = some (d, ps) ∧ ∀ n ∈ d.weights P t, n ≤ reachBytes
theorem RdW.rd (h : RdW enc P w t cs) : Rd enc P w t cs := by
  obtain ⟨fuel, d, ps, h, _⟩ := h
  exact ⟨fuel, _, h⟩
theorem RdW.of_trod {v : Value} {d : DataW H} {ps : List MemPlace} (h : DataW.Trod enc P w 0 (fun _ => true) true t v d ps) (hw : ∀ n ∈ d.weights P t, n ≤ reachBytes) : RdW enc P w t v.cells.toList := by
  obtain ⟨n, hn⟩ := h
  exact ⟨n, _, _, hn, hw⟩
theorem RdW.fields {fs : Array Field} {l : List (TypeId × Nat)} (h : RdW enc P w t cs) (ht : P.underlying t = some (.struct fs)) (hl : fs.toList.map (fun f => (f.type, f.offset)) = l) :
    cs.length = P.cellsOf t ∧ ∀ q ∈ l, RdW enc P w q.1 ((cs.drop q.2).take (P.cellsOf q.1)) := by
  obtain ⟨fuel, d, ps, h, hw⟩ := h
  cases fuel with
  | zero => simp [DataW.trod] at h
  | succ m =>
    unfold DataW.trod at h
    rw [ht] at h
    split at h <;> simp_all
    obtain ⟨hlen, xs, hp, hd, _⟩ := h
    subst hd
    subst hl
    intro a b hab
    obtain ⟨f, hf, hfe⟩ := List.mem_map.1 hab
    simp only [Prod.mk.injEq] at hfe
    obtain ⟨rfl, rfl⟩ := hfe
    obtain ⟨i, hi⟩ := List.getElem?_of_mem hf
    have hg := mapM_some_get hp i f hi
    have hlen2 := mapM_some_length hp
    have hi2 : i < xs.length := by rw [hlen2]; exact (List.getElem?_eq_some_iff.1 hi).1
    rw [List.getElem?_eq_getElem hi2] at hg
    refine ⟨m, xs[i].1, xs[i].2, hg, fun n hn => hw n ?_⟩
    simp only [DataW.weights, ht]
    exact DataW.weights_mem_each (j := i) (t := f.type) (d := xs[i].1) (by simp [hi]) (by simp [List.getElem?_eq_getElem hi2]) n hn
theorem weights_mem_all : ∀ {ds : List (DataW H)} {j : Nat} {d : DataW H}, ds[j]? = some d → ∀ n ∈ d.weights P e, n ∈ DataW.weightsAll P e ds
  | d0 :: ds, 0, d, hd, n, hn => by
    simp only [List.getElem?_cons_zero, Option.some.injEq] at hd
    subst hd
    simp only [DataW.weightsAll, List.mem_append]
    exact Or.inl hn
  | d0 :: ds, j + 1, d, hd, n, hn => by
    simp only [List.getElem?_cons_succ] at hd
    simp only [DataW.weightsAll, List.mem_append]
    exact Or.inr (weights_mem_all hd n hn)
  | [], _, _, hd, _, _ => by simp at hd
theorem RdW.slice (h : RdW enc P w t cs) (ht : P.underlying t = some (.slice e)) :
    cs = [.slice none 0 0] ∨ ∃ a len cap, cs = [.slice (some a) len cap] ∧ len ≤ maxLen ∧ len * P.bytesOf e ≤ reachBytes ∧ ∀ i, i < len → ∃ l, w.cells? 0 (a.add (i * P.cellsOf e)) (P.cellsOf e) = some l ∧ RdW enc P w e l := by
  obtain ⟨fuel, d, ps, h, hw⟩ := h
  cases fuel with
  | zero => simp [DataW.trod] at h
  | succ m =>
    unfold DataW.trod at h
    rw [ht] at h
    split at h <;> simp_all
    rename_i a len cap _
    obtain ⟨⟨h1, h2⟩, h3⟩ := h
    obtain ⟨elems, he, h4⟩ := Option.bind_eq_some_iff.1 h3
    obtain ⟨rest, hr, h5⟩ := Option.map_eq_some_iff.1 h4
    simp only [Prod.mk.injEq] at h5
    obtain ⟨rfl, _⟩ := h5
    have hlen := mapM_some_length he
    simp only [List.length_range] at hlen
    simp only [DataW.weights, ht, List.length_map] at hw
    have hb := hw _ (List.mem_cons_self ..)
    rw [hlen] at hb
    refine ⟨a, len, ⟨rfl, rfl⟩, by omega, Nat.le_trans (Nat.mul_le_mul_right _ (Nat.le_add_right _ _)) hb, fun i hi => ?_⟩
    have hg := mapM_some_get he i i (by simp [hi])
    have hi2 : i < elems.length := by omega
    rw [List.getElem?_eq_getElem hi2] at hg
    obtain ⟨l, hl, hr⟩ := Option.bind_eq_some_iff.1 hg
    refine ⟨l, hl, m, elems[i].1, elems[i].2, hr, fun n hn => hw n ?_⟩
    refine List.mem_cons_of_mem _ (List.mem_append_left _ (weights_mem_all (j := i) (d := elems[i].1) ?_ n hn))
    simp [List.getElem?_eq_getElem hi2]
/-- A slice, each of whose rows of k cells is some y. -/
theorem RdW.list {Y : Type} (C : Y → Nat → Value) (Q : Y → Prop) (y0 : Y) {k : Nat} (h : RdW enc P w t cs) (ht : P.underlying t = some (.slice e)) (hk : P.cellsOf e = k) (hk0 : 0 < k)
    (hrow : ∀ l, l.length = k → RdW enc P w e l → ∃ y, Q y ∧ ∀ j, j < k → l[j]? = some (C y j)) :
    ∃ (A : Option Addr) (c : Nat) (l : List Y), cs = [.slice A l.length c] ∧ (∀ y ∈ l, Q y) ∧ Sl w w.heap.size k A l.length (fun i => C (l.getD i y0)) ∧ l.length * P.bytesOf e ≤ reachBytes := by
  rcases h.slice ht with rfl | ⟨a, len, cap, rfl, hm, hby, hi⟩
  · exact ⟨none, 0, [], rfl, fun y hy => by simp at hy, Sl.nil _ _ _ _ _, by simp⟩
  · rw [hk] at hi
    have hex : ∀ i, ∃ y, i < len → Q y ∧ ∀ j, j < k → w.cell? ((a.add (i * k)).add j) = some (C y j) := fun i => by
      by_cases hlt : i < len
      · obtain ⟨l, hl, hr⟩ := hi i hlt
        obtain ⟨h1, h2⟩ := cells_get hl
        obtain ⟨y, hq, hy⟩ := hrow l h1 hr
        exact ⟨y, fun _ => ⟨hq, fun j hj => (h2 j hj).trans (hy j hj)⟩⟩
      · exact ⟨y0, fun h => absurd h hlt⟩
    obtain ⟨f, hf⟩ := Classical.axiomOfChoice hex
    have hlen : ((List.range len).map f).length = len := by simp
    have hget : ∀ i, i < len → ((List.range len).map f).getD i y0 = f i := fun i hlt => by simp [hlt]
    refine ⟨some a, cap, (List.range len).map f, by rw [hlen], fun y hy => ?_, ⟨?_, fun h0 => ?_⟩, by rw [hlen]; exact hby⟩
    · obtain ⟨i, h1, rfl⟩ := List.mem_map.1 hy
      exact (hf i (by simpa using h1)).1
    · rw [hlen]; unfold maxLen at hm; omega
    · rw [hlen] at h0
      have h1 := (hf 0 h0).2 0 hk0
      simp only [Nat.zero_mul, Addr.add] at h1
      obtain ⟨b, off, sp⟩ := a
      have hsp : sp = none := by
        cases sp with
        | none => rfl
        | some s => simp [World.cell?] at h1; split at h1 <;> cases h1
      subst hsp
      refine ⟨b, off, rfl, World.block_lt_of_cell? w _ h1, fun i hi2 j hj => ?_⟩
      rw [hlen] at hi2
      show w.cell? _ = some (C (((List.range len).map f).getD i y0) j)
      rw [hget i hi2]
      have := (hf i hi2).2 j hj
      rwa [Addr.add_lit, Addr.add_lit] at this
theorem heavy_all {ts : List TypeId} {ds : List (DataW H)} (h : (DataW.weightsEach P (ts ++ []) (ds ++ [])).all (· ≤ reachBytes) = true) {j : Nat} {t : TypeId} {d : DataW H} (ht : ts[j]? = some t) (hd : ds[j]? = some d) : ∀ n ∈ d.weights P t, n ≤ reachBytes := by
  intro n hn
  rw [List.append_nil, List.append_nil] at h
  have := List.all_eq_true.1 h n (DataW.weights_mem_each ht hd n hn)
  simpa using this
end
end Go.Proofs.Ytogobjmmgjfjjaa
/- What is proved: what the form's reading of a plant, of acts, of literals says of the cells. Conditions: those that each lemma states. -/
namespace Go.Proofs.Ytogobjmmgjfjjaa
open Go.ChangeShapes Go.WideShapes Go.ChangeAt Go.RowKit

theorem Sl.congr {w : World} {B k n : Nat} {A : Option Addr} {f g : Nat → Nat → Value} (h : Sl w B k A n f) (hf : ∀ i, i < n → ∀ j, j < k → f i j = g i j) : Sl w B k A n g :=
  ⟨h.1, fun hn => by obtain ⟨b, off, e, h1, h2⟩ := h.2 hn; exact ⟨b, off, e, h1, fun i hi j hj => (h2 i hi j hj).trans (by rw [hf i hi j hj])⟩⟩
def structOf (P : Program) (t : TypeId) : Array Field := match P.underlying t with | some (.struct f) => f | _ => #[]
theorem cells_int : Try.prog.cellsOf 3 = 1 := by kernel_rfl
theorem cells_bool : Try.prog.cellsOf 4 = 1 := by kernel_rfl
theorem cells_string : Try.prog.cellsOf 9 = 1 := by kernel_rfl
theorem und_int : Try.prog.underlying 3 = some (.int .i64) := by kernel_rfl
theorem und_bool : Try.prog.underlying 4 = some .bool := by kernel_rfl
theorem und_string : Try.prog.underlying 9 = some .string := by kernel_rfl
theorem row_get {cs : List Value} {j : Nat} {v : Value} (h : (cs.drop j).take 1 = [v]) : cs[j]? = some v := by
  have := congrArg (·[0]?) h
  simpa [List.getElem?_take, List.getElem?_drop] using this
section
variable {H : Type} {enc : TypeId × Value → H} {w : World} {cs : List Value} {j : Nat}
theorem rwInt (h : RdW enc Try.prog w 3 ((cs.drop j).take (Try.prog.cellsOf 3))) : ∃ n, cs[j]? = some (.int .i64 n) ∧ -9223372036854775808 ≤ n ∧ n ≤ 9223372036854775807 := by
  rw [cells_int] at h
  obtain ⟨n, e, hw⟩ := h.rd.int und_int
  exact ⟨n, row_get e, (i64_bd hw).1, (i64_bd hw).2⟩
theorem rwBool (h : RdW enc Try.prog w 4 ((cs.drop j).take (Try.prog.cellsOf 4))) : ∃ n, cs[j]? = some (.bool n) := by
  rw [cells_bool] at h
  obtain ⟨n, e⟩ := h.rd.bool und_bool
  exact ⟨n, row_get e⟩
theorem rwString (h : RdW enc Try.prog w 9 ((cs.drop j).take (Try.prog.cellsOf 9))) : ∃ n, cs[j]? = some (.string n) := by
  rw [cells_string] at h
  obtain ⟨n, e, _⟩ := h.rd.string und_string
  exact ⟨n, row_get e⟩
theorem und_tankS : Try.prog.underlying 68 = some (.struct (structOf Try.prog 68)) := by kernel_rfl
theorem und_valveS : Try.prog.underlying 59 = some (.struct (structOf Try.prog 59)) := by kernel_rfl
theorem und_lineS : Try.prog.underlying 66 = some (.struct (structOf Try.prog 66)) := by kernel_rfl
theorem und_litS : Try.prog.underlying 51 = some (.struct (structOf Try.prog 51)) := by kernel_rfl
theorem und_plantS : Try.prog.underlying 33 = some (.struct (structOf Try.prog 33)) := by kernel_rfl
theorem rwTank (h : RdW enc Try.prog w 68 cs) : ∃ y : TankD, True ∧ ∀ j, j < 4 → cs[j]? = some (tankC y j) := by
  obtain ⟨_, h2⟩ := h.fields (l := [(9, 0), (3, 1), (3, 2), (3, 3)]) und_tankS (by kernel_rfl)
  obtain ⟨a, e0⟩ := rwString (h2 (9, 0) (by simp))
  obtain ⟨b, e1, _⟩ := rwInt (h2 (3, 1) (by simp))
  obtain ⟨c, e2, _⟩ := rwInt (h2 (3, 2) (by simp))
  obtain ⟨d, e3, _⟩ := rwInt (h2 (3, 3) (by simp))
  refine ⟨⟨a, b, c, d⟩, trivial, fun j hj => ?_⟩
  match j, hj with
  | 0, _ => exact e0
  | 1, _ => exact e1
  | 2, _ => exact e2
  | 3, _ => exact e3
theorem rwValve (h : RdW enc Try.prog w 59 cs) : ∃ y : ValveD, True ∧ ∀ j, j < 3 → cs[j]? = some (valveC y j) := by
  obtain ⟨_, h2⟩ := h.fields (l := [(9, 0), (3, 1), (4, 2)]) und_valveS (by kernel_rfl)
  obtain ⟨a, e0⟩ := rwString (h2 (9, 0) (by simp))
  obtain ⟨b, e1, _⟩ := rwInt (h2 (3, 1) (by simp))
  obtain ⟨c, e2⟩ := rwBool (h2 (4, 2) (by simp))
  refine ⟨⟨a, b, c⟩, trivial, fun j hj => ?_⟩
  match j, hj with
  | 0, _ => exact e0
  | 1, _ => exact e1
  | 2, _ => exact e2
theorem rwLit (h : RdW enc Try.prog w 51 cs) : ∃ y : LitD, True ∧ ∀ j, j < 2 → cs[j]? = some (litC y j) := by
  obtain ⟨_, h2⟩ := h.fields (l := [(3, 0), (4, 1)]) und_litS (by kernel_rfl)
  obtain ⟨b, e1, _⟩ := rwInt (h2 (3, 0) (by simp))
  obtain ⟨c, e2⟩ := rwBool (h2 (4, 1) (by simp))
  refine ⟨⟨b, c⟩, trivial, fun j hj => ?_⟩
  match j, hj with
  | 0, _ => exact e1
  | 1, _ => exact e2
theorem rwInts (h : RdW enc Try.prog w 62 cs) : ∃ (A : Option Addr) (c : Nat) (l : List Int), cs = [.slice A l.length c] ∧ IntsAt w w.heap.size A l ∧ (∀ n ∈ l, -9223372036854775808 ≤ n ∧ n ≤ 9223372036854775807) := by
  obtain ⟨A, c, l, e, hq, hs, _⟩ := h.list (fun (n : Int) _ => Value.int .i64 n) (fun n => -9223372036854775808 ≤ n ∧ n ≤ 9223372036854775807) 0 (e := 3) (by kernel_rfl) cells_int (by omega) (fun l hl hr => by
    obtain ⟨n, e, hw⟩ := hr.rd.int und_int
    refine ⟨n, i64_bd hw, fun j hj => ?_⟩
    obtain rfl : j = 0 := by omega
    rw [e]; rfl)
  exact ⟨A, c, l, e, hs, hq⟩
theorem rwLits (h : RdW enc Try.prog w 34 cs) : ∃ (A : Option Addr) (c : Nat) (l : List LitD), cs = [.slice A l.length c] ∧ LitsAt w w.heap.size A l := by
  obtain ⟨A, c, l, e, _, hs, _⟩ := h.list litC (fun _ => True) lit0 (e := 51) (by kernel_rfl) (k := 2) (by kernel_rfl) (by omega) (fun l _ hr => rwLit hr)
  exact ⟨A, c, l, e, hs⟩
def line1C (y : Option Addr × Nat × LineD) (j : Nat) : Value := lineC y.1 y.2.1 y.2.2 j
theorem rwLine (h : RdW enc Try.prog w 66 cs) : ∃ y : Option Addr × Nat × LineD, IntsAt w w.heap.size y.1 y.2.2.valves ∧ ∀ j, j < 5 → cs[j]? = some (line1C y j) := by
  obtain ⟨_, h2⟩ := h.fields (l := [(3, 0), (3, 1), (3, 2), (4, 3), (62, 4)]) und_lineS (by kernel_rfl)
  obtain ⟨a, e0, _⟩ := rwInt (h2 (3, 0) (by simp))
  obtain ⟨b, e1, _⟩ := rwInt (h2 (3, 1) (by simp))
  obtain ⟨c, e2, _⟩ := rwInt (h2 (3, 2) (by simp))
  obtain ⟨d, e3⟩ := rwBool (h2 (4, 3) (by simp))
  obtain ⟨A, n, l, e4, hl, _⟩ := rwInts (h2 (62, 4) (by simp))
  rw [show Try.prog.cellsOf 62 = 1 from by kernel_rfl] at e4
  refine ⟨⟨A, n, ⟨a, b, c, d, l⟩⟩, hl, fun j hj => ?_⟩
  match j, hj with
  | 0, _ => exact e0
  | 1, _ => exact e1
  | 2, _ => exact e2
  | 3, _ => exact e3
  | 4, _ => exact row_get e4
def never1C (y : Option Addr × Nat × List LitD) (_ : Nat) : Value := .slice y.1 y.2.2.length y.2.1
theorem map_getD {α β : Type} (l : List α) (f : α → β) (i : Nat) (a : α) (b : β) (hi : i < l.length) : (l.map f).getD i b = f (l.getD i a) := by
  rw [List.getD_eq_getElem?_getD, List.getD_eq_getElem?_getD]
  simp [hi]
theorem rwPlant (h : RdW enc Try.prog w 33 cs) : ∃ (x : PV) (p : PlantD), cs = (plantA x p).toList ∧ PlantAt w w.heap.size x p := by
  obtain ⟨hlen, h2⟩ := h.fields (l := [(28, 0), (29, 1), (30, 2), (31, 3)]) und_plantS (by kernel_rfl)
  rw [show Try.prog.cellsOf 33 = 4 from by kernel_rfl] at hlen
  obtain ⟨tA, tc, tl, e0, _, ht, hbt⟩ := (h2 (28, 0) (by simp)).list tankC (fun _ => True) tank0 (e := 68) (by kernel_rfl) (k := 4) (by kernel_rfl) (by omega) (fun l _ hr => rwTank hr)
  obtain ⟨vA, vc, vl, e1, _, hv, hbv⟩ := (h2 (29, 1) (by simp)).list valveC (fun _ => True) valve0 (e := 59) (by kernel_rfl) (k := 3) (by kernel_rfl) (by omega) (fun l _ hr => rwValve hr)
  obtain ⟨lA, lc, ll, e2, hql, hl, _⟩ := (h2 (30, 2) (by simp)).list line1C (fun y => IntsAt w w.heap.size y.1 y.2.2.valves) (none, 0, line0) (e := 66) (by kernel_rfl) (k := 5) (by kernel_rfl) (by omega) (fun l _ hr => rwLine hr)
  obtain ⟨nA, nc, nl, e3, hqn, hn, _⟩ := (h2 (31, 3) (by simp)).list never1C (fun y => LitsAt w w.heap.size y.1 y.2.2) (none, 0, []) (e := 34) (by kernel_rfl) (k := 1) (by kernel_rfl) (by omega) (fun l _ hr => by
    obtain ⟨A, c, l', e, hs⟩ := rwLits hr
    refine ⟨(A, c, l'), hs, fun j hj => ?_⟩
    obtain rfl : j = 0 := by omega
    rw [e]; rfl)
  rw [show Try.prog.cellsOf 28 = 1 from by kernel_rfl] at e0
  rw [show Try.prog.cellsOf 29 = 1 from by kernel_rfl] at e1
  rw [show Try.prog.cellsOf 30 = 1 from by kernel_rfl] at e2
  rw [show Try.prog.cellsOf 31 = 1 from by kernel_rfl] at e3
  refine ⟨⟨tA, tc, vA, vc, lA, lc, nA, nc, fun i => (ll.getD i (none, 0, line0)).1, fun i => (ll.getD i (none, 0, line0)).2.1, fun i => (nl.getD i (none, 0, [])).1, fun i => (nl.getD i (none, 0, [])).2.1⟩,
    ⟨tl, vl, ll.map (·.2.2), nl.map (·.2.2)⟩, ?_, ?_⟩
  · apply List.ext_getElem?
    intro j
    simp only [plantA, List.length_map]
    match j with
    | 0 => exact row_get e0
    | 1 => exact row_get e1
    | 2 => exact row_get e2
    | 3 => exact row_get e3
    | j + 4 => rw [List.getElem?_eq_none (by omega), List.getElem?_eq_none (by simp)]
  · refine ⟨ht, hv, ?_, fun i hi => ?_, ?_, fun i hi => ?_, ?_⟩
    · rw [List.length_map]
      refine Sl.congr hl fun i hi j hj => ?_
      show line1C _ j = lineC _ _ (PlantD.line _ i) j
      unfold PlantD.line line1C
      rw [map_getD ll (·.2.2) i (none, 0, line0) line0 hi]
    · simp only [List.length_map] at hi
      unfold PlantD.line
      rw [map_getD ll (·.2.2) i (none, 0, line0) line0 hi]
      refine hql _ ?_
      rw [List.getD_eq_getElem?_getD, List.getElem?_eq_getElem hi]; exact List.getElem_mem hi
    · rw [List.length_map]
      refine Sl.congr hn fun i hi j hj => ?_
      show never1C _ j = _
      unfold never1C PlantD.nev
      rw [map_getD nl (·.2.2) i (none, 0, []) [] hi]
    · simp only [List.length_map] at hi
      unfold PlantD.nev
      rw [map_getD nl (·.2.2) i (none, 0, []) [] hi]
      refine hqn _ ?_
      rw [List.getD_eq_getElem?_getD, List.getElem?_eq_getElem hi]; exact List.getElem_mem hi
    · rw [show Try.prog.bytesOf 68 = 40 from by kernel_rfl] at hbt
      rw [show Try.prog.bytesOf 59 = 32 from by kernel_rfl] at hbv
      have := reachBytes_lt
      simp only [show (2:Nat)^47 = 140737488355328 from rfl] at this
      show tl.length * 16 ≤ _ ∧ vl.length * 16 ≤ _
      constructor <;> omega
end
end Go.Proofs.Ytogobjmmgjfjjaa
/- What is proved: the shapes of a law's arguments. Conditions: those that each lemma states. -/
namespace Go.Proofs.Ytogobjmmgjfjjaa
open Go.ChangeShapes Go.WideShapes Go.ChangeAt Go.RowKit
theorem ownKnobL : ownKnob Try.prog.godebug = none := by kernel_rfl
section
variable {H : Type} {enc : TypeId × Value → H} {P : Program} {w : World} {t e : TypeId} {base : Nat} {v : Value}
theorem okWide_str {fs : Array Field} (hu : P.underlying t = some (.struct fs)) (h : Value.okWide P w .any base t v) : ∃ cs, v = .agg cs := by
  simp only [Value.okWide, hu] at h
  obtain ⟨cs, rfl, _⟩ := h
  exact ⟨cs, rfl⟩
theorem okWide_sl (hu : P.underlying t = some (.slice e)) (h : Value.okWide P w .any base t v) (u : Value) (hc : v.cells.toList = [u]) : v = u := by
  simp only [Value.okWide, hu, Cell.okWide] at h
  cases v <;> simp [Value.cells] at hc <;> first | exact hc | (simp [Cell.ok, hu] at h)
end
theorem und_actS : Try.prog.underlying 49 = some (.struct (structOf Try.prog 49)) := by kernel_rfl
theorem rwFour {H : Type} {enc : TypeId × Value → H} {w : World} {t : TypeId} {cs : List Value} (h : RdW enc Try.prog w t cs) (hu : Try.prog.underlying t = some (.struct (structOf Try.prog t)))
    (hl : (structOf Try.prog t).toList.map (fun f => (f.type, f.offset)) = [(3, 0), (3, 1), (3, 2), (3, 3)]) :
    cs.length = Try.prog.cellsOf t ∧ ∃ a b c d : Int, cs[0]? = some (.int .i64 a) ∧ cs[1]? = some (.int .i64 b) ∧ cs[2]? = some (.int .i64 c) ∧ cs[3]? = some (.int .i64 d) := by
  obtain ⟨h1, h2⟩ := h.fields hu hl
  obtain ⟨a, e0, _⟩ := rwInt (h2 (3, 0) (by simp))
  obtain ⟨b, e1, _⟩ := rwInt (h2 (3, 1) (by simp))
  obtain ⟨c, e2, _⟩ := rwInt (h2 (3, 2) (by simp))
  obtain ⟨d, e3, _⟩ := rwInt (h2 (3, 3) (by simp))
  exact ⟨h1, a, b, c, d, e0, e1, e2, e3⟩
structure ActD where
  what : Int
  a : Int
  b : Int
  c : Int
def act0 : ActD := ⟨0, 0, 0, 0⟩
def actC (x : ActD) : Nat → Value
  | 0 => .int .i64 x.what
  | 1 => .int .i64 x.a
  | 2 => .int .i64 x.b
  | _ => .int .i64 x.c
def ActsAt (w : World) (B : Nat) (A : Option Addr) (l : List ActD) : Prop := Sl w B 4 A l.length fun i => actC (l.getD i act0)
theorem rwActs {H : Type} {enc : TypeId × Value → H} {w : World} {cs : List Value} (h : RdW enc Try.prog w 35 cs) : ∃ (A : Option Addr) (c : Nat) (l : List ActD), cs = [.slice A l.length c] ∧ ActsAt w w.heap.size A l := by
  obtain ⟨A, c, l, e, _, hs, _⟩ := h.list actC (fun _ => True) act0 (e := 49) (by kernel_rfl) (k := 4) (by kernel_rfl) (by omega) (fun l _ hr => by
    obtain ⟨_, a, b, c, d, e0, e1, e2, e3⟩ := rwFour hr und_actS (by kernel_rfl)
    refine ⟨⟨a, b, c, d⟩, trivial, fun j hj => ?_⟩
    match j, hj with
    | 0, _ => exact e0
    | 1, _ => exact e1
    | 2, _ => exact e2
    | 3, _ => exact e3)
  exact ⟨A, c, l, e, hs⟩
set_option maxRecDepth 100000 in
theorem arg_plant {H : Type} {enc : TypeId × Value → H} {w : World} {base : Nat} {v : Value} (ho : Value.okWide Try.prog w .any base 33 v) (h : RdW enc Try.prog w 33 v.cells.toList) :
    ∃ (x : PV) (p : PlantD), v = .agg (plantA x p) ∧ PlantAt w w.heap.size x p := by
  obtain ⟨cs, rfl⟩ := okWide_str (P := Try.prog) (t := 33) und_plantS ho
  obtain ⟨x, p, e, hp⟩ := rwPlant h
  exact ⟨x, p, congrArg Value.agg (Array.toList_inj.1 (show cs.toList = _ from e)), hp⟩
set_option maxRecDepth 100000 in
theorem arg_acts {H : Type} {enc : TypeId × Value → H} {w : World} {base : Nat} {v : Value} (ho : Value.okWide Try.prog w .any base 35 v) (h : RdW enc Try.prog w 35 v.cells.toList) :
    ∃ (A : Option Addr) (c : Nat) (l : List ActD), v = .slice A l.length c ∧ ActsAt w w.heap.size A l := by
  obtain ⟨A, c, l, e, hs⟩ := rwActs h
  exact ⟨A, c, l, okWide_sl (P := Try.prog) (t := 35) (e := 49) (by kernel_rfl) ho _ e, hs⟩
set_option maxRecDepth 100000 in
theorem arg_lits {H : Type} {enc : TypeId × Value → H} {w : World} {base : Nat} {v : Value} (ho : Value.okWide Try.prog w .any base 34 v) (h : RdW enc Try.prog w 34 v.cells.toList) :
    ∃ (A : Option Addr) (c : Nat) (l : List LitD), v = .slice A l.length c ∧ LitsAt w w.heap.size A l := by
  obtain ⟨A, c, l, e, hs⟩ := rwLits h
  exact ⟨A, c, l, okWide_sl (P := Try.prog) (t := 34) (e := 51) (by kernel_rfl) ho _ e, hs⟩
end Go.Proofs.Ytogobjmmgjfjjaa
