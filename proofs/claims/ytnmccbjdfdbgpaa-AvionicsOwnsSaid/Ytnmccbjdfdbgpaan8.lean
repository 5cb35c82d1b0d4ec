/- What is proved: the texts Rd Rw Ba, one behind the other; each says at its head what it proves, and under which conditions. -/
import Derived.Test.YtnmccbjdfdbgpaaRows
import Derived.ProofKit
import Derived.OpenShut
import Derived.JoinedOf
import Derived.JoinedCond
import Derived.SizedLaws
import Derived.ChangeSame
import Derived.Carry
import Derived.Test.Ytnmccbjdfdbgpaan7
/- What is proved: what the form's reading of data says of the cells, type by type; and the last step of a law that only makes memory. Conditions: those that each lemma states. -/
namespace Go.Proofs.Ytnmccbjdfdbgpaa
open Go.ChangeShapes Go.WideShapes Go.ChangeAt Go.RowKit

section
variable {H : Type} {enc : TypeId × Value → H} {P : Program} {w : World} {t e : TypeId} {cs : List Value}
/-- The cells cs read as a value of type t. -/
def Rd (enc : TypeId × Value → H) (P : Program) (w : World) (t : TypeId) (cs : List Value) : Prop := ∃ fuel x, DataW.trod enc P w 0 (fun _ => true) true fuel t cs = some x
theorem Rd.of_trod {v : Value} {d : DataW H} {ps : List MemPlace} (h : DataW.Trod enc P w 0 (fun _ => true) true t v d ps) : Rd enc P w t v.cells.toList := by
  obtain ⟨n, hn⟩ := h
  exact ⟨n, _, hn⟩
theorem Rd.int {k : IntKind} (h : Rd enc P w t cs) (ht : P.underlying t = some (.int k)) : ∃ n, cs = [.int k n] ∧ (Lit.int k n).wf = true := by
  obtain ⟨fuel, x, h⟩ := h
  cases fuel with
  | zero => simp [DataW.trod] at h
  | succ m =>
    unfold DataW.trod at h
    rw [ht] at h
    split at h <;> simp_all
theorem Rd.bool (h : Rd enc P w t cs) (ht : P.underlying t = some .bool) : ∃ b, cs = [.bool b] := by
  obtain ⟨fuel, x, h⟩ := h
  cases fuel with
  | zero => simp [DataW.trod] at h
  | succ m =>
    unfold DataW.trod at h
    rw [ht] at h
    split at h <;> simp_all
theorem Rd.string (h : Rd enc P w t cs) (ht : P.underlying t = some .string) : ∃ s, cs = [.string s] ∧ s.size ≤ maxLen := by
  obtain ⟨fuel, x, h⟩ := h
  cases fuel with
  | zero => simp [DataW.trod] at h
  | succ m =>
    unfold DataW.trod at h
    rw [ht] at h
    split at h <;> simp_all
theorem Rd.struct {fs : Array Field} (h : Rd enc P w t cs) (ht : P.underlying t = some (.struct fs)) : cs.length = P.cellsOf t ∧ ∀ f ∈ fs.toList, Rd enc P w f.type ((cs.drop f.offset).take (P.cellsOf f.type)) := by
  obtain ⟨fuel, x, h⟩ := h
  cases fuel with
  | zero => simp [DataW.trod] at h
  | succ m =>
    unfold DataW.trod at h
    rw [ht] at h
    split at h <;> simp_all
    obtain ⟨hl, xs, hp, _⟩ := h
    refine fun f hf => ?_
    obtain ⟨i, hi⟩ := List.getElem?_of_mem (Array.mem_toList_iff.2 hf)
    have hg := mapM_some_get hp i f hi
    have hlen := mapM_some_length hp
    have : i < xs.length := by rw [hlen]; exact (List.getElem?_eq_some_iff.1 hi).1
    exact ⟨m, xs[i], by rw [hg]; exact List.getElem?_eq_getElem this⟩
theorem Rd.fields {fs : Array Field} {l : List (TypeId × Nat)} (h : Rd enc P w t cs) (ht : P.underlying t = some (.struct fs)) (hl : fs.toList.map (fun f => (f.type, f.offset)) = l) :
    cs.length = P.cellsOf t ∧ ∀ q ∈ l, Rd enc P w q.1 ((cs.drop q.2).take (P.cellsOf q.1)) := by
  obtain ⟨h1, h2⟩ := h.struct ht
  refine ⟨h1, fun q hq => ?_⟩
  rw [← hl] at hq
  obtain ⟨f, hf, rfl⟩ := List.mem_map.1 hq
  exact h2 f hf
theorem Rd.array {n : Nat} (h : Rd enc P w t cs) (ht : P.underlying t = some (.array n e)) : cs.length = P.cellsOf t ∧ ∀ i, i < n → Rd enc P w e ((cs.drop (i * P.cellsOf e)).take (P.cellsOf e)) := by
  obtain ⟨fuel, x, h⟩ := h
  obtain ⟨xs, m, _, _, h1, h2, h3⟩ := DataW.trod_array ht h
  refine ⟨h1, fun i hi => ?_⟩
  exact ⟨m, xs[i]'(by omega), by rw [h3 i hi]; exact List.getElem?_eq_getElem _⟩
theorem cells_get {base n : Nat} {a : Addr} {l : List Value} (h : w.cells? base a n = some l) : l.length = n ∧ ∀ j, j < n → w.cell? (a.add j) = l[j]? := by
  unfold World.cells? at h
  split at h
  · exact ⟨by simpa using mapM_some_length h, fun j hj => mapM_some_get h j j (by simp [hj])⟩
  · cases h
theorem Rd.slice (h : Rd enc P w t cs) (ht : P.underlying t = some (.slice e)) :
    cs = [.slice none 0 0] ∨ ∃ a len cap, cs = [.slice (some a) len cap] ∧ len ≤ maxLen ∧ ∀ i, i < len → ∃ l, w.cells? 0 (a.add (i * P.cellsOf e)) (P.cellsOf e) = some l ∧ Rd enc P w e l := by
  obtain ⟨fuel, x, h⟩ := h
  cases fuel with
  | zero => simp [DataW.trod] at h
  | succ m =>
    unfold DataW.trod at h
    rw [ht] at h
    split at h <;> simp_all
    rename_i a len cap _
    obtain ⟨⟨h1, h2⟩, h3⟩ := h
    refine ⟨a, len, ⟨rfl, rfl⟩, by omega, fun i hi => ?_⟩
    obtain ⟨elems, he, _⟩ := Option.bind_eq_some_iff.1 h3
    have hg := mapM_some_get he i i (by simp [hi])
    have hlen := mapM_some_length he
    have hi2 : i < elems.length := by rw [hlen]; simpa using hi
    rw [List.getElem?_eq_getElem hi2] at hg
    obtain ⟨l, hl, hr⟩ := Option.bind_eq_some_iff.1 hg
    exact ⟨l, hl, m, _, hr⟩
/-- A slice, each of whose rows of k cells is some y. -/
theorem Rd.list {Y : Type} (C : Y → Nat → Value) (Q : Y → Prop) (y0 : Y) {k : Nat} (h : Rd enc P w t cs) (ht : P.underlying t = some (.slice e)) (hk : P.cellsOf e = k) (hk0 : 0 < k)
    (hrow : ∀ l, l.length = k → Rd enc P w e l → ∃ y, Q y ∧ ∀ j, j < k → l[j]? = some (C y j)) :
    ∃ (A : Option Addr) (c : Nat) (l : List Y), cs = [.slice A l.length c] ∧ (∀ y ∈ l, Q y) ∧ Sl w w.heap.size k A l.length fun i => C (l.getD i y0) := by
  rcases h.slice ht with rfl | ⟨a, len, cap, rfl, hm, hi⟩
  · exact ⟨none, 0, [], rfl, fun y hy => by simp at hy, Sl.nil _ _ _ _ _⟩
  · rw [hk] at hi
    have hex : ∀ i, ∃ y, i < len → Q y ∧ ∀ j, j < k → w.cell? ((a.add (i * k)).add j) = some (C y j) := fun i => by
      by_cases hlt : i < len
      · obtain ⟨l, hl, hr⟩ := hi i hlt
        obtain ⟨h1, h2⟩ := cells_get hl
        obtain ⟨y, hq, hy⟩ := hrow l h1 hr
        exact ⟨y, fun _ => ⟨hq, fun j hj => (h2 j hj).trans (hy j hj)⟩⟩
      · exact ⟨y0, fun h => absurd h hlt⟩
    obtain ⟨f, hf⟩ := Classical.axiomOfChoice hex
    have hlen : ((List.range len).map f).length = len := by simp
    have hget : ∀ i, i < len → ((List.range len).map f).getD i y0 = f i := fun i hlt => by simp [hlt]
    refine ⟨some a, cap, (List.range len).map f, by rw [hlen], fun y hy => ?_, ?_, fun h0 => ?_⟩
    · obtain ⟨i, h1, rfl⟩ := List.mem_map.1 hy
      exact (hf i (by simpa using h1)).1
    · rw [hlen]; unfold maxLen at hm; omega
    · rw [hlen] at h0
      have h1 := (hf 0 h0).2 0 hk0
      simp only [Nat.zero_mul, Addr.add] at h1
      obtain ⟨b, off, sp⟩ := a
      have hsp : sp = none := by
        cases sp with
        | none => rfl
        | some s => simp [World.cell?] at h1; split at h1 <;> cases h1
      subst hsp
      refine ⟨b, off, rfl, World.block_lt_of_cell? w _ h1, fun i hi2 j hj => ?_⟩
      rw [hlen] at hi2
      show w.cell? _ = some (C (((List.range len).map f).getD i y0) j)
      rw [hget i hi2]
      have := (hf i hi2).2 j hj
      rwa [Addr.add_lit, Addr.add_lit] at this
theorem okWide_arr {n base : Nat} {v : Value} (hu : P.underlying t = some (.array n e)) (h : Value.okWide P w .any base t v) : ∃ cs, v = .agg cs := by
  simp only [Value.okWide, hu] at h
  cases v <;> simp at h
  exact ⟨_, rfl⟩
theorem i64_bd {n : Int} (h : (Lit.int .i64 n).wf = true) : -9223372036854775808 ≤ n ∧ n ≤ 9223372036854775807 := by
  simpa [Lit.wf, IntKind.min, IntKind.max, IntKind.signed, IntKind.bits] using h

/-! The last step. -/
theorem trodAll_stays (hl : laidOutB P = true) {W W' : World} {base : Nat} {sp : Nat → Bool} : ∀ (ts : List TypeId) {vs : List Value} {ds : List (DataW H)} {ps : List MemPlace}, (∀ t ∈ ts, P.readableRec t = true ∧ t < P.types.size) →
    DataW.TrodAll enc P W base (fun _ => true) true ts vs ds ps → (∀ p ∈ ps, W.sameAt W' p) → (∀ p ∈ ps, sp p.block = true) → DataW.TrodAll enc P W' base sp true ts vs ds ps
  | [], vs, ds, ps, _, h, _, _ => by
    cases vs <;> cases ds <;> simp_all [DataW.TrodAll]
  | t :: ts, vs, ds, ps, ht, h, hs, hsp => by
    obtain ⟨v, vs', d, ds', p, q, rfl, rfl, rfl, h1, h2⟩ := trodAll_cons h
    exact trodAll_cons_mk (WideElems.Trod_stays hl (ht t (List.mem_cons_self ..)).1 (ht t (List.mem_cons_self ..)).2 h1 (fun x hx => hs x (List.mem_append_left _ hx)) (fun x hx => hsp x (List.mem_append_left _ hx)))
      (trodAll_stays hl ts (fun t' h' => ht t' (List.mem_cons_of_mem _ h')) h2 (fun x hx => hs x (List.mem_append_right _ hx)) (fun x hx => hsp x (List.mem_append_right _ hx)))
theorem law_post {f : Func} {s : ChangeSpec} {bt : TypeId} {W W' : World} {args : Array Value} {ds gs : List (DataW H)} {before : List MemPlace}
    (hl : laidOutB P = true) (hps : ∀ t ∈ f.params.toList, P.readableRec t = true ∧ t < P.types.size) (hrt : f.resultTypes = #[bt]) (hbt : P.underlying bt = some .bool) (hv : s.vars = [])
    (hW : DataW.Whole enc P f.params.toList s.vars false W args.toList ds gs before) (hres : (s.fn H (ds ++ gs)).results = [.lit (.bool true)]) (hargs : (s.fn H (ds ++ gs)).args = ds) (hvars : (s.fn H (ds ++ gs)).vars = [])
    (hb : Below W.heap.size W W') : s.post enc P f false true false false W args (.bool true) W' := by
  have hW' := hW
  have hlt : ∀ p ∈ before, p.block < W.heap.size := fun p hp => hW.lt p hp
  have hold : ∀ p ∈ before, (fun b => decide (b < W.heap.size)) p.block = true := fun p hp => by simpa using hlt p hp
  obtain ⟨p, q, hA, hV, rfl, hz, hn⟩ := hW
  rw [hv] at hV
  obtain ⟨rfl, rfl⟩ := trodVars_none hV
  have hr : ∀ (b : Nat) (sp : Nat → Bool) (hd : Bool), DataW.TrodAll enc P W' b sp hd f.resultTypes.toList ((Value.bool true).resultList f.resultTypes.size) (s.fn H (ds ++ [])).results [] := fun b sp hd => by
    rw [hrt, hres]; exact trodAll_mk1 (shut_bool hbt _)
  have ha : ∀ sp : Nat → Bool, (∀ x ∈ p, sp x.block = true) → DataW.TrodAll enc P W' 0 sp true f.params.toList args.toList (s.fn H (ds ++ [])).args p := fun sp hsp => by
    rw [hargs]; exact trodAll_stays hl _ hps hA (fun x hx => hb.same (hlt x (List.mem_append_left _ hx))) hsp
  have hvs : ∀ sp : Nat → Bool, DataW.TrodVars enc P W' sp s.vars (s.fn H (ds ++ [])).vars [] := fun sp => by rw [hv, hvars]; rfl
  refine ⟨ds, [], p ++ [], [], p, [], hW', hr _ _ _, ha _ (fun x hx => hold x (List.mem_append_left _ hx)), hvs _, World.keptBut_mono (fun x hx => ⟨hx, ?_⟩) (hb.frame (· ∈ p ++ [])), fun _ => ?_⟩
  · exact Or.inr (List.mem_append.1 hx)
  · refine ⟨?_, _, _, ([] ++ p) ++ [], ⟨[] ++ p, [], trodAll_append (ha _ (fun _ _ => rfl)) (hr _ _ _), hvs _, rfl, ?_, ?_⟩, ?_⟩
    · exact ok_one hrt rfl (okWide_bool_mk hbt _)
    · intro b off hp
      have hin : MemPlace.cell b off ∈ p ++ [] := by simpa using hp
      rw [hb.frozen (hlt _ hin)]
      exact hz b off hin
    · intro ha; cases ha
    · intro x hx _
      simpa using hx
end
end Go.Proofs.Ytnmccbjdfdbgpaa
/- What is proved: what the form's reading of data says of the cells, with the form's reach: how long lists are. Conditions: those that each lemma states. -/
namespace Go.Proofs.Ytnmccbjdfdbgpaa
open Go.ChangeShapes Go.WideShapes Go.ChangeAt Go.RowKit

section
variable {H : Type} {enc : TypeId × Value → H} {P : Program} {w : World} {t e : TypeId} {cs : List Value}
/-- The cells cs read as a value of type t, within the reach. -/
def RdW (enc : TypeId × Value → H) (P : Program) (w : World) (t : TypeId) (cs : List Value) : Prop :=
  ∃ fuel d ps, DataW.trod enc P w 0 (fun _ => true) true fuel t cs = some (d, ps) ∧ ∀ n ∈ d.weights P t, n ≤ reachBytes
theorem RdW.rd (h : RdW enc P w t cs) : Rd enc P w t cs := by
  obtain ⟨fuel, d, ps, h, _⟩ := h
  exact ⟨fuel, _, h⟩
theorem RdW.of_trod {v : Value} {d : DataW H} {ps : List MemPlace} (h : DataW.Trod enc P w 0 (fun _ => true) true t v d ps) (hw : ∀ n ∈ d.weights P t, n ≤ reachBytes) : RdW enc P w t v.cells.toList := by
  obtain ⟨n, hn⟩ := h
  exact ⟨n, _, _, hn, hw⟩
theorem RdW.fields {fs : Array Field} {l : List (TypeId × Nat)} (h : RdW enc P w t cs) (ht : P.underlying t = some (.struct fs)) (hl : fs.toList.map (fun f => (f.type, f.offset)) = l) :
    cs.length = P.cellsOf t ∧ ∀ q ∈ l, RdW enc P w q.1 ((cs.drop q.2).take (P.cellsOf q.1)) := by
  obtain ⟨fuel, d, ps, h, hw⟩ := h
  cases fuel with
  | zero => simp [DataW.trod] at h
  | succ m =>
    unfold DataW.trod at h
    rw [ht] at h
    split at h <;> simp_all
    obtain ⟨hlen, xs, hp, hd, _⟩ := h
    subst hd
    subst hl
    intro a b hab
    obtain ⟨f, hf, hfe⟩ := List.mem_map.1 hab
    simp only [Prod.mk.injEq] at hfe
    obtain ⟨rfl, rfl⟩ := hfe
    obtain ⟨i, hi⟩ := List.getElem?_of_mem hf
    have hg := mapM_some_get hp i f hi
    have hlen2 := mapM_some_length hp
    have hi2 : i < xs.length := by rw [hlen2]; exact (List.getElem?_eq_some_iff.1 hi).1
    rw [List.getElem?_eq_getElem hi2] at hg
    refine ⟨m, xs[i].1, xs[i].2, hg, fun n hn => hw n ?_⟩
    simp only [DataW.weights, ht]
    exact DataW.weights_mem_each (j := i) (t := f.type) (d := xs[i].1) (by simp [hi]) (by simp [List.getElem?_eq_getElem hi2]) n hn
theorem weights_mem_all : ∀ {ds : List (DataW H)} {j : Nat} {d : DataW H}, ds[j]? = some d → ∀ n ∈ d.weights P e, n ∈ DataW.weightsAll P e ds
  | d0 :: ds, 0, d, hd, n, hn => by
    simp only [List.getElem?_cons_zero, Option.some.injEq] at hd
    subst hd
    simp only [DataW.weightsAll, List.mem_append]
    exact Or.inl hn
  | d0 :: ds, j + 1, d, hd, n, hn => by
    simp only [List.getElem?_cons_succ] at hd
    simp only [DataW.weightsAll, List.mem_append]
    exact Or.inr (weights_mem_all hd n hn)
  | [], _, _, hd, _, _ => by simp at hd
theorem RdW.slice (h : RdW enc P w t cs) (ht : P.underlying t = some (.slice e)) :
    cs = [.slice none 0 0] ∨ ∃ a len cap, cs = [.slice (some a) len cap] ∧ len ≤ maxLen ∧ len * P.bytesOf e ≤ reachBytes ∧ ∀ i, i < len → ∃ l, w.cells? 0 (a.add (i * P.cellsOf e)) (P.cellsOf e) = some l ∧ RdW enc P w e l := by
  obtain ⟨fuel, d, ps, h, hw⟩ := h
  cases fuel with
  | zero => simp [DataW.trod] at h
  | succ m =>
    unfold DataW.trod at h
    rw [ht] at h
    split at h <;> simp_all
    rename_i a len cap _
    obtain ⟨⟨h1, h2⟩, h3⟩ := h
    obtain ⟨elems, he, h4⟩ := Option.bind_eq_some_iff.1 h3
    obtain ⟨rest, hr, h5⟩ := Option.map_eq_some_iff.1 h4
    simp only [Prod.mk.injEq] at h5
    obtain ⟨rfl, _⟩ := h5
    have hlen := mapM_some_length he
    simp only [List.length_range] at hlen
    simp only [DataW.weights, ht, List.length_map] at hw
    have hb := hw _ (List.mem_cons_self ..)
    rw [hlen] at hb
    refine ⟨a, len, ⟨rfl, rfl⟩, by omega, Nat.le_trans (Nat.mul_le_mul_right _ (Nat.le_add_right _ _)) hb, fun i hi => ?_⟩
    have hg := mapM_some_get he i i (by simp [hi])
    have hi2 : i < elems.length := by omega
    rw [List.getElem?_eq_getElem hi2] at hg
    obtain ⟨l, hl, hr⟩ := Option.bind_eq_some_iff.1 hg
    refine ⟨l, hl, m, elems[i].1, elems[i].2, hr, fun n hn => hw n ?_⟩
    refine List.mem_cons_of_mem _ (List.mem_append_left _ (weights_mem_all (j := i) (d := elems[i].1) ?_ n hn))
    simp [List.getElem?_eq_getElem hi2]
/-- A slice, each of whose rows of k cells is some y. -/
theorem RdW.list {Y : Type} (C : Y → Nat → Value) (Q : Y → Prop) (y0 : Y) {k : Nat} (h : RdW enc P w t cs) (ht : P.underlying t = some (.slice e)) (hk : P.cellsOf e = k) (hk0 : 0 < k)
    (hrow : ∀ l, l.length = k → RdW enc P w e l → ∃ y, Q y ∧ ∀ j, j < k → l[j]? = some (C y j)) :
    ∃ (A : Option Addr) (c : Nat) (l : List Y), cs = [.slice A l.length c] ∧ (∀ y ∈ l, Q y) ∧ Sl w w.heap.size k A l.length (fun i => C (l.getD i y0)) ∧ l.length * P.bytesOf e ≤ reachBytes := by
  rcases h.slice ht with rfl | ⟨a, len, cap, rfl, hm, hby, hi⟩
  · exact ⟨none, 0, [], rfl, fun y hy => by simp at hy, Sl.nil _ _ _ _ _, by simp⟩
  · rw [hk] at hi
    have hex : ∀ i, ∃ y, i < len → Q y ∧ ∀ j, j < k → w.cell? ((a.add (i * k)).add j) = some (C y j) := fun i => by
      by_cases hlt : i < len
      · obtain ⟨l, hl, hr⟩ := hi i hlt
        obtain ⟨h1, h2⟩ := cells_get hl
        obtain ⟨y, hq, hy⟩ := hrow l h1 hr
        exact ⟨y, fun _ => ⟨hq, fun j hj => (h2 j hj).trans (hy j hj)⟩⟩
      · exact ⟨y0, fun h => absurd h hlt⟩
    obtain ⟨f, hf⟩ := Classical.axiomOfChoice hex
    have hlen : ((List.range len).map f).length = len := by simp
    have hget : ∀ i, i < len → ((List.range len).map f).getD i y0 = f i := fun i hlt => by simp [hlt]
    refine ⟨some a, cap, (List.range len).map f, by rw [hlen], fun y hy => ?_, ⟨?_, fun h0 => ?_⟩, by rw [hlen]; exact hby⟩
    · obtain ⟨i, h1, rfl⟩ := List.mem_map.1 hy
      exact (hf i (by simpa using h1)).1
    · rw [hlen]; unfold maxLen at hm; omega
    · rw [hlen] at h0
      have h1 := (hf 0 h0).2 0 hk0
      simp only [Nat.zero_mul, Addr.add] at h1
      obtain ⟨b, off, sp⟩ := a
      have hsp : sp = none := by
        cases sp with
        | none => rfl
        | some s => simp [World.cell?] at h1; split at h1 <;> cases h1
      subst hsp
      refine ⟨b, off, rfl, World.block_lt_of_cell? w _ h1, fun i hi2 j hj => ?_⟩
      rw [hlen] at hi2
      show w.cell? _ = some (C (((List.range len).map f).getD i y0) j)
      rw [hget i hi2]
      have := (hf i hi2).2 j hj
      rwa [Addr.add_lit, Addr.add_lit] at this
theorem heavy_all {ts : List TypeId} {ds : List (DataW H)} (h : (DataW.weightsEach P (ts ++ []) (ds ++ [])).all (· ≤ reachBytes) = true) {j : Nat} {t : TypeId} {d : DataW H} (ht : ts[j]? = some t) (hd : ds[j]? = some d) : ∀ n ∈ d.weights P t, n ≤ reachBytes := by
  intro n hn
  rw [List.append_nil, List.append_nil] at h
  have := List.all_eq_true.1 h n (DataW.weights_mem_each ht hd n hn)
  simpa using this
end
end Go.Proofs.Ytnmccbjdfdbgpaa
/- What is proved: what the form's reading of a law's arguments says of the cells. Conditions: those that each lemma states. -/
namespace Go.Proofs.Ytnmccbjdfdbgpaa
open Go.ChangeShapes Go.WideShapes Go.ChangeAt Go.RowKit

theorem Sl.congr {w : World} {B k n : Nat} {A : Option Addr} {f g : Nat → Nat → Value} (h : Sl w B k A n f) (hf : ∀ i, i < n → ∀ j, j < k → f i j = g i j) : Sl w B k A n g :=
  ⟨h.1, fun hn => by obtain ⟨b, off, e, h1, h2⟩ := h.2 hn; exact ⟨b, off, e, h1, fun i hi j hj => (h2 i hi j hj).trans (by rw [hf i hi j hj])⟩⟩
def structOf (P : Program) (t : TypeId) : Array Field := match P.underlying t with | some (.struct f) => f | _ => #[]
theorem cells_int : Try.prog.cellsOf 3 = 1 := by kernel_rfl
theorem cells_bool : Try.prog.cellsOf 4 = 1 := by kernel_rfl
theorem cells_string : Try.prog.cellsOf 9 = 1 := by kernel_rfl
theorem und_int : Try.prog.underlying 3 = some (.int .i64) := by kernel_rfl
theorem und_bool : Try.prog.underlying 4 = some .bool := by kernel_rfl
theorem und_string : Try.prog.underlying 9 = some .string := by kernel_rfl
theorem row_get {cs : List Value} {j : Nat} {v : Value} (h : (cs.drop j).take 1 = [v]) : cs[j]? = some v := by
  have := congrArg (·[0]?) h
  simpa [List.getElem?_take, List.getElem?_drop] using this
theorem row_sub {cs l : List Value} {j k : Nat} (h : (cs.drop j).take k = l) {i : Nat} (hi : i < k) : cs[j + i]? = l[i]? := by
  rw [← h]; simp [hi]
def Wd (n : Int) : Prop := -9223372036854775808 ≤ n ∧ n ≤ 9223372036854775807
section
variable {H : Type} {enc : TypeId × Value → H} {w : World} {cs : List Value} {j : Nat}
theorem rwInt (h : RdW enc Try.prog w 3 ((cs.drop j).take (Try.prog.cellsOf 3))) : ∃ n, cs[j]? = some (.int .i64 n) ∧ Wd n := by
  rw [cells_int] at h
  obtain ⟨n, e, hw⟩ := h.rd.int und_int
  exact ⟨n, row_get e, i64_bd hw⟩
theorem rwBool (h : RdW enc Try.prog w 4 ((cs.drop j).take (Try.prog.cellsOf 4))) : ∃ n, cs[j]? = some (.bool n) := by
  rw [cells_bool] at h
  obtain ⟨n, e⟩ := h.rd.bool und_bool
  exact ⟨n, row_get e⟩
theorem rwString (h : RdW enc Try.prog w 9 ((cs.drop j).take (Try.prog.cellsOf 9))) : ∃ n, cs[j]? = some (.string n) := by
  rw [cells_string] at h
  obtain ⟨n, e, _⟩ := h.rd.string und_string
  exact ⟨n, row_get e⟩
theorem rwInts (h : RdW enc Try.prog w 36 cs) : ∃ (A : Option Addr) (c : Nat) (l : List Int), cs = [.slice A l.length c] ∧ IntsAt w w.heap.size A l ∧ (∀ n ∈ l, Wd n) := by
  obtain ⟨A, c, l, e, hq, hs, _⟩ := h.list (fun (n : Int) _ => Value.int .i64 n) Wd 0 (e := 3) (by kernel_rfl) cells_int (by omega) (fun l hl hr => by
    obtain ⟨n, e, hw⟩ := hr.rd.int und_int
    refine ⟨n, i64_bd hw, fun j hj => ?_⟩
    obtain rfl : j = 0 := by omega
    rw [e]; rfl)
  exact ⟨A, c, l, e, hs, hq⟩
theorem und_msgS : Try.prog.underlying 80 = some (.struct (structOf Try.prog 80)) := by kernel_rfl
theorem und_rdS : Try.prog.underlying 30 = some (.struct (structOf Try.prog 30)) := by kernel_rfl
theorem und_councilS : Try.prog.underlying 48 = some (.struct (structOf Try.prog 48)) := by kernel_rfl
theorem und_lieS : Try.prog.underlying 86 = some (.struct (structOf Try.prog 86)) := by kernel_rfl
theorem rwMsg (h : RdW enc Try.prog w 80 cs) : ∃ y : MsgD, True ∧ ∀ j, j < 4 → cs[j]? = some (msgC y j) := by
  obtain ⟨_, h2⟩ := h.fields (l := [(9, 0), (3, 1), (3, 2), (3, 3)]) und_msgS (by kernel_rfl)
  obtain ⟨a, e0⟩ := rwString (h2 (9, 0) (by simp))
  obtain ⟨b, e1, _⟩ := rwInt (h2 (3, 1) (by simp))
  obtain ⟨c, e2, _⟩ := rwInt (h2 (3, 2) (by simp))
  obtain ⟨d, e3, _⟩ := rwInt (h2 (3, 3) (by simp))
  refine ⟨⟨a, b, c, d⟩, trivial, fun j hj => ?_⟩
  match j, hj with
  | 0, _ => exact e0
  | 1, _ => exact e1
  | 2, _ => exact e2
  | 3, _ => exact e3
theorem rwRd (h : RdW enc Try.prog w 30 cs) : ∃ y : RdD, Wd y.val ∧ ∀ j, j < 2 → cs[j]? = some (rdC y j) := by
  obtain ⟨_, h2⟩ := h.fields (l := [(3, 0), (4, 1)]) und_rdS (by kernel_rfl)
  obtain ⟨b, e1, hb⟩ := rwInt (h2 (3, 0) (by simp))
  obtain ⟨c, e2⟩ := rwBool (h2 (4, 1) (by simp))
  refine ⟨⟨b, c⟩, hb, fun j hj => ?_⟩
  match j, hj with
  | 0, _ => exact e1
  | 1, _ => exact e2
theorem rwRds (h : RdW enc Try.prog w 22 cs) : ∃ (A : Option Addr) (c : Nat) (l : List RdD), cs = [.slice A l.length c] ∧ RdsAt w w.heap.size A l ∧ (∀ y ∈ l, Wd y.val) := by
  obtain ⟨A, c, l, e, hq, hs, _⟩ := h.list rdC (fun y => Wd y.val) rd0 (e := 30) (by kernel_rfl) (k := 2) (by kernel_rfl) (by omega) (fun l _ hr => rwRd hr)
  exact ⟨A, c, l, e, hs, hq⟩
def lie1C (y : Option Addr × Nat × LieD) (j : Nat) : Value := lieC y.2.2 y.1 y.2.1 j
theorem rwLie (h : RdW enc Try.prog w 86 cs) : ∃ y : Option Addr × Nat × LieD, (IntsAt w w.heap.size y.1 y.2.2.path ∧ wf64 y.2.2.to ∧ Wd y.2.2.value ∧ Wd y.2.2.frame ∧ ∀ n ∈ y.2.2.path, Wd n) ∧ ∀ j, j < 4 → cs[j]? = some (lie1C y j) := by
  obtain ⟨_, h2⟩ := h.fields (l := [(3, 0), (36, 1), (3, 2), (3, 3)]) und_lieS (by kernel_rfl)
  obtain ⟨a, e0, ha⟩ := rwInt (h2 (3, 0) (by simp))
  obtain ⟨A, n, l, e1, hl, hq⟩ := rwInts (h2 (36, 1) (by simp))
  obtain ⟨c, e2, hc⟩ := rwInt (h2 (3, 2) (by simp))
  obtain ⟨d, e3, hd⟩ := rwInt (h2 (3, 3) (by simp))
  rw [show Try.prog.cellsOf 36 = 1 from by kernel_rfl] at e1
  refine ⟨⟨A, n, ⟨a, l, c, d⟩⟩, ⟨hl, wf64_of hc.1 hc.2, hd, ha, hq⟩, fun j hj => ?_⟩
  match j, hj with
  | 0, _ => exact e0
  | 1, _ => exact row_get e1
  | 2, _ => exact e2
  | 3, _ => exact e3
theorem map_getD {α β : Type} (l : List α) (f : α → β) (i : Nat) (a : α) (b : β) (hi : i < l.length) : (l.map f).getD i b = f (l.getD i a) := by
  rw [List.getD_eq_getElem?_getD, List.getD_eq_getElem?_getD]
  simp [hi]
theorem getD_mem {α : Type} {l : List α} {i : Nat} {a : α} (hi : i < l.length) : l.getD i a ∈ l := by
  rw [List.getD_eq_getElem?_getD, List.getElem?_eq_getElem hi]; exact List.getElem_mem hi
theorem rwLies (h : RdW enc Try.prog w 49 cs) : ∃ (A : Option Addr) (c : Nat) (l : List LieD), cs = [.slice A l.length c] ∧ LiesAt w w.heap.size A l := by
  obtain ⟨A, c, l, e, hq, hs, _⟩ := h.list lie1C (fun y => IntsAt w w.heap.size y.1 y.2.2.path ∧ wf64 y.2.2.to ∧ Wd y.2.2.value ∧ Wd y.2.2.frame ∧ ∀ n ∈ y.2.2.path, Wd n) (none, 0, lie0) (e := 86) (by kernel_rfl) (k := 4) (by kernel_rfl) (by omega) (fun l _ hr => rwLie hr)
  refine ⟨A, c, l.map (·.2.2), by rw [List.length_map]; exact e, ⟨⟨fun i => (l.getD i (none, 0, lie0)).1, fun i => (l.getD i (none, 0, lie0)).2.1, ?_, fun i hi => ?_⟩, fun i hi => ?_⟩⟩
  · rw [List.length_map]
    refine Sl.congr hs fun i hi j hj => ?_
    show lie1C _ j = lieC (lieAt _ i) _ _ j
    unfold lieAt lie1C
    rw [map_getD l (·.2.2) i (none, 0, lie0) lie0 hi]
  · rw [List.length_map] at hi
    unfold lieAt
    rw [map_getD l (·.2.2) i (none, 0, lie0) lie0 hi]
    exact (hq _ (getD_mem hi)).1
  · rw [List.length_map] at hi
    unfold lieAt
    rw [map_getD l (·.2.2) i (none, 0, lie0) lie0 hi]
    exact (hq _ (getD_mem hi)).2.1
def row1C (y : Option Addr × Nat × List Int) (_ : Nat) : Value := .slice y.1 y.2.2.length y.2.1
theorem rwRows (h : RdW enc Try.prog w 55 cs) : ∃ (A : Option Addr) (c : Nat) (l : List (List Int)), cs = [.slice A l.length c] ∧ RowsAt w w.heap.size A l ∧ (∀ r ∈ l, ∀ n ∈ r, Wd n) := by
  obtain ⟨A, c, l, e, hq, hs, _⟩ := h.list row1C (fun y => IntsAt w w.heap.size y.1 y.2.2 ∧ ∀ n ∈ y.2.2, Wd n) (none, 0, []) (e := 36) (by kernel_rfl) (k := 1) (by kernel_rfl) (by omega) (fun l _ hr => by
    obtain ⟨A, c, l', e, hs, hw⟩ := rwInts hr
    refine ⟨(A, c, l'), ⟨hs, hw⟩, fun j hj => ?_⟩
    obtain rfl : j = 0 := by omega
    rw [e]; rfl)
  refine ⟨A, c, l.map (·.2.2), by rw [List.length_map]; exact e, ⟨⟨fun i => (l.getD i (none, 0, [])).1, fun i => (l.getD i (none, 0, [])).2.1, ?_, fun i hi => ?_⟩⟩, fun r hr => ?_⟩
  · rw [List.length_map]
    refine Sl.congr hs fun i hi j hj => ?_
    show row1C _ j = _
    unfold rowAt row1C
    rw [map_getD l (·.2.2) i (none, 0, []) [] hi]
  · rw [List.length_map] at hi
    unfold rowAt
    rw [map_getD l (·.2.2) i (none, 0, []) [] hi]
    exact (hq _ (getD_mem hi)).1
  · obtain ⟨y, hy, rfl⟩ := List.mem_map.1 hr
    exact (hq y hy).2
/-- Lists of readings in memory. -/
structure RdRowsAt (w : World) (B : Nat) (A : Option Addr) (vs : List (List RdD)) : Prop where
  sl : ∃ (P : Nat → Option Addr) (c : Nat → Nat), Sl w B 1 A vs.length (fun i _ => .slice (P i) (vs.getD i []).length (c i)) ∧ ∀ i, i < vs.length → RdsAt w B (P i) (vs.getD i [])
def rdRow1C (y : Option Addr × Nat × List RdD) (_ : Nat) : Value := .slice y.1 y.2.2.length y.2.1
theorem rwRdRows (h : RdW enc Try.prog w 61 cs) : ∃ (A : Option Addr) (c : Nat) (l : List (List RdD)), cs = [.slice A l.length c] ∧ RdRowsAt w w.heap.size A l ∧ (∀ r ∈ l, ∀ y ∈ r, Wd y.val) := by
  obtain ⟨A, c, l, e, hq, hs, _⟩ := h.list rdRow1C (fun y => RdsAt w w.heap.size y.1 y.2.2 ∧ ∀ n ∈ y.2.2, Wd n.val) (none, 0, []) (e := 22) (by kernel_rfl) (k := 1) (by kernel_rfl) (by omega) (fun l _ hr => by
    obtain ⟨A, c, l', e, hs, hw⟩ := rwRds hr
    refine ⟨(A, c, l'), ⟨hs, hw⟩, fun j hj => ?_⟩
    obtain rfl : j = 0 := by omega
    rw [e]; rfl)
  refine ⟨A, c, l.map (·.2.2), by rw [List.length_map]; exact e, ⟨⟨fun i => (l.getD i (none, 0, [])).1, fun i => (l.getD i (none, 0, [])).2.1, ?_, fun i hi => ?_⟩⟩, fun r hr => ?_⟩
  · rw [List.length_map]
    refine Sl.congr hs fun i hi j hj => ?_
    show rdRow1C _ j = _
    unfold rdRow1C
    rw [map_getD l (·.2.2) i (none, 0, []) [] hi]
  · rw [List.length_map] at hi
    rw [map_getD l (·.2.2) i (none, 0, []) [] hi]
    exact (hq _ (getD_mem hi)).1
  · obtain ⟨y, hy, rfl⟩ := List.mem_map.1 hr
    exact (hq y hy).2
end
section
variable {H : Type} {enc : TypeId × Value → H} {P : Program} {w : World} {t e : TypeId} {base : Nat} {v : Value} {cs : List Value}
theorem okWide_str {fs : Array Field} (hu : P.underlying t = some (.struct fs)) (h : Value.okWide P w .any base t v) : ∃ cs, v = .agg cs := by
  simp only [Value.okWide, hu] at h
  obtain ⟨cs, rfl, _⟩ := h
  exact ⟨cs, rfl⟩
theorem okWide_sl (hu : P.underlying t = some (.slice e)) (h : Value.okWide P w .any base t v) (u : Value) (hc : v.cells.toList = [u]) : v = u := by
  simp only [Value.okWide, hu, Cell.okWide] at h
  cases v <;> simp [Value.cells] at hc <;> first | exact hc | (simp [Cell.ok, hu] at h)
theorem RdW.array2 {n : Nat} (h : RdW enc P w t cs) (ht : P.underlying t = some (.array n e)) : cs.length = P.cellsOf t ∧ ∀ i, i < n → Rd enc P w e ((cs.drop (i * P.cellsOf e)).take (P.cellsOf e)) := h.rd.array ht
end
theorem ownKnobL : ownKnob Try.prog.godebug = none := by kernel_rfl
theorem toList3 {cs : Array Value} {a b c : Value} (h0 : cs.toList.length = 3) (e0 : cs.toList[0]? = some a) (e1 : cs.toList[1]? = some b) (e2 : cs.toList[2]? = some c) : cs = #[a, b, c] := by
  obtain ⟨l⟩ := cs
  simp only at h0 e0 e1 e2
  match l, h0 with
  | [x0, x1, x2], _ => simp at e0 e1 e2; subst e0; subst e1; subst e2; rfl
theorem toList2 {cs : Array Value} {a b : Value} (h0 : cs.toList.length = 2) (e0 : cs.toList[0]? = some a) (e1 : cs.toList[1]? = some b) : cs = #[a, b] := by
  obtain ⟨l⟩ := cs
  simp only at h0 e0 e1
  match l, h0 with
  | [x0, x1], _ => simp at e0 e1; subst e0; subst e1; rfl
section
variable {H : Type} {enc : TypeId × Value → H} {w : World} {base : Nat} {v : Value}
set_option maxRecDepth 100000 in
theorem arg_int2 (ho : Value.okWide Try.prog w .any base 23 v) (h : RdW enc Try.prog w 23 v.cells.toList) :
    ∃ a b : Int, v = .agg #[.int .i64 a, .int .i64 b] ∧ Wd a ∧ Wd b := by
  obtain ⟨cs, rfl⟩ := okWide_arr (P := Try.prog) Try.underlying23 ho
  obtain ⟨h1, h2⟩ := h.array2 (e := 3) (n := 2) (by kernel_rfl)
  rw [show Try.prog.cellsOf 23 = 2 from by kernel_rfl] at h1
  obtain ⟨a, e0, ha⟩ := (h2 0 (by omega)).int und_int
  obtain ⟨b, e1, hb⟩ := (h2 1 (by omega)).int und_int
  rw [cells_int] at e0 e1
  exact ⟨a, b, congrArg Value.agg (toList2 (cs := cs) h1 (row_get (j := 0) e0) (row_get (j := 1) e1)), i64_bd ha, i64_bd hb⟩
set_option maxRecDepth 100000 in
theorem arg_int3 (ho : Value.okWide Try.prog w .any base 34 v) (h : RdW enc Try.prog w 34 v.cells.toList) :
    ∃ a b c : Int, v = .agg #[.int .i64 a, .int .i64 b, .int .i64 c] ∧ Wd a ∧ Wd b ∧ Wd c := by
  obtain ⟨cs, rfl⟩ := okWide_arr (P := Try.prog) Try.underlying34 ho
  obtain ⟨h1, h2⟩ := h.array2 (e := 3) (n := 3) (by kernel_rfl)
  rw [show Try.prog.cellsOf 34 = 3 from by kernel_rfl] at h1
  obtain ⟨a, e0, ha⟩ := (h2 0 (by omega)).int und_int
  obtain ⟨b, e1, hb⟩ := (h2 1 (by omega)).int und_int
  obtain ⟨c, e2, hc⟩ := (h2 2 (by omega)).int und_int
  rw [cells_int] at e0 e1 e2
  exact ⟨a, b, c, congrArg Value.agg (toList3 (cs := cs) h1 (row_get (j := 0) e0) (row_get (j := 1) e1) (row_get (j := 2) e2)), i64_bd ha, i64_bd hb, i64_bd hc⟩
set_option maxRecDepth 100000 in
theorem arg_council (ho : Value.okWide Try.prog w .any base 48 v) (h : RdW enc Try.prog w 48 v.cells.toList) :
    ∃ (N F : Int) (A : Option Addr) (c : Nat) (l : List Int), v = .agg #[.int .i64 N, .int .i64 F, .slice A l.length c] ∧ IntsAt w w.heap.size A l ∧ Wd N ∧ Wd F ∧ ∀ n ∈ l, Wd n := by
  obtain ⟨cs, rfl⟩ := okWide_str (P := Try.prog) (t := 48) und_councilS ho
  obtain ⟨h1, h2⟩ := h.fields (l := [(3, 0), (3, 1), (36, 2)]) und_councilS (by kernel_rfl)
  obtain ⟨a, e0, ha⟩ := rwInt (h2 (3, 0) (by simp))
  obtain ⟨b, e1, hb⟩ := rwInt (h2 (3, 1) (by simp))
  obtain ⟨A, n, l, e2, hl, hq⟩ := rwInts (h2 (36, 2) (by simp))
  rw [show Try.prog.cellsOf 36 = 1 from by kernel_rfl] at e2
  rw [show Try.prog.cellsOf 48 = 3 from by kernel_rfl] at h1
  exact ⟨a, b, A, n, l, congrArg Value.agg (toList3 (cs := cs) h1 e0 e1 (row_get e2)), hl, ha, hb, hq⟩
set_option maxRecDepth 100000 in
theorem arg_msgs (ho : Value.okWide Try.prog w .any base 41 v) (h : RdW enc Try.prog w 41 v.cells.toList) :
    ∃ (A : Option Addr) (c : Nat) (l : List MsgD), v = .slice A l.length c ∧ MsgsAt w w.heap.size A l := by
  obtain ⟨A, c, l, e, _, hs, _⟩ := h.list msgC (fun _ => True) msg0 (e := 80) (by kernel_rfl) (k := 4) (by kernel_rfl) (by omega) (fun l _ hr => rwMsg hr)
  exact ⟨A, c, l, okWide_sl (P := Try.prog) (t := 41) (e := 80) (by kernel_rfl) ho _ e, hs⟩
set_option maxRecDepth 100000 in
theorem arg_ints (ho : Value.okWide Try.prog w .any base 36 v) (h : RdW enc Try.prog w 36 v.cells.toList) :
    ∃ (A : Option Addr) (c : Nat) (l : List Int), v = .slice A l.length c ∧ IntsAt w w.heap.size A l ∧ ∀ n ∈ l, Wd n := by
  obtain ⟨A, c, l, e, hs, hq⟩ := rwInts h
  exact ⟨A, c, l, okWide_sl (P := Try.prog) (t := 36) (e := 3) (by kernel_rfl) ho _ e, hs, hq⟩
set_option maxRecDepth 100000 in
theorem arg_rds (ho : Value.okWide Try.prog w .any base 22 v) (h : RdW enc Try.prog w 22 v.cells.toList) :
    ∃ (A : Option Addr) (c : Nat) (l : List RdD), v = .slice A l.length c ∧ RdsAt w w.heap.size A l ∧ ∀ n ∈ l, Wd n.val := by
  obtain ⟨A, c, l, e, hs, hq⟩ := rwRds h
  exact ⟨A, c, l, okWide_sl (P := Try.prog) (t := 22) (e := 30) (by kernel_rfl) ho _ e, hs, hq⟩
set_option maxRecDepth 100000 in
theorem arg_lies (ho : Value.okWide Try.prog w .any base 49 v) (h : RdW enc Try.prog w 49 v.cells.toList) :
    ∃ (A : Option Addr) (c : Nat) (l : List LieD), v = .slice A l.length c ∧ LiesAt w w.heap.size A l := by
  obtain ⟨A, c, l, e, hs⟩ := rwLies h
  exact ⟨A, c, l, okWide_sl (P := Try.prog) (t := 49) (e := 86) (by kernel_rfl) ho _ e, hs⟩
set_option maxRecDepth 100000 in
theorem arg_rows (ho : Value.okWide Try.prog w .any base 55 v) (h : RdW enc Try.prog w 55 v.cells.toList) :
    ∃ (A : Option Addr) (c : Nat) (l : List (List Int)), v = .slice A l.length c ∧ RowsAt w w.heap.size A l ∧ ∀ r ∈ l, ∀ n ∈ r, Wd n := by
  obtain ⟨A, c, l, e, hs, hq⟩ := rwRows h
  exact ⟨A, c, l, okWide_sl (P := Try.prog) (t := 55) (e := 36) (by kernel_rfl) ho _ e, hs, hq⟩
set_option maxRecDepth 100000 in
theorem arg_rdRows (ho : Value.okWide Try.prog w .any base 61 v) (h : RdW enc Try.prog w 61 v.cells.toList) :
    ∃ (A : Option Addr) (c : Nat) (l : List (List RdD)), v = .slice A l.length c ∧ RdRowsAt w w.heap.size A l ∧ ∀ r ∈ l, ∀ n ∈ r, Wd n.val := by
  obtain ⟨A, c, l, e, hs, hq⟩ := rwRdRows h
  exact ⟨A, c, l, okWide_sl (P := Try.prog) (t := 61) (e := 22) (by kernel_rfl) ho _ e, hs, hq⟩
end
end Go.Proofs.Ytnmccbjdfdbgpaa
