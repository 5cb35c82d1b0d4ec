/- What is proved: what the form's reading of data says of the cells, type by type; and the last step of a law that only makes memory. Conditions: those that each lemma states. -/
import Derived.Test.YtogobjmmgjfjjaaRows
import Derived.Test.YtogobjmmgjfjjaaLib
import Derived.ProofKit
import Derived.OpenShut
import Derived.JoinedOf
import Derived.JoinedCond
import Derived.SizedLaws
import Derived.ChangeSame
import Derived.Carry
namespace Go.Proofs.Ytogobjmmgjfjjaa
open Go.ChangeShapes Go.WideShapes Go.ChangeAt Go.RowKit

section
variable {H : Type} {enc : TypeId × Value → H} {P : Program} {w : World} {t e : TypeId} {cs : List Value}
/-- The cells cs read as a value of type t. -/
def Rd (enc : TypeId × Value → H) (P : Program) (w : World) (t : TypeId) (cs : List Value) : Prop := ∃ fuel x, DataW.trod enc P w 0 (fun _ => true) true fuel t cs = some x
theorem Rd.of_trod {v : Value} {d : DataW H} {ps : List MemPlace} (h : DataW.Trod enc P w 0 (fun _ => true) true t v d ps) : Rd enc P w t v.cells.toList := by
  obtain ⟨n, hn⟩ := h
  exact ⟨n, _, hn⟩
theorem Rd.int {k : IntKind} (h : Rd enc P w t cs) (ht : P.underlying t = some (.int k)) : ∃ n, cs = [.int k n] ∧ (Lit.int k n).wf = true := by
  obtain ⟨fuel, x, h⟩ := h
  cases fuel with
  | zero => simp [DataW.trod] at h
  | succ m =>
    unfold DataW.trod at h
    rw [ht] at h
    split at h <;> simp_all
theorem Rd.bool (h : Rd enc P w t cs) (ht : P.underlying t = some .bool) : ∃ b, cs = [.bool b] := by
  obtain ⟨fuel, x, h⟩ := h
  cases fuel with
  | zero => simp [DataW.trod] at h
  | succ m =>
    unfold DataW.trod at h
    rw [ht] at h
    split at h <;> simp_all
theorem Rd.string (h : Rd enc P w t cs) (ht : P.underlying t = some .string) : ∃ s, cs = [.string s] ∧ s.size ≤ maxLen := by
  obtain ⟨fuel, x, h⟩ := h
  cases fuel with
  | zero => simp [DataW.trod] at h
  | succ m =>
    unfold DataW.trod at h
    rw [ht] at h
    split at h <;> simp_all
theorem Rd.struct {fs : Array Field} (h : Rd enc P w t cs) (ht : P.underlying t = some (.struct fs)) : cs.length = P.cellsOf t ∧ ∀ f ∈ fs.toList, Rd enc P w f.type ((cs.drop f.offset).take (P.cellsOf f.type)) := by
  obtain ⟨fuel, x, h⟩ := h
  cases fuel with
  | zero => simp [DataW.trod] at h
  | succ m =>
    unfold DataW.trod at h
    rw [ht] at h
    split at h <;> simp_all
    obtain ⟨hl, xs, hp, _⟩ := h
    refine fun f hf => ?_
    obtain ⟨i, hi⟩ := List.getElem?_of_mem (Array.mem_toList_iff.2 hf)
    have hg := mapM_some_get hp i f hi
    have hlen := mapM_some_length hp
    have : i < xs.length := by rw [hlen]; exact (List.getElem?_eq_some_iff.1 hi).1
    exact ⟨m, xs[i], by rw [hg]; exact List.getElem?_eq_getElem this⟩
theorem Rd.fields {fs : Array Field} {l : List (TypeId × Nat)} (h : Rd enc P w t cs) (ht : P.underlying t = some (.struct fs)) (hl : fs.toList.map (fun f => (f.type, f.offset)) = l) :
    cs.length = P.cellsOf t ∧ ∀ q ∈ l, Rd enc P w q.1 ((cs.drop q.2).take (P.cellsOf q.1)) := by
  obtain ⟨h1, h2⟩ := h.struct ht
  refine ⟨h1, fun q hq => ?_⟩
  rw [← hl] at hq
  obtain ⟨f, hf, rfl⟩ := List.mem_map.1 hq
  exact h2 f hf
theorem Rd.array {n : Nat} (h : Rd enc P w t cs) (ht : P.underlying t = some (.array n e)) : cs.length = P.cellsOf t ∧ ∀ i, i < n → Rd enc P w e ((cs.drop (i * P.cellsOf e)).take (P.cellsOf e)) := by
  obtain ⟨fuel, x, h⟩ := h
  obtain ⟨xs, m, _, _, h1, h2, h3⟩ := DataW.trod_array ht h
  refine ⟨h1, fun i hi => ?_⟩
  exact ⟨m, xs[i]'(by omega), by rw [h3 i hi]; exact List.getElem?_eq_getElem _⟩
theorem cells_get {base n : Nat} {a : Addr} {l : List Value} (h : w.cells? base a n = some l) : l.length = n ∧ ∀ j, j < n → w.cell? (a.add j) = l[j]? := by
  unfold World.cells? at h
  split at h
  · exact ⟨by simpa using mapM_some_length h, fun j hj => mapM_some_get h j j (by simp [hj])⟩
  · cases h
theorem Rd.slice (h : Rd enc P w t cs) (ht : P.underlying t = some (.slice e)) :
    cs = [.slice none 0 0] ∨ ∃ a len cap, cs = [.slice (some a) len cap] ∧ len ≤ maxLen ∧ ∀ i, i < len → ∃ l, w.cells? 0 (a.add (i * P.cellsOf e)) (P.cellsOf e) = some l ∧ Rd enc P w e l := by
  obtain ⟨fuel, x, h⟩ := h
  cases fuel with
  | zero => simp [DataW.trod] at h
  | succ m =>
    unfold DataW.trod at h
    rw [ht] at h
    split at h <;> simp_all
    rename_i a len cap _
    obtain ⟨⟨h1, h2⟩, h3⟩ := h
    refine ⟨a, len, ⟨rfl, rfl⟩, by omega, fun i hi => ?_⟩
    obtain ⟨elems, he, _⟩ := Option.bind_eq_some_iff.1 h3
    have hg := mapM_some_get he i i (by simp [hi])
    have hlen := mapM_some_length he
    have hi2 : i < elems.length := by rw [hlen]; simpa using hi
    rw [List.getElem?_eq_getElem hi2] at hg
    obtain ⟨l, hl, hr⟩ := Option.bind_eq_some_iff.1 hg
    exact ⟨l, hl, m, _, hr⟩
/-- A slice, each of whose rows of k cells is some y. -/
theorem Rd.list {Y : Type} (C : Y → Nat → Value) (Q : Y → Prop) (y0 : Y) {k : Nat} (h : Rd enc P w t cs) (ht : P.underlying t = some (.slice e)) (hk : P.cellsOf e = k) (hk0 : 0 < k)
    (hrow : ∀ l, l.length = k → Rd enc P w e l → ∃ y, Q y ∧ ∀ j, j < k → l[j]? = some (C y j)) :
    ∃ (A : Option Addr) (c : Nat) (l : List Y), cs = [.slice A l.length c] ∧ (∀ y ∈ l, Q y) ∧ Sl w w.heap.size k A l.length fun i => C (l.getD i y0) := by
  rcases h.slice ht with rfl | ⟨a, len, cap, rfl, hm, hi⟩
  · exact ⟨none, 0, [], rfl, fun y hy => by simp at hy, Sl.nil _ _ _ _ _⟩
  · rw [hk] at hi
    have hex : ∀ i, ∃ y, i < len → Q y ∧ ∀ j, j < k → w.cell? ((a.add (i * k)).add j) = some (C y j) := fun i => by
      by_cases hlt : i < len
      · obtain ⟨l, hl, hr⟩ := hi i hlt
        obtain ⟨h1, h2⟩ := cells_get hl
        obtain ⟨y, hq, hy⟩ := hrow l h1 hr
        exact ⟨y, fun _ => ⟨hq, fun j hj => (h2 j hj).trans (hy j hj)⟩⟩
      · exact ⟨y0, fun h => absurd h hlt⟩
    obtain ⟨f, hf⟩ := Classical.axiomOfChoice hex
    have hlen : ((List.range len).map f).length = len := by simp
    have hget : ∀ i, i < len → ((List.range len).map f).getD i y0 = f i := fun i hlt => by simp [hlt]
    refine ⟨some a, cap, (List.range len).map f, by rw [hlen], fun y hy => ?_, ?_, fun h0 => ?_⟩
    · obtain ⟨i, h1, rfl⟩ := List.mem_map.1 hy
      exact (hf i (by simpa using h1)).1
    · rw [hlen]; unfold maxLen at hm; omega
    · rw [hlen] at h0
      have h1 := (hf 0 h0).2 0 hk0
      simp only [Nat.zero_mul, Addr.add] at h1
      obtain ⟨b, off, sp⟩ := a
      have hsp : sp = none := by
        cases sp with
        | none => rfl
        | some s => simp [World.cell?] at h1; split at h1 <;> cases h1
      subst hsp
      refine ⟨b, off, rfl, World.block_lt_of_cell? w _ h1, fun i hi2 j hj => ?_⟩
      rw [hlen] at hi2
      show w.cell? _ = some (C (((List.range len).map f).getD i y0) j)
      rw [hget i hi2]
      have := (hf i hi2).2 j hj
      rwa [Addr.add_lit, Addr.add_lit] at this
theorem okWide_arr {n base : Nat} {v : Value} (hu : P.underlying t = some (.array n e)) (h : Value.okWide P w .any base t v) : ∃ cs, v = .agg cs := by
  simp only [Value.okWide, hu] at h
  cases v <;> simp at h
  exact ⟨_, rfl⟩
theorem i64_bd {n : Int} (h : (Lit.int .i64 n).wf = true) : -9223372036854775808 ≤ n ∧ n ≤ 9223372036854775807 := by
  simpa [Lit.wf, IntKind.min, IntKind.max, IntKind.signed, IntKind.bits] using h

/-! The last step. -/
theorem trodAll_stays (hl : laidOutB P = true) {W W' : World} {base : Nat} {sp : Nat → Bool} : ∀ (ts : List TypeId) {vs : List Value} {ds : List (DataW H)} {ps : List MemPlace}, (∀ t ∈ ts, P.readableRec t = true ∧ t < P.types.size) →
    DataW.TrodAll enc P W base (fun _ => true) true ts vs ds ps → (∀ p ∈ ps, W.sameAt W' p) → (∀ p ∈ ps, sp p.block = true) → DataW.TrodAll enc P W' base sp true ts vs ds ps
  | [], vs, ds, ps, _, h, _, _ => by
    cases vs <;> cases ds <;> simp_all [DataW.TrodAll]
  | t :: ts, vs, ds, ps, ht, h, hs, hsp => by
    obtain ⟨v, vs', d, ds', p, q, rfl, rfl, rfl, h1, h2⟩ := trodAll_cons h
    exact trodAll_cons_mk (WideElems.Trod_stays hl (ht t (List.mem_cons_self ..)).1 (ht t (List.mem_cons_self ..)).2 h1 (fun x hx => hs x (List.mem_append_left _ hx)) (fun x hx => hsp x (List.mem_append_left _ hx)))
      (trodAll_stays hl ts (fun t' h' => ht t' (List.mem_cons_of_mem _ h')) h2 (fun x hx => hs x (List.mem_append_right _ hx)) (fun x hx => hsp x (List.mem_append_right _ hx)))
theorem law_post {f : Func} {s : ChangeSpec} {bt : TypeId} {W W' : World} {args : Array Value} {ds gs : List (DataW H)} {before : List MemPlace}
    (hl : laidOutB P = true) (hps : ∀ t ∈ f.params.toList, P.readableRec t = true ∧ t < P.types.size) (hrt : f.resultTypes = #[bt]) (hbt : P.underlying bt = some .bool) (hv : s.vars = [])
    (hW : DataW.Whole enc P f.params.toList s.vars false W args.toList ds gs before) (hres : (s.fn H (ds ++ gs)).results = [.lit (.bool true)]) (hargs : (s.fn H (ds ++ gs)).args = ds) (hvars : (s.fn H (ds ++ gs)).vars = [])
    (hb : Below W.heap.size W W') : s.post enc P f false true false false W args (.bool true) W' := by
  have hW' := hW
  have hlt : ∀ p ∈ before, p.block < W.heap.size := fun p hp => hW.lt p hp
  have hold : ∀ p ∈ before, (fun b => decide (b < W.heap.size)) p.block = true := fun p hp => by simpa using hlt p hp
  obtain ⟨p, q, hA, hV, rfl, hz, hn⟩ := hW
  rw [hv] at hV
  obtain ⟨rfl, rfl⟩ := trodVars_none hV
  have hr : ∀ (b : Nat) (sp : Nat → Bool) (hd : Bool), DataW.TrodAll enc P W' b sp hd f.resultTypes.toList ((Value.bool true).resultList f.resultTypes.size) (s.fn H (ds ++ [])).results [] := fun b sp hd => by
    rw [hrt, hres]; exact trodAll_mk1 (shut_bool hbt _)
  have ha : ∀ sp : Nat → Bool, (∀ x ∈ p, sp x.block = true) → DataW.TrodAll enc P W' 0 sp true f.params.toList args.toList (s.fn H (ds ++ [])).args p := fun sp hsp => by
    rw [hargs]; exact trodAll_stays hl _ hps hA (fun x hx => hb.same (hlt x (List.mem_append_left _ hx))) hsp
  have hvs : ∀ sp : Nat → Bool, DataW.TrodVars enc P W' sp s.vars (s.fn H (ds ++ [])).vars [] := fun sp => by rw [hv, hvars]; rfl
  refine ⟨ds, [], p ++ [], [], p, [], hW', hr _ _ _, ha _ (fun x hx => hold x (List.mem_append_left _ hx)), hvs _, World.keptBut_mono (fun x hx => ⟨hx, ?_⟩) (hb.frame (· ∈ p ++ [])), fun _ => ?_⟩
  · exact Or.inr (List.mem_append.1 hx)
  · refine ⟨?_, _, _, ([] ++ p) ++ [], ⟨[] ++ p, [], trodAll_append (ha _ (fun _ _ => rfl)) (hr _ _ _), hvs _, rfl, ?_, ?_⟩, ?_⟩
    · exact ok_one hrt rfl (okWide_bool_mk hbt _)
    · intro b off hp
      have hin : MemPlace.cell b off ∈ p ++ [] := by simpa using hp
      rw [hb.frozen (hlt _ hin)]
      exact hz b off hin
    · intro ha; cases ha
    · intro x hx _
      simpa using hx
end
end Go.Proofs.Ytogobjmmgjfjjaa
