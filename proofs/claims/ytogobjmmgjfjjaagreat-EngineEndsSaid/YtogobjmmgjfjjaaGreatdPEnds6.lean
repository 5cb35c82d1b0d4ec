/- What is proved: the texts R7 R8 Q Rd Rw Rp Lw T1 T2 T3 T4 T5 T6 Lq, one behind the other; each says at its head what it proves, and under which conditions. -/
import Derived.BigQuiet
import Derived.Test.YtogobjmmgjfjjaaGreatRows
import Derived.ProofKit
import Derived.OpenShut
import Derived.JoinedOf
import Derived.JoinedCond
import Derived.SizedLaws
import Derived.ChangeSame
import Derived.Carry
import Derived.Outline
import Derived.Test.YtogobjmmgjfjjaaGreatdPEnds5
/- What is proved: a contract of ullageref07's lines. Conditions: the plant lies in memory. -/
namespace Go.Proofs.YtogobjmmgjfjjaaGreat
open Go.RowKit
end Go.Proofs.YtogobjmmgjfjjaaGreat
/- What is proved: a contract of ullageref07.CheckPlant. Conditions: the plant lies in memory. -/
namespace Go.Proofs.YtogobjmmgjfjjaaGreat
open Go.RowKit
end Go.Proofs.YtogobjmmgjfjjaaGreat
/- What is proved: a class of worlds for regions whose operations read and whose callees only make memory. Conditions: those that each lemma states. -/
namespace Go.Proofs.YtogobjmmgjfjjaaGreat
open Go.RowKit

/-- A world that keeps all that W had. -/
structure Ext (W : World) where
  w : World
  h : Below W.heap.size W w
instance (W : World) : Nonempty (Ext W) := ⟨⟨W, Below.refl _ _⟩⟩
/-- The class: W, with new memory. -/
def Ext.C (W : World) (w' : World) : Prop := ∃ x : Ext W, w' = x.w
theorem Ext.c_drew (W : World) : ∃ x : Ext W, { W with drawn := W.drawn + 1 } = x.w := ⟨⟨_, (Below.refl _ _).drew⟩, rfl⟩
theorem Ext.cell {W : World} {b o : Nat} {v : Value} (h : W.cell? ⟨b, o, none⟩ = some v) : ∀ x : Ext W, x.w.cell? ⟨b, o, none⟩ = some v := fun x => by
  have hb : b < W.heap.size := World.block_lt_of_cell? W _ h
  exact (x.h.cell (p := ⟨b, o, none⟩) hb).trans h
theorem Ext.calls {P : Program} {f : FuncId} {args : Array Value} {W : World} {x : Ext W} {v : Value} (h : Calls P f args x.w fun e w' => e = .returned v ∧ Below x.w.heap.size x.w w') :
    Calls P f args x.w fun e w'' => e = .returned v ∧ ∃ y : Ext W, w'' = y.w :=
  h.mono fun _ _ ⟨he, hb⟩ => ⟨he, ⟨_, x.h.trans (hb.mono x.h.size)⟩, rfl⟩
theorem Ext.same {P : Program} {f : FuncId} {args : Array Value} {W : World} {x : Ext W} {v : Value} (h : Calls P f args x.w fun e w' => e = .returned v ∧ x.w = w') :
    Calls P f args x.w fun e w'' => e = .returned v ∧ ∃ y : Ext W, w'' = y.w :=
  h.mono fun _ _ ⟨he, hb⟩ => ⟨he, x, hb.symm⟩
theorem Ext.drew {P : Program} {f : FuncId} {args : Array Value} {W : World} {x : Ext W} {v : Value} (h : Calls P f args x.w fun e w' => e = .returned v ∧ ∃ n, w' = x.w.drewN n) :
    Calls P f args x.w fun e w'' => e = .returned v ∧ ∃ y : Ext W, w'' = y.w :=
  h.mono fun _ _ ⟨he, n, hb⟩ => ⟨he, ⟨_, hb ▸ below_drewN x.h n⟩, rfl⟩
theorem wp_region_ext_quiet {P : Program} {id : Nat} {Q : Exit → Act → World → Prop} {a : Act} {W : World} {l : List Oper} (hm : P.follows .mixedOrders = true) (hB : Region.lexB .any l.toArray = true)
    (h : wpQuiet P l.toArray (fun w' => ∃ x : Ext W, w' = x.w) (fun a' => ∀ w', Below W.heap.size W w' → Q .normal a' w') l a) : (Code.region id l.toArray true).wp P Q a W :=
  wp_region_quiet (C := fun w' => ∃ x : Ext W, w' = x.w) hm hB (Ext.c_drew W) (by
    have e : (fun a' => ∀ w', (∃ x : Ext W, w' = x.w) → Q .normal a' w') = fun a' => ∀ w', Below W.heap.size W w' → Q .normal a' w' := by
      funext a'; apply propext
      exact ⟨fun h w' hb => h w' ⟨⟨w', hb⟩, rfl⟩, fun h w' ⟨x, hx⟩ => by subst hx; exact h _ x.h⟩
    rw [e]; exact h)
end Go.Proofs.YtogobjmmgjfjjaaGreat
/- What is proved: what the form's reading of data says of the cells, type by type; and the last step of a law that only makes memory. Conditions: those that each lemma states. -/
namespace Go.Proofs.YtogobjmmgjfjjaaGreat
open Go.ChangeShapes Go.WideShapes Go.ChangeAt Go.RowKit

section
variable {H : Type} {enc : TypeId × Value → H} {P : Program} {w : World} {t e : TypeId} {cs : List Value}
/-- The cells cs read as a value of type t. -/
def Rd (enc : TypeId × Value → H) (P : Program) (w : World) (t : TypeId) (cs : List Value) : Prop := ∃ fuel x, DataW.trod enc P w 0 (fun _ => true) true fuel t cs = some x
theorem Rd.of_trod {v : Value} {d : DataW H} {ps : List MemPlace} (h : DataW.Trod enc P w 0 (fun _ => true) true t v d ps) : Rd enc P w t v.cells.toList := by
  obtain ⟨n, hn⟩ := h
  exact ⟨n, _, hn⟩
theorem Rd.int {k : IntKind} (h : Rd enc P w t cs) (ht : P.underlying t = some (.int k)) : ∃ n, cs = [.int k n] ∧ (Lit.int k n).wf = true := by
  obtain ⟨fuel, x, h⟩ := h
  cases fuel with
  | zero => simp [DataW.trod] at h
  | succ m =>
    unfold DataW.trod at h
    rw [ht] at h
    split at h <;> simp_all
theorem Rd.bool (h : Rd enc P w t cs) (ht : P.underlying t = some .bool) : ∃ b, cs = [.bool b] := by
  obtain ⟨fuel, x, h⟩ := h
  cases fuel with
  | zero => simp [DataW.trod] at h
  | succ m =>
    unfold DataW.trod at h
    rw [ht] at h
    split at h <;> simp_all
theorem Rd.string (h : Rd enc P w t cs) (ht : P.underlying t = some .string) : ∃ s, cs = [.string s] ∧ s.size ≤ maxLen := by
  obtain ⟨fuel, x, h⟩ := h
  cases fuel with
  | zero => simp [DataW.trod] at h
  | succ m =>
    unfold DataW.trod at h
    rw [ht] at h
    split at h <;> simp_all
theorem Rd.struct {fs : Array Field} (h : Rd enc P w t cs) (ht : P.underlying t = some (.struct fs)) : cs.length = P.cellsOf t ∧ ∀ f ∈ fs.toList, Rd enc P w f.type ((cs.drop f.offset).take (P.cellsOf f.type)) := by
  obtain ⟨fuel, x, h⟩ := h
  cases fuel with
  | zero => simp [DataW.trod] at h
  | succ m =>
    unfold DataW.trod at h
    rw [ht] at h
    split at h <;> simp_all
    obtain ⟨hl, xs, hp, _⟩ := h
    refine fun f hf => ?_
    obtain ⟨i, hi⟩ := List.getElem?_of_mem (Array.mem_toList_iff.2 hf)
    have hg := mapM_some_get hp i f hi
    have hlen := mapM_some_length hp
    have : i < xs.length := by rw [hlen]; exact (List.getElem?_eq_some_iff.1 hi).1
    exact ⟨m, xs[i], by rw [hg]; exact List.getElem?_eq_getElem this⟩
theorem Rd.fields {fs : Array Field} {l : List (TypeId × Nat)} (h : Rd enc P w t cs) (ht : P.underlying t = some (.struct fs)) (hl : fs.toList.map (fun f => (f.type, f.offset)) = l) :
    cs.length = P.cellsOf t ∧ ∀ q ∈ l, Rd enc P w q.1 ((cs.drop q.2).take (P.cellsOf q.1)) := by
  obtain ⟨h1, h2⟩ := h.struct ht
  refine ⟨h1, fun q hq => ?_⟩
  rw [← hl] at hq
  obtain ⟨f, hf, rfl⟩ := List.mem_map.1 hq
  exact h2 f hf
theorem Rd.array {n : Nat} (h : Rd enc P w t cs) (ht : P.underlying t = some (.array n e)) : cs.length = P.cellsOf t ∧ ∀ i, i < n → Rd enc P w e ((cs.drop (i * P.cellsOf e)).take (P.cellsOf e)) := by
  obtain ⟨fuel, x, h⟩ := h
  obtain ⟨xs, m, _, _, h1, h2, h3⟩ := DataW.trod_array ht h
  refine ⟨h1, fun i hi => ?_⟩
  exact ⟨m, xs[i]'(by omega), by rw [h3 i hi]; exact List.getElem?_eq_getElem _⟩
theorem cells_get {base n : Nat} {a : Addr} {l : List Value} (h : w.cells? base a n = some l) : l.length = n ∧ ∀ j, j < n → w.cell? (a.add j) = l[j]? := by
  unfold World.cells? at h
  split at h
  · exact ⟨by simpa using mapM_some_length h, fun j hj => mapM_some_get h j j (by simp [hj])⟩
  · cases h
theorem Rd.slice (h : Rd enc P w t cs) (ht : P.underlying t = some (.slice e)) :
    cs = [.slice none 0 0] ∨ ∃ a len cap, cs = [.slice (some a) len cap] ∧ len ≤ maxLen ∧ ∀ i, i < len → ∃ l, w.cells? 0 (a.add (i * P.cellsOf e)) (P.cellsOf e) = some l ∧ Rd enc P w e l := by
  obtain ⟨fuel, x, h⟩ := h
  cases fuel with
  | zero => simp [DataW.trod] at h
  | succ m =>
    unfold DataW.trod at h
    rw [ht] at h
    split at h <;> simp_all
    rename_i a len cap _
    obtain ⟨⟨h1, h2⟩, h3⟩ := h
    refine ⟨a, len, ⟨rfl, rfl⟩, by omega, fun i hi => ?_⟩
    obtain ⟨elems, he, _⟩ := Option.bind_eq_some_iff.1 h3
    have hg := mapM_some_get he i i (by simp [hi])
    have hlen := mapM_some_length he
    have hi2 : i < elems.length := by rw [hlen]; simpa using hi
    rw [List.getElem?_eq_getElem hi2] at hg
    obtain ⟨l, hl, hr⟩ := Option.bind_eq_some_iff.1 hg
    exact ⟨l, hl, m, _, hr⟩
/-- A slice, each of whose rows of k cells is some y. -/
theorem Rd.list {Y : Type} (C : Y → Nat → Value) (Q : Y → Prop) (y0 : Y) {k : Nat} (h : Rd enc P w t cs) (ht : P.underlying t = some (.slice e)) (hk : P.cellsOf e = k) (hk0 : 0 < k)
    (hrow : ∀ l, l.length = k → Rd enc P w e l → ∃ y, Q y ∧ ∀ j, j < k → l[j]? = some (C y j)) :
    ∃ (A : Option Addr) (c : Nat) (l : List Y), cs = [.slice A l.length c] ∧ (∀ y ∈ l, Q y) ∧ Sl w w.heap.size k A l.length fun i => C (l.getD i y0) := by
  rcases h.slice ht with rfl | ⟨a, len, cap, rfl, hm, hi⟩
  · exact ⟨none, 0, [], rfl, fun y hy => by simp at hy, Sl.nil _ _ _ _ _⟩
  · rw [hk] at hi
    have hex : ∀ i, ∃ y, i < len → Q y ∧ ∀ j, j < k → w.cell? ((a.add (i * k)).add j) = some (C y j) := fun i => by
      by_cases hlt : i < len
      · obtain ⟨l, hl, hr⟩ := hi i hlt
        obtain ⟨h1, h2⟩ := cells_get hl
        obtain ⟨y, hq, hy⟩ := hrow l h1 hr
        exact ⟨y, fun _ => ⟨hq, fun j hj => (h2 j hj).trans (hy j hj)⟩⟩
      · exact ⟨y0, fun h => absurd h hlt⟩
    obtain ⟨f, hf⟩ := Classical.axiomOfChoice hex
    have hlen : ((List.range len).map f).length = len := by simp
    have hget : ∀ i, i < len → ((List.range len).map f).getD i y0 = f i := fun i hlt => by simp [hlt]
    refine ⟨some a, cap, (List.range len).map f, by rw [hlen], fun y hy => ?_, ?_, fun h0 => ?_⟩
    · obtain ⟨i, h1, rfl⟩ := List.mem_map.1 hy
      exact (hf i (by simpa using h1)).1
    · rw [hlen]; unfold maxLen at hm; omega
    · rw [hlen] at h0
      have h1 := (hf 0 h0).2 0 hk0
      simp only [Nat.zero_mul, Addr.add] at h1
      obtain ⟨b, off, sp⟩ := a
      have hsp : sp = none := by
        cases sp with
        | none => rfl
        | some s => simp [World.cell?] at h1; split at h1 <;> cases h1
      subst hsp
      refine ⟨b, off, rfl, World.block_lt_of_cell? w _ h1, fun i hi2 j hj => ?_⟩
      rw [hlen] at hi2
      show w.cell? _ = some (C (((List.range len).map f).getD i y0) j)
      rw [hget i hi2]
      have := (hf i hi2).2 j hj
      rwa [Addr.add_lit, Addr.add_lit] at this
theorem i64_bd {n : Int} (h : (Lit.int .i64 n).wf = true) : -9223372036854775808 ≤ n ∧ n ≤ 9223372036854775807 := by
  simpa [Lit.wf, IntKind.min, IntKind.max, IntKind.signed, IntKind.bits] using h

/-! The last step. -/
theorem trodAll_stays (hl : laidOutB P = true) {W W' : World} {base : Nat} {sp : Nat → Bool} : ∀ (ts : List TypeId) {vs : List Value} {ds : List (DataW H)} {ps : List MemPlace}, (∀ t ∈ ts, P.readableRec t = true ∧ t < P.types.size) →
    DataW.TrodAll enc P W base (fun _ => true) true ts vs ds ps → (∀ p ∈ ps, W.sameAt W' p) → (∀ p ∈ ps, sp p.block = true) → DataW.TrodAll enc P W' base sp true ts vs ds ps
  | [], vs, ds, ps, _, h, _, _ => by
    cases vs <;> cases ds <;> simp_all [DataW.TrodAll]
  | t :: ts, vs, ds, ps, ht, h, hs, hsp => by
    obtain ⟨v, vs', d, ds', p, q, rfl, rfl, rfl, h1, h2⟩ := trodAll_cons h
    exact trodAll_cons_mk (WideElems.Trod_stays hl (ht t (List.mem_cons_self ..)).1 (ht t (List.mem_cons_self ..)).2 h1 (fun x hx => hs x (List.mem_append_left _ hx)) (fun x hx => hsp x (List.mem_append_left _ hx)))
      (trodAll_stays hl ts (fun t' h' => ht t' (List.mem_cons_of_mem _ h')) h2 (fun x hx => hs x (List.mem_append_right _ hx)) (fun x hx => hsp x (List.mem_append_right _ hx)))
theorem law_post {f : Func} {s : ChangeSpec} {bt : TypeId} {W W' : World} {args : Array Value} {ds gs : List (DataW H)} {before : List MemPlace}
    (hl : laidOutB P = true) (hps : ∀ t ∈ f.params.toList, P.readableRec t = true ∧ t < P.types.size) (hrt : f.resultTypes = #[bt]) (hbt : P.underlying bt = some .bool) (hv : s.vars = [])
    (hW : DataW.Whole enc P f.params.toList s.vars false W args.toList ds gs before) (hres : (s.fn H (ds ++ gs)).results = [.lit (.bool true)]) (hargs : (s.fn H (ds ++ gs)).args = ds) (hvars : (s.fn H (ds ++ gs)).vars = [])
    (hb : Below W.heap.size W W') : s.post enc P f false true false false W args (.bool true) W' := by
  have hW' := hW
  have hlt : ∀ p ∈ before, p.block < W.heap.size := fun p hp => hW.lt p hp
  have hold : ∀ p ∈ before, (fun b => decide (b < W.heap.size)) p.block = true := fun p hp => by simpa using hlt p hp
  obtain ⟨p, q, hA, hV, rfl, hz, hn⟩ := hW
  rw [hv] at hV
  obtain ⟨rfl, rfl⟩ := trodVars_none hV
  have hr : ∀ (b : Nat) (sp : Nat → Bool) (hd : Bool), DataW.TrodAll enc P W' b sp hd f.resultTypes.toList ((Value.bool true).resultList f.resultTypes.size) (s.fn H (ds ++ [])).results [] := fun b sp hd => by
    rw [hrt, hres]; exact trodAll_mk1 (shut_bool hbt _)
  have ha : ∀ sp : Nat → Bool, (∀ x ∈ p, sp x.block = true) → DataW.TrodAll enc P W' 0 sp true f.params.toList args.toList (s.fn H (ds ++ [])).args p := fun sp hsp => by
    rw [hargs]; exact trodAll_stays hl _ hps hA (fun x hx => hb.same (hlt x (List.mem_append_left _ hx))) hsp
  have hvs : ∀ sp : Nat → Bool, DataW.TrodVars enc P W' sp s.vars (s.fn H (ds ++ [])).vars [] := fun sp => by rw [hv, hvars]; rfl
  refine ⟨ds, [], p ++ [], [], p, [], hW', hr _ _ _, ha _ (fun x hx => hold x (List.mem_append_left _ hx)), hvs _, World.keptBut_mono (fun x hx => ⟨hx, ?_⟩) (hb.frame (· ∈ p ++ [])), fun _ => ?_⟩
  · exact Or.inr (List.mem_append.1 hx)
  · refine ⟨?_, _, _, ([] ++ p) ++ [], ⟨[] ++ p, [], trodAll_append (ha _ (fun _ _ => rfl)) (hr _ _ _), hvs _, rfl, ?_, ?_⟩, ?_⟩
    · exact ok_one hrt rfl (okWide_bool_mk hbt _)
    · intro b off hp
      have hin : MemPlace.cell b off ∈ p ++ [] := by simpa using hp
      rw [hb.frozen (hlt _ hin)]
      exact hz b off hin
    · intro ha; cases ha
    · intro x hx _
      simpa using hx
end
end Go.Proofs.YtogobjmmgjfjjaaGreat
/- What is proved: what the form's reading of data says of the cells, with the form's reach: how long lists are. Conditions: those that each lemma states. -/
namespace Go.Proofs.YtogobjmmgjfjjaaGreat
open Go.ChangeShapes Go.WideShapes Go.ChangeAt Go.RowKit

section
variable {H : Type} {enc : TypeId × Value → H} {P : Program} {w : World} {t e : TypeId} {cs : List Value}
/-- The cells cs read as a value of type t, within the reach. -/
def RdW (enc : TypeId × Value → H) (P : Program) (w : World) (t : TypeId) (cs : List Value) : Prop :=
  ∃ fuel d ps, DataW.trod enc P w 0 (fun _ => true) true fuel t cs = some (d, ps) ∧ ∀ n ∈ d.weights P t, n ≤ reachBytes
theorem RdW.rd (h : RdW enc P w t cs) : Rd enc P w t cs := by
  obtain ⟨fuel, d, ps, h, _⟩ := h
  exact ⟨fuel, _, h⟩
theorem RdW.of_trod {v : Value} {d : DataW H} {ps : List MemPlace} (h : DataW.Trod enc P w 0 (fun _ => true) true t v d ps) (hw : ∀ n ∈ d.weights P t, n ≤ reachBytes) : RdW enc P w t v.cells.toList := by
  obtain ⟨n, hn⟩ := h
  exact ⟨n, _, _, hn, hw⟩
theorem RdW.fields {fs : Array Field} {l : List (TypeId × Nat)} (h : RdW enc P w t cs) (ht : P.underlying t = some (.struct fs)) (hl : fs.toList.map (fun f => (f.type, f.offset)) = l) :
    cs.length = P.cellsOf t ∧ ∀ q ∈ l, RdW enc P w q.1 ((cs.drop q.2).take (P.cellsOf q.1)) := by
  obtain ⟨fuel, d, ps, h, hw⟩ := h
  cases fuel with
  | zero => simp [DataW.trod] at h
  | succ m =>
    unfold DataW.trod at h
    rw [ht] at h
    split at h <;> simp_all
    obtain ⟨hlen, xs, hp, hd, _⟩ := h
    subst hd
    subst hl
    intro a b hab
    obtain ⟨f, hf, hfe⟩ := List.mem_map.1 hab
    simp only [Prod.mk.injEq] at hfe
    obtain ⟨rfl, rfl⟩ := hfe
    obtain ⟨i, hi⟩ := List.getElem?_of_mem hf
    have hg := mapM_some_get hp i f hi
    have hlen2 := mapM_some_length hp
    have hi2 : i < xs.length := by rw [hlen2]; exact (List.getElem?_eq_some_iff.1 hi).1
    rw [List.getElem?_eq_getElem hi2] at hg
    refine ⟨m, xs[i].1, xs[i].2, hg, fun n hn => hw n ?_⟩
    simp only [DataW.weights, ht]
    exact DataW.weights_mem_each (j := i) (t := f.type) (d := xs[i].1) (by simp [hi]) (by simp [List.getElem?_eq_getElem hi2]) n hn
theorem weights_mem_all : ∀ {ds : List (DataW H)} {j : Nat} {d : DataW H}, ds[j]? = some d → ∀ n ∈ d.weights P e, n ∈ DataW.weightsAll P e ds
  | d0 :: ds, 0, d, hd, n, hn => by
    simp only [List.getElem?_cons_zero, Option.some.injEq] at hd
    subst hd
    simp only [DataW.weightsAll, List.mem_append]
    exact Or.inl hn
  | d0 :: ds, j + 1, d, hd, n, hn => by
    simp only [List.getElem?_cons_succ] at hd
    simp only [DataW.weightsAll, List.mem_append]
    exact Or.inr (weights_mem_all hd n hn)
  | [], _, _, hd, _, _ => by simp at hd
theorem RdW.slice (h : RdW enc P w t cs) (ht : P.underlying t = some (.slice e)) :
    cs = [.slice none 0 0] ∨ ∃ a len cap, cs = [.slice (some a) len cap] ∧ len ≤ maxLen ∧ len * P.bytesOf e ≤ reachBytes ∧ ∀ i, i < len → ∃ l, w.cells? 0 (a.add (i * P.cellsOf e)) (P.cellsOf e) = some l ∧ RdW enc P w e l := by
  obtain ⟨fuel, d, ps, h, hw⟩ := h
  cases fuel with
  | zero => simp [DataW.trod] at h
  | succ m =>
    unfold DataW.trod at h
    rw [ht] at h
    split at h <;> simp_all
    rename_i a len cap _
    obtain ⟨⟨h1, h2⟩, h3⟩ := h
    obtain ⟨elems, he, h4⟩ := Option.bind_eq_some_iff.1 h3
    obtain ⟨rest, hr, h5⟩ := Option.map_eq_some_iff.1 h4
    simp only [Prod.mk.injEq] at h5
    obtain ⟨rfl, _⟩ := h5
    have hlen := mapM_some_length he
    simp only [List.length_range] at hlen
    simp only [DataW.weights, ht, List.length_map] at hw
    have hb := hw _ (List.mem_cons_self ..)
    rw [hlen] at hb
    refine ⟨a, len, ⟨rfl, rfl⟩, by omega, Nat.le_trans (Nat.mul_le_mul_right _ (Nat.le_add_right _ _)) hb, fun i hi => ?_⟩
    have hg := mapM_some_get he i i (by simp [hi])
    have hi2 : i < elems.length := by omega
    rw [List.getElem?_eq_getElem hi2] at hg
    obtain ⟨l, hl, hr⟩ := Option.bind_eq_some_iff.1 hg
    refine ⟨l, hl, m, elems[i].1, elems[i].2, hr, fun n hn => hw n ?_⟩
    refine List.mem_cons_of_mem _ (List.mem_append_left _ (weights_mem_all (j := i) (d := elems[i].1) ?_ n hn))
    simp [List.getElem?_eq_getElem hi2]
/-- A slice, each of whose rows of k cells is some y. -/
theorem RdW.list {Y : Type} (C : Y → Nat → Value) (Q : Y → Prop) (y0 : Y) {k : Nat} (h : RdW enc P w t cs) (ht : P.underlying t = some (.slice e)) (hk : P.cellsOf e = k) (hk0 : 0 < k)
    (hrow : ∀ l, l.length = k → RdW enc P w e l → ∃ y, Q y ∧ ∀ j, j < k → l[j]? = some (C y j)) :
    ∃ (A : Option Addr) (c : Nat) (l : List Y), cs = [.slice A l.length c] ∧ (∀ y ∈ l, Q y) ∧ Sl w w.heap.size k A l.length (fun i => C (l.getD i y0)) ∧ l.length * P.bytesOf e ≤ reachBytes := by
  rcases h.slice ht with rfl | ⟨a, len, cap, rfl, hm, hby, hi⟩
  · exact ⟨none, 0, [], rfl, fun y hy => by simp at hy, Sl.nil _ _ _ _ _, by simp⟩
  · rw [hk] at hi
    have hex : ∀ i, ∃ y, i < len → Q y ∧ ∀ j, j < k → w.cell? ((a.add (i * k)).add j) = some (C y j) := fun i => by
      by_cases hlt : i < len
      · obtain ⟨l, hl, hr⟩ := hi i hlt
        obtain ⟨h1, h2⟩ := cells_get hl
        obtain ⟨y, hq, hy⟩ := hrow l h1 hr
        exact ⟨y, fun _ => ⟨hq, fun j hj => (h2 j hj).trans (hy j hj)⟩⟩
      · exact ⟨y0, fun h => absurd h hlt⟩
    obtain ⟨f, hf⟩ := Classical.axiomOfChoice hex
    have hlen : ((List.range len).map f).length = len := by simp
    have hget : ∀ i, i < len → ((List.range len).map f).getD i y0 = f i := fun i hlt => by simp [hlt]
    refine ⟨some a, cap, (List.range len).map f, by rw [hlen], fun y hy => ?_, ⟨?_, fun h0 => ?_⟩, by rw [hlen]; exact hby⟩
    · obtain ⟨i, h1, rfl⟩ := List.mem_map.1 hy
      exact (hf i (by simpa using h1)).1
    · rw [hlen]; unfold maxLen at hm; omega
    · rw [hlen] at h0
      have h1 := (hf 0 h0).2 0 hk0
      simp only [Nat.zero_mul, Addr.add] at h1
      obtain ⟨b, off, sp⟩ := a
      have hsp : sp = none := by
        cases sp with
        | none => rfl
        | some s => simp [World.cell?] at h1; split at h1 <;> cases h1
      subst hsp
      refine ⟨b, off, rfl, World.block_lt_of_cell? w _ h1, fun i hi2 j hj => ?_⟩
      rw [hlen] at hi2
      show w.cell? _ = some (C (((List.range len).map f).getD i y0) j)
      rw [hget i hi2]
      have := (hf i hi2).2 j hj
      rwa [Addr.add_lit, Addr.add_lit] at this
theorem heavy_all {ts : List TypeId} {ds : List (DataW H)} (h : (DataW.weightsEach P (ts ++ []) (ds ++ [])).all (· ≤ reachBytes) = true) {j : Nat} {t : TypeId} {d : DataW H} (ht : ts[j]? = some t) (hd : ds[j]? = some d) : ∀ n ∈ d.weights P t, n ≤ reachBytes := by
  intro n hn
  rw [List.append_nil, List.append_nil] at h
  have := List.all_eq_true.1 h n (DataW.weights_mem_each ht hd n hn)
  simpa using this
end
end Go.Proofs.YtogobjmmgjfjjaaGreat
/- What is proved: what the form's reading of a plant, of acts, of literals says of the cells. Conditions: those that each lemma states. -/
namespace Go.Proofs.YtogobjmmgjfjjaaGreat
open Go.ChangeShapes Go.WideShapes Go.ChangeAt Go.RowKit

theorem Sl.congr {w : World} {B k n : Nat} {A : Option Addr} {f g : Nat → Nat → Value} (h : Sl w B k A n f) (hf : ∀ i, i < n → ∀ j, j < k → f i j = g i j) : Sl w B k A n g :=
  ⟨h.1, fun hn => by obtain ⟨b, off, e, h1, h2⟩ := h.2 hn; exact ⟨b, off, e, h1, fun i hi j hj => (h2 i hi j hj).trans (by rw [hf i hi j hj])⟩⟩
def structOf (P : Program) (t : TypeId) : Array Field := match P.underlying t with | some (.struct f) => f | _ => #[]
theorem cells_int : Tryz.prog.cellsOf 3 = 1 := by kernel_rfl
theorem cells_bool : Tryz.prog.cellsOf 4 = 1 := by kernel_rfl
theorem cells_string : Tryz.prog.cellsOf 9 = 1 := by kernel_rfl
theorem und_int : Tryz.prog.underlying 3 = some (.int .i64) := by kernel_rfl
theorem und_bool : Tryz.prog.underlying 4 = some .bool := by kernel_rfl
theorem und_string : Tryz.prog.underlying 9 = some .string := by kernel_rfl
theorem row_get {cs : List Value} {j : Nat} {v : Value} (h : (cs.drop j).take 1 = [v]) : cs[j]? = some v := by
  have := congrArg (·[0]?) h
  simpa [List.getElem?_take, List.getElem?_drop] using this
section
variable {H : Type} {enc : TypeId × Value → H} {w : World} {cs : List Value} {j : Nat}
theorem rwInt (h : RdW enc Tryz.prog w 3 ((cs.drop j).take (Tryz.prog.cellsOf 3))) : ∃ n, cs[j]? = some (.int .i64 n) ∧ -9223372036854775808 ≤ n ∧ n ≤ 9223372036854775807 := by
  rw [cells_int] at h
  obtain ⟨n, e, hw⟩ := h.rd.int und_int
  exact ⟨n, row_get e, (i64_bd hw).1, (i64_bd hw).2⟩
theorem rwBool (h : RdW enc Tryz.prog w 4 ((cs.drop j).take (Tryz.prog.cellsOf 4))) : ∃ n, cs[j]? = some (.bool n) := by
  rw [cells_bool] at h
  obtain ⟨n, e⟩ := h.rd.bool und_bool
  exact ⟨n, row_get e⟩
theorem rwString (h : RdW enc Tryz.prog w 9 ((cs.drop j).take (Tryz.prog.cellsOf 9))) : ∃ n, cs[j]? = some (.string n) := by
  rw [cells_string] at h
  obtain ⟨n, e, _⟩ := h.rd.string und_string
  exact ⟨n, row_get e⟩
theorem und_tankS : Tryz.prog.underlying 72 = some (.struct (structOf Tryz.prog 72)) := by kernel_rfl
theorem und_valveS : Tryz.prog.underlying 78 = some (.struct (structOf Tryz.prog 78)) := by kernel_rfl
theorem und_lineS : Tryz.prog.underlying 76 = some (.struct (structOf Tryz.prog 76)) := by kernel_rfl
theorem und_litS : Tryz.prog.underlying 79 = some (.struct (structOf Tryz.prog 79)) := by kernel_rfl
theorem und_plantS : Tryz.prog.underlying 27 = some (.struct (structOf Tryz.prog 27)) := by kernel_rfl
theorem rwTank (h : RdW enc Tryz.prog w 72 cs) : ∃ y : TankD, True ∧ ∀ j, j < 4 → cs[j]? = some (tankC y j) := by
  obtain ⟨_, h2⟩ := h.fields (l := [(9, 0), (3, 1), (3, 2), (3, 3)]) und_tankS (by kernel_rfl)
  obtain ⟨a, e0⟩ := rwString (h2 (9, 0) (by simp))
  obtain ⟨b, e1, _⟩ := rwInt (h2 (3, 1) (by simp))
  obtain ⟨c, e2, _⟩ := rwInt (h2 (3, 2) (by simp))
  obtain ⟨d, e3, _⟩ := rwInt (h2 (3, 3) (by simp))
  refine ⟨⟨a, b, c, d⟩, trivial, fun j hj => ?_⟩
  match j, hj with
  | 0, _ => exact e0
  | 1, _ => exact e1
  | 2, _ => exact e2
  | 3, _ => exact e3
theorem rwValve (h : RdW enc Tryz.prog w 78 cs) : ∃ y : ValveD, True ∧ ∀ j, j < 3 → cs[j]? = some (valveC y j) := by
  obtain ⟨_, h2⟩ := h.fields (l := [(9, 0), (3, 1), (4, 2)]) und_valveS (by kernel_rfl)
  obtain ⟨a, e0⟩ := rwString (h2 (9, 0) (by simp))
  obtain ⟨b, e1, _⟩ := rwInt (h2 (3, 1) (by simp))
  obtain ⟨c, e2⟩ := rwBool (h2 (4, 2) (by simp))
  refine ⟨⟨a, b, c⟩, trivial, fun j hj => ?_⟩
  match j, hj with
  | 0, _ => exact e0
  | 1, _ => exact e1
  | 2, _ => exact e2
theorem rwLit (h : RdW enc Tryz.prog w 79 cs) : ∃ y : LitD, True ∧ ∀ j, j < 2 → cs[j]? = some (litC y j) := by
  obtain ⟨_, h2⟩ := h.fields (l := [(3, 0), (4, 1)]) und_litS (by kernel_rfl)
  obtain ⟨b, e1, _⟩ := rwInt (h2 (3, 0) (by simp))
  obtain ⟨c, e2⟩ := rwBool (h2 (4, 1) (by simp))
  refine ⟨⟨b, c⟩, trivial, fun j hj => ?_⟩
  match j, hj with
  | 0, _ => exact e1
  | 1, _ => exact e2
theorem rwInts (h : RdW enc Tryz.prog w 50 cs) : ∃ (A : Option Addr) (c : Nat) (l : List Int), cs = [.slice A l.length c] ∧ IntsAt w w.heap.size A l ∧ (∀ n ∈ l, -9223372036854775808 ≤ n ∧ n ≤ 9223372036854775807) := by
  obtain ⟨A, c, l, e, hq, hs, _⟩ := h.list (fun (n : Int) _ => Value.int .i64 n) (fun n => -9223372036854775808 ≤ n ∧ n ≤ 9223372036854775807) 0 (e := 3) (by kernel_rfl) cells_int (by omega) (fun l hl hr => by
    obtain ⟨n, e, hw⟩ := hr.rd.int und_int
    refine ⟨n, i64_bd hw, fun j hj => ?_⟩
    obtain rfl : j = 0 := by omega
    rw [e]; rfl)
  exact ⟨A, c, l, e, hs, hq⟩
theorem rwLits (h : RdW enc Tryz.prog w 28 cs) : ∃ (A : Option Addr) (c : Nat) (l : List LitD), cs = [.slice A l.length c] ∧ LitsAt w w.heap.size A l := by
  obtain ⟨A, c, l, e, _, hs, _⟩ := h.list litC (fun _ => True) lit0 (e := 79) (by kernel_rfl) (k := 2) (by kernel_rfl) (by omega) (fun l _ hr => rwLit hr)
  exact ⟨A, c, l, e, hs⟩
def line1C (y : Option Addr × Nat × LineD) (j : Nat) : Value := lineC y.1 y.2.1 y.2.2 j
theorem rwLine (h : RdW enc Tryz.prog w 76 cs) : ∃ y : Option Addr × Nat × LineD, IntsAt w w.heap.size y.1 y.2.2.valves ∧ ∀ j, j < 5 → cs[j]? = some (line1C y j) := by
  obtain ⟨_, h2⟩ := h.fields (l := [(3, 0), (3, 1), (3, 2), (4, 3), (50, 4)]) und_lineS (by kernel_rfl)
  obtain ⟨a, e0, _⟩ := rwInt (h2 (3, 0) (by simp))
  obtain ⟨b, e1, _⟩ := rwInt (h2 (3, 1) (by simp))
  obtain ⟨c, e2, _⟩ := rwInt (h2 (3, 2) (by simp))
  obtain ⟨d, e3⟩ := rwBool (h2 (4, 3) (by simp))
  obtain ⟨A, n, l, e4, hl, _⟩ := rwInts (h2 (50, 4) (by simp))
  rw [show Tryz.prog.cellsOf 50 = 1 from by kernel_rfl] at e4
  refine ⟨⟨A, n, ⟨a, b, c, d, l⟩⟩, hl, fun j hj => ?_⟩
  match j, hj with
  | 0, _ => exact e0
  | 1, _ => exact e1
  | 2, _ => exact e2
  | 3, _ => exact e3
  | 4, _ => exact row_get e4
def never1C (y : Option Addr × Nat × List LitD) (_ : Nat) : Value := .slice y.1 y.2.2.length y.2.1
theorem map_getD {α β : Type} (l : List α) (f : α → β) (i : Nat) (a : α) (b : β) (hi : i < l.length) : (l.map f).getD i b = f (l.getD i a) := by
  rw [List.getD_eq_getElem?_getD, List.getD_eq_getElem?_getD]
  simp [hi]
theorem rwPlant (h : RdW enc Tryz.prog w 27 cs) : ∃ (x : PV) (p : PlantD), cs = (plantA x p).toList ∧ PlantAt w w.heap.size x p := by
  obtain ⟨hlen, h2⟩ := h.fields (l := [(22, 0), (23, 1), (24, 2), (25, 3)]) und_plantS (by kernel_rfl)
  rw [show Tryz.prog.cellsOf 27 = 4 from by kernel_rfl] at hlen
  obtain ⟨tA, tc, tl, e0, _, ht, hbt⟩ := (h2 (22, 0) (by simp)).list tankC (fun _ => True) tank0 (e := 72) (by kernel_rfl) (k := 4) (by kernel_rfl) (by omega) (fun l _ hr => rwTank hr)
  obtain ⟨vA, vc, vl, e1, _, hv, hbv⟩ := (h2 (23, 1) (by simp)).list valveC (fun _ => True) valve0 (e := 78) (by kernel_rfl) (k := 3) (by kernel_rfl) (by omega) (fun l _ hr => rwValve hr)
  obtain ⟨lA, lc, ll, e2, hql, hl, _⟩ := (h2 (24, 2) (by simp)).list line1C (fun y => IntsAt w w.heap.size y.1 y.2.2.valves) (none, 0, line0) (e := 76) (by kernel_rfl) (k := 5) (by kernel_rfl) (by omega) (fun l _ hr => rwLine hr)
  obtain ⟨nA, nc, nl, e3, hqn, hn, _⟩ := (h2 (25, 3) (by simp)).list never1C (fun y => LitsAt w w.heap.size y.1 y.2.2) (none, 0, []) (e := 28) (by kernel_rfl) (k := 1) (by kernel_rfl) (by omega) (fun l _ hr => by
    obtain ⟨A, c, l', e, hs⟩ := rwLits hr
    refine ⟨(A, c, l'), hs, fun j hj => ?_⟩
    obtain rfl : j = 0 := by omega
    rw [e]; rfl)
  rw [show Tryz.prog.cellsOf 22 = 1 from by kernel_rfl] at e0
  rw [show Tryz.prog.cellsOf 23 = 1 from by kernel_rfl] at e1
  rw [show Tryz.prog.cellsOf 24 = 1 from by kernel_rfl] at e2
  rw [show Tryz.prog.cellsOf 25 = 1 from by kernel_rfl] at e3
  refine ⟨⟨tA, tc, vA, vc, lA, lc, nA, nc, fun i => (ll.getD i (none, 0, line0)).1, fun i => (ll.getD i (none, 0, line0)).2.1, fun i => (nl.getD i (none, 0, [])).1, fun i => (nl.getD i (none, 0, [])).2.1⟩,
    ⟨tl, vl, ll.map (·.2.2), nl.map (·.2.2)⟩, ?_, ?_⟩
  · apply List.ext_getElem?
    intro j
    simp only [plantA, List.length_map]
    match j with
    | 0 => exact row_get e0
    | 1 => exact row_get e1
    | 2 => exact row_get e2
    | 3 => exact row_get e3
    | j + 4 => rw [List.getElem?_eq_none (by omega), List.getElem?_eq_none (by simp)]
  · refine ⟨ht, hv, ?_, fun i hi => ?_, ?_, fun i hi => ?_, ?_⟩
    · rw [List.length_map]
      refine Sl.congr hl fun i hi j hj => ?_
      show line1C _ j = lineC _ _ (PlantD.line _ i) j
      unfold PlantD.line line1C
      rw [map_getD ll (·.2.2) i (none, 0, line0) line0 hi]
    · simp only [List.length_map] at hi
      unfold PlantD.line
      rw [map_getD ll (·.2.2) i (none, 0, line0) line0 hi]
      refine hql _ ?_
      rw [List.getD_eq_getElem?_getD, List.getElem?_eq_getElem hi]; exact List.getElem_mem hi
    · rw [List.length_map]
      refine Sl.congr hn fun i hi j hj => ?_
      show never1C _ j = _
      unfold never1C PlantD.nev
      rw [map_getD nl (·.2.2) i (none, 0, []) [] hi]
    · simp only [List.length_map] at hi
      unfold PlantD.nev
      rw [map_getD nl (·.2.2) i (none, 0, []) [] hi]
      refine hqn _ ?_
      rw [List.getD_eq_getElem?_getD, List.getElem?_eq_getElem hi]; exact List.getElem_mem hi
    · rw [show Tryz.prog.bytesOf 72 = 40 from by kernel_rfl] at hbt
      rw [show Tryz.prog.bytesOf 78 = 32 from by kernel_rfl] at hbv
      have := reachBytes_lt
      simp only [show (2:Nat)^47 = 140737488355328 from rfl] at this
      show tl.length * 16 ≤ _ ∧ vl.length * 16 ≤ _
      constructor <;> omega
end
end Go.Proofs.YtogobjmmgjfjjaaGreat
/- What is proved: the shapes of a law's arguments. Conditions: those that each lemma states. -/
namespace Go.Proofs.YtogobjmmgjfjjaaGreat
open Go.ChangeShapes Go.WideShapes Go.ChangeAt Go.RowKit
theorem ownKnobL : ownKnob Tryz.prog.godebug = none := by kernel_rfl
section
variable {H : Type} {enc : TypeId × Value → H} {P : Program} {w : World} {t e : TypeId} {base : Nat} {v : Value}
theorem okWide_str {fs : Array Field} (hu : P.underlying t = some (.struct fs)) (h : Value.okWide P w .any base t v) : ∃ cs, v = .agg cs := by
  simp only [Value.okWide, hu] at h
  obtain ⟨cs, rfl, _⟩ := h
  exact ⟨cs, rfl⟩
end
theorem toList4 {cs : Array Value} {a b c d : Value} (h0 : cs.toList.length = 4) (e0 : cs.toList[0]? = some a) (e1 : cs.toList[1]? = some b) (e2 : cs.toList[2]? = some c) (e3 : cs.toList[3]? = some d) : cs = #[a, b, c, d] := by
  obtain ⟨l⟩ := cs
  simp only at h0 e0 e1 e2 e3
  match l, h0 with
  | [x0, x1, x2, x3], _ => simp at e0 e1 e2 e3; subst e0; subst e1; subst e2; subst e3; rfl
theorem und_needS : Tryz.prog.underlying 70 = some (.struct (structOf Tryz.prog 70)) := by kernel_rfl
theorem rwFour {H : Type} {enc : TypeId × Value → H} {w : World} {t : TypeId} {cs : List Value} (h : RdW enc Tryz.prog w t cs) (hu : Tryz.prog.underlying t = some (.struct (structOf Tryz.prog t)))
    (hl : (structOf Tryz.prog t).toList.map (fun f => (f.type, f.offset)) = [(3, 0), (3, 1), (3, 2), (3, 3)]) :
    cs.length = Tryz.prog.cellsOf t ∧ ∃ a b c d : Int, cs[0]? = some (.int .i64 a) ∧ cs[1]? = some (.int .i64 b) ∧ cs[2]? = some (.int .i64 c) ∧ cs[3]? = some (.int .i64 d) := by
  obtain ⟨h1, h2⟩ := h.fields hu hl
  obtain ⟨a, e0, _⟩ := rwInt (h2 (3, 0) (by simp))
  obtain ⟨b, e1, _⟩ := rwInt (h2 (3, 1) (by simp))
  obtain ⟨c, e2, _⟩ := rwInt (h2 (3, 2) (by simp))
  obtain ⟨d, e3, _⟩ := rwInt (h2 (3, 3) (by simp))
  exact ⟨h1, a, b, c, d, e0, e1, e2, e3⟩
set_option maxRecDepth 100000 in
theorem arg_plant {H : Type} {enc : TypeId × Value → H} {w : World} {base : Nat} {v : Value} (ho : Value.okWide Tryz.prog w .any base 27 v) (h : RdW enc Tryz.prog w 27 v.cells.toList) :
    ∃ (x : PV) (p : PlantD), v = .agg (plantA x p) ∧ PlantAt w w.heap.size x p := by
  obtain ⟨cs, rfl⟩ := okWide_str (P := Tryz.prog) (t := 27) und_plantS ho
  obtain ⟨x, p, e, hp⟩ := rwPlant h
  exact ⟨x, p, congrArg Value.agg (Array.toList_inj.1 (show cs.toList = _ from e)), hp⟩
end Go.Proofs.YtogobjmmgjfjjaaGreat
/- What is proved: a sequence as plain data, and how it lies in memory; contracts of engine.ordered and engine.CheckSequence. Conditions: the plant and the sequence lie in memory as the plain data say. -/
namespace Go.Proofs.YtogobjmmgjfjjaaGreat
open Go.RowKit

structure NeedD where
  kind : Int
  of_ : Int
  low : Int
  high : Int
structure StepD where
  at_ : Int
  orders : List LitD
  needs : List NeedD
structure RedD where
  need : NeedD
  ticks : Int
structure SeqD where
  steps : List StepD
  reds : List RedD
  abort : List LitD
def need0 : NeedD := ⟨0, 0, 0, 0⟩
def step0 : StepD := ⟨0, [], []⟩
def red0 : RedD := ⟨need0, 0⟩
def SeqD.step (q : SeqD) (i : Nat) : StepD := q.steps.getD i step0
def SeqD.red (q : SeqD) (i : Nat) : RedD := q.reds.getD i red0
def needC (n : NeedD) : Nat → Value
  | 0 => .int .i64 n.kind
  | 1 => .int .i64 n.of_
  | 2 => .int .i64 n.low
  | _ => .int .i64 n.high
def redC (r : RedD) : Nat → Value
  | 0 => .int .i64 r.need.kind
  | 1 => .int .i64 r.need.of_
  | 2 => .int .i64 r.need.low
  | 3 => .int .i64 r.need.high
  | _ => .int .i64 r.ticks
def stepC (oA : Option Addr) (oc : Nat) (nA : Option Addr) (nc : Nat) (s : StepD) : Nat → Value
  | 0 => .int .i64 s.at_
  | 1 => .slice oA s.orders.length oc
  | _ => .slice nA s.needs.length nc
/-- Where the parts of a sequence lie. -/
structure QV where
  sA : Option Addr
  sc : Nat
  rA : Option Addr
  rc : Nat
  aA : Option Addr
  ac : Nat
  oA : Nat → Option Addr
  oc : Nat → Nat
  nA : Nat → Option Addr
  nc : Nat → Nat
def NeedsAt (w : World) (B : Nat) (A : Option Addr) (l : List NeedD) : Prop := Sl w B 4 A l.length fun i => needC (l.getD i need0)
structure SeqAt (w : World) (B : Nat) (y : QV) (q : SeqD) : Prop where
  steps : Sl w B 3 y.sA q.steps.length fun i => stepC (y.oA i) (y.oc i) (y.nA i) (y.nc i) (q.step i)
  so : ∀ i, i < q.steps.length → LitsAt w B (y.oA i) (q.step i).orders
  sn : ∀ i, i < q.steps.length → NeedsAt w B (y.nA i) (q.step i).needs
  reds : Sl w B 5 y.rA q.reds.length fun i => redC (q.red i)
  abort : LitsAt w B y.aA q.abort
theorem SeqAt.below {w w' : World} {B : Nat} {y : QV} {q : SeqD} (h : SeqAt w B y q) (hb : Below B w w') : SeqAt w' B y q :=
  ⟨h.steps.below hb, fun i hi => Sl.below (h.so i hi) hb, fun i hi => Sl.below (h.sn i hi) hb, h.reds.below hb, Sl.below h.abort hb⟩
theorem SeqAt.mono {w : World} {B B' : Nat} {y : QV} {q : SeqD} (h : SeqAt w B y q) (hb : B ≤ B') : SeqAt w B' y q :=
  ⟨h.steps.mono hb, fun i hi => Sl.mono (h.so i hi) hb, fun i hi => Sl.mono (h.sn i hi) hb, h.reds.mono hb, Sl.mono h.abort hb⟩
def seqA (y : QV) (q : SeqD) : Array Value := #[.slice y.sA q.steps.length y.sc, .slice y.rA q.reds.length y.rc, .slice y.aA q.abort.length y.ac]

def ordsOk (nv : Nat) (l : List LitD) : Bool := decide ((l.length : Int) ≤ 16) && allN l.length fun i => inB (l.getD i lit0).valve 0 (nv - 1)
def needOk (p : PlantD) (n : NeedD) : Bool := needB p n.kind n.of_
def needsOk (p : PlantD) (l : List NeedD) : Bool := decide ((l.length : Int) ≤ 16) && allN l.length fun i => needOk p (l.getD i need0)
def redOk (p : PlantD) (r : RedD) : Bool := needOk p r.need && inB r.ticks 0 10000
def stepOk (p : PlantD) (q : SeqD) (i : Nat) : Bool :=
  inB (q.step i).at_ 0 10000 && (decide (i = 0) || decide ((q.step (i - 1)).at_ ≤ (q.step i).at_)) && ordsOk p.valves.length (q.step i).orders && needsOk p (q.step i).needs
def seqB (p : PlantD) (q : SeqD) : Bool :=
  plantB p && decide ((q.steps.length : Int) ≤ 64) && decide ((q.reds.length : Int) ≤ 16) && ordsOk p.valves.length q.abort && allN q.steps.length (stepOk p q) && allN q.reds.length fun i => redOk p (q.red i)
def lastK (q : SeqD) (k : Nat) : Int := if k = 0 then 0 else (q.step (k - 1)).at_
theorem plantB_lens {p : PlantD} (hv : plantB p = true) : 1 ≤ p.tanks.length ∧ p.tanks.length ≤ 16 ∧ 1 ≤ p.valves.length ∧ p.valves.length ≤ 12 ∧ p.lines.length ≤ 32 := by
  unfold plantB tankedB valvedB linedB apartB at hv
  simp only [Bool.and_eq_true, decide_eq_true_eq] at hv
  obtain ⟨⟨⟨⟨⟨⟨⟨_, h1⟩, _⟩, ⟨⟨_, h2⟩, _⟩⟩, ⟨h3, _⟩⟩, _⟩, _⟩, _⟩ := hv
  unfold inB at h1 h2
  simp at h1 h2
  omega

set_option maxHeartbeats 400000 in
theorem ordIn_any (w : World) (l : LitD) (bp n c : Nat) (A : Option Addr) (hn : n ≤ 9223372036854775807) (hlt : bp < w.heap.size) (hp : w.cell? ⟨bp, 1, none⟩ = some (.slice A n c)) :
    Calls Tryz.prog 138 #[.agg #[litC l 0, litC l 1], .pointer (some ⟨bp, 0, none⟩)] w fun e w' => e = .returned (.bool (inB l.valve 0 (n - 1))) ∧ Below w.heap.size w w' := by
  simp only [litC]
  go_enter Tryz.func138, Tryz.ntmps138
  go_wp2_with (go_at_call 69; refine (within_any _ _ _ _).mono ?_; rintro e w' ⟨rfl, rfl⟩)
  go_ret
  exact ⟨rfl, (Below.refl _ _).alloc (Nat.le_refl _) _⟩
set_option maxHeartbeats 1000000 in
theorem ordered_any (w : World) (x : PV) (p : PlantD) (hnv : p.valves.length ≤ 9223372036854775807) (A : Option Addr) (c : Nat) (l : List LitD) (hl : LitsAt w w.heap.size A l) :
    Calls Tryz.prog 68 #[.agg (plantA x p), .slice A l.length c] w fun e w' => e = .returned (.bool (ordsOk p.valves.length l)) ∧ Below w.heap.size w w' := by
  obtain ⟨tA, tc, vA, vc, lA, lc, nA, nc, iA, ic, jA, jc⟩ := x
  have hnl := hl.1
  dsimp only [plantA]
  let w1 := w.alloc (.cells #[.slice tA p.tanks.length tc, .slice vA p.valves.length vc, .slice lA p.lines.length lc, .slice nA p.never.length nc] 27)
  have hb : Below w.heap.size w w1 := (Below.refl _ _).alloc (Nat.le_refl _) _
  have HALL : Hid (Calls Tryz.prog 137 #[.slice A l.length c, .func (.func 138) #[] #[.pointer (some ⟨w.heap.size, 0, none⟩)]] w1
      fun e w' => e = .returned (.bool (allN l.length fun i => inB (l.getD i lit0).valve 0 (p.valves.length - 1))) ∧ Below w1.heap.size w1 w') := Lib.hid (by
    refine allOrd w1 A l.length c _ (Sl.mono (Sl.below hl hb) (by simp [w1])) 138 _ (fun i => inB (l.getD i lit0).valve 0 (p.valves.length - 1)) (fun args w => by kernel_rfl) ?_
    intro w' hw' i hi
    have hs := hw'.size
    simp only [w1, World.size_alloc] at hs
    refine ordIn_any w' (l.getD i lit0) w.heap.size p.valves.length vc vA hnv (by omega) ?_
    rw [hw'.cell (p := ⟨w.heap.size, 1, none⟩) (by simp [w1])]; simp [w1])
  clear hl
  have HB := Lib.hid hb; clear hb
  cases h1 : decide ((l.length : Int) ≤ 16) with
  | false =>
    go_enter Tryz.func68, Tryz.ntmps68
    go_wp2_with fail
    go_ret
    exact ⟨ret_bool (by unfold ordsOk; rw [h1]; simp), HB.out⟩
  | true =>
    go_enter Tryz.func68, Tryz.ntmps68
    go_wp2_with fail
    refine HALL.out.mono ?_
    rintro e w' ⟨rfl, hb'⟩
    go_wp2_with fail
    go_ret
    exact ⟨ret_bool (by unfold ordsOk; rw [h1]; simp), HB.out.trans (hb'.mono (by simp [w1]))⟩
set_option maxHeartbeats 1000000 in
theorem checkSeq1_any (w : World) (x : PV) (p : PlantD) (hn : p.tanks.length ≤ 100000 ∧ p.lines.length ≤ 100000 ∧ p.valves.length ≤ 100000) (n : NeedD) (bp : Nat) (hp : Bk w bp 27 (plantA x p)) :
    Calls Tryz.prog 71 #[.agg #[needC n 0, needC n 1, needC n 2, needC n 3], .pointer (some ⟨bp, 0, none⟩)] w fun e w' => e = .returned (.bool (needOk p n)) ∧ Below w.heap.size w w' := by
  have hlt := hp.lt
  have c0 : w.cell? ⟨bp, 0, none⟩ = some (.slice x.tA p.tanks.length x.tc) := hp.cell 0
  have c1 : w.cell? ⟨bp, 1, none⟩ = some (.slice x.vA p.valves.length x.vc) := hp.cell 1
  have c2 : w.cell? ⟨bp, 2, none⟩ = some (.slice x.lA p.lines.length x.lc) := hp.cell 2
  have c3 : w.cell? ⟨bp, 3, none⟩ = some (.slice x.nA p.never.length x.nc) := hp.cell 3
  have HN := Lib.hid fun w1 => needed_any w1 x p hn n.kind n.of_ n.low n.high
  simp only [plantA] at HN
  have HB := Lib.hid fun o => (Below.refl w.heap.size w).alloc (Nat.le_refl _) o
  simp only [needC]
  clear hp
  go_enter Tryz.func71, Tryz.ntmps71
  go_wp2_with fail
  refine (HN.out _).mono ?_
  rintro e w' ⟨rfl, hb⟩
  go_wp2_with fail
  go_ret
  exact ⟨rfl, (HB.out _).trans (hb.mono (HB.out _).size)⟩
set_option maxHeartbeats 1000000 in
theorem checkSeq2_any (w : World) (x : PV) (p : PlantD) (hn : p.tanks.length ≤ 100000 ∧ p.lines.length ≤ 100000 ∧ p.valves.length ≤ 100000) (r : RedD) (bp : Nat) (hp : Bk w bp 27 (plantA x p)) :
    Calls Tryz.prog 74 #[.agg #[redC r 0, redC r 1, redC r 2, redC r 3, redC r 4], .pointer (some ⟨bp, 0, none⟩)] w fun e w' => e = .returned (.bool (redOk p r)) ∧ Below w.heap.size w w' := by
  have hlt := hp.lt
  have c0 : w.cell? ⟨bp, 0, none⟩ = some (.slice x.tA p.tanks.length x.tc) := hp.cell 0
  have c1 : w.cell? ⟨bp, 1, none⟩ = some (.slice x.vA p.valves.length x.vc) := hp.cell 1
  have c2 : w.cell? ⟨bp, 2, none⟩ = some (.slice x.lA p.lines.length x.lc) := hp.cell 2
  have c3 : w.cell? ⟨bp, 3, none⟩ = some (.slice x.nA p.never.length x.nc) := hp.cell 3
  have HN := Lib.hid fun w1 => needed_any w1 x p hn r.need.kind r.need.of_ r.need.low r.need.high
  simp only [plantA] at HN
  have HB := Lib.hid fun o => (Below.refl w.heap.size w).alloc (Nat.le_refl _) o
  have HR := Lib.hid (show redOk p r = (needB p r.need.kind r.need.of_ && inB r.ticks 0 10000) from rfl)
  simp only [redC]
  clear hp
  obtain ⟨W, hW⟩ : ∃ W, W = w.alloc (.cells #[.int .i64 r.need.kind, .int .i64 r.need.of_, .int .i64 r.need.low, .int .i64 r.need.high, .int .i64 r.ticks] 96) := ⟨_, rfl⟩
  have hbk : Bk W w.heap.size 96 #[.int .i64 r.need.kind, .int .i64 r.need.of_, .int .i64 r.need.low, .int .i64 r.need.high, .int .i64 r.ticks] := by rw [hW]; exact Bk.new _ _ _
  have HW := Lib.hid hW
  have HK := Lib.hid hbk
  clear hW hbk
  go_enter Tryz.func74, Tryz.ntmps74
  go_wp2_with fail
  rw [← HW.out]
  refine (HN.out W).mono ?_
  rintro e w' ⟨rfl, hb⟩
  have q4 : w'.cell? ⟨w.heap.size, 4, none⟩ = some (.int .i64 r.ticks) := (HK.out.below hb HK.out.lt).cell 4
  have HB2 : Hid (Below w.heap.size w w') := Lib.hid (by have h1 : Below w.heap.size w W := by { rw [HW.out]; exact HB.out _ }; exact h1.trans (hb.mono h1.size))
  clear hb
  cases hq : needB p r.need.kind r.need.of_ with
  | false =>
    go_wp2_with fail
    go_ret
    exact ⟨ret_bool (by rw [HR.out, hq]; rfl), HB2.out⟩
  | true =>
    go_wp2_with (go_at_call 69; refine (within_any _ _ _ _).mono ?_; rintro e w' ⟨rfl, rfl⟩)
    go_ret
    exact ⟨ret_bool (by rw [HR.out, hq]; rfl), HB2.out⟩

end Go.Proofs.YtogobjmmgjfjjaaGreat
/- What is proved: a contract of engine.CheckSequence. Conditions: the plant and the sequence lie in memory as the plain data say. -/
namespace Go.Proofs.YtogobjmmgjfjjaaGreat
open Go.RowKit

theorem lastK_ok {p : PlantD} {q : SeqD} {k : Nat} (h : ∀ j, j < k → stepOk p q j = true) : 0 ≤ lastK q k := by
  unfold lastK
  split
  · omega
  · have := h (k - 1) (by omega)
    unfold stepOk inB at this
    simp only [Bool.and_eq_true, decide_eq_true_eq] at this
    omega
theorem stepOk_last {p : PlantD} {q : SeqD} {k : Nat} (h : ∀ j, j < k → stepOk p q j = true) : stepOk p q k = (inB (q.step k).at_ (lastK q k) 10000 && ordsOk p.valves.length (q.step k).orders && needsOk p (q.step k).needs) := by
  have h0 := lastK_ok h
  unfold stepOk
  congr 2
  unfold inB
  by_cases hk : k = 0
  · subst hk
    have e : lastK q 0 = 0 := rfl
    rw [e]; simp
  · have e : lastK q k = (q.step (k - 1)).at_ := by unfold lastK; rw [if_neg hk]
    rw [e] at h0 ⊢
    rw [Bool.eq_iff_iff]
    simp only [Bool.and_eq_true, Bool.or_eq_true, decide_eq_true_eq]
    omega
set_option maxRecDepth 100000 in
set_option maxHeartbeats 4000000 in
theorem checkSequence_any (w : World) (x : PV) (p : PlantD) (hp : PlantAt w w.heap.size x p) (y : QV) (q : SeqD) (hq : SeqAt w w.heap.size y q) :
    Calls Tryz.prog 21 #[.agg (plantA x p), .agg (seqA y q)] w fun e w' => e = .returned (.bool (seqB p q)) ∧ Below w.heap.size w w' := by
  obtain ⟨W, hW⟩ : ∃ W, W = (w.alloc (.cells (plantA x p) 27)).alloc (.cells (seqA y q) 43) := ⟨_, rfl⟩
  have hbW : Below w.heap.size w W := by rw [hW]; exact ((Below.refl _ _).alloc (Nat.le_refl _) _).alloc (by simp) _
  have hWs : W.heap.size = w.heap.size + 2 := by rw [hW]; simp
  have hb0 : Bk W w.heap.size 27 (plantA x p) := by rw [hW]; exact (Bk.new _ _ _).alloc _
  have hb1 : Bk W (w.heap.size + 1) 43 (seqA y q) := by rw [hW]; exact Bk.newAt _ _ _ _ (by simp)
  have c0 : W.cell? ⟨w.heap.size, 0, none⟩ = some (.slice x.tA p.tanks.length x.tc) := hb0.cell 0
  have c1 : W.cell? ⟨w.heap.size, 1, none⟩ = some (.slice x.vA p.valves.length x.vc) := hb0.cell 1
  have c2 : W.cell? ⟨w.heap.size, 2, none⟩ = some (.slice x.lA p.lines.length x.lc) := hb0.cell 2
  have c3 : W.cell? ⟨w.heap.size, 3, none⟩ = some (.slice x.nA p.never.length x.nc) := hb0.cell 3
  have HPL := Lib.hid (checkPlant_any W x p ((hp.below hbW).mono (by omega)))
  have HP := Lib.hid (hp.below hbW)
  have HS := Lib.hid (hq.below hbW)
  have HB0 := Lib.hid hb0
  have HB1 := Lib.hid hb1
  have HBW := Lib.hid hbW
  have HZ := Lib.hid hWs
  have HW := Lib.hid hW
  have HF := Lib.hid (show seqB p q = (plantB p && decide ((q.steps.length : Int) ≤ 64) && decide ((q.reds.length : Int) ≤ 16) && ordsOk p.valves.length q.abort && allN q.steps.length (stepOk p q) && allN q.reds.length fun i => redOk p (q.red i)) from rfl)
  simp only [plantA] at HPL
  clear hp hq hbW hWs hb0 hb1 hW
  simp only [plantA, seqA] at HW
  dsimp only [plantA, seqA]
  go_enter Tryz.func21, Tryz.ntmps21
  go_wp2_with fail
  rw [← HW.out]
  refine HPL.out.mono ?_
  rintro e w1 ⟨rfl, hb1⟩
  have HBa := Lib.hid (HBW.out.trans (hb1.mono HBW.out.size))
  have HBb := Lib.hid hb1
  have HX0 := Lib.hid (HB0.out.below hb1 HB0.out.lt)
  have HX1 := Lib.hid (HB1.out.below hb1 HB1.out.lt)
  have HZ1 : Hid (w.heap.size + 2 ≤ w1.heap.size) := Lib.hid (by have := hb1.size; have := HZ.out; omega)
  clear hb1 HPL c0 c1 c2 c3
  have s0 : w1.cell? ⟨w.heap.size + 1, 0, none⟩ = some (.slice y.sA q.steps.length y.sc) := HX1.out.cell 0
  have s1 : w1.cell? ⟨w.heap.size + 1, 1, none⟩ = some (.slice y.rA q.reds.length y.rc) := HX1.out.cell 1
  have s2 : w1.cell? ⟨w.heap.size + 1, 2, none⟩ = some (.slice y.aA q.abort.length y.ac) := HX1.out.cell 2
  cases hpb : plantB p with
  | false =>
    go_wp2_with fail
    go_ret
    exact ⟨ret_bool (by rw [HF.out, hpb]; rfl), HBa.out⟩
  | true =>
    have hl := plantB_lens hpb
    have HL := Lib.hid hl
    have HPB := Lib.hid hpb
    have c0 : w1.cell? ⟨w.heap.size, 0, none⟩ = some (.slice x.tA p.tanks.length x.tc) := HX0.out.cell 0
    have c1 : w1.cell? ⟨w.heap.size, 1, none⟩ = some (.slice x.vA p.valves.length x.vc) := HX0.out.cell 1
    have c2 : w1.cell? ⟨w.heap.size, 2, none⟩ = some (.slice x.lA p.lines.length x.lc) := HX0.out.cell 2
    have c3 : w1.cell? ⟨w.heap.size, 3, none⟩ = some (.slice x.nA p.never.length x.nc) := HX0.out.cell 3
    have HORD := Lib.hid fun (wx : World) (hx : Below w.heap.size w1 wx) (hz : w.heap.size ≤ wx.heap.size) => ordered_any wx x p (by omega) y.aA y.ac q.abort (Sl.mono (Sl.below (Sl.below HS.out.abort (HBb.out.mono HBW.out.size)) hx) hz)
    simp only [plantA] at HORD
    clear hpb hl
    by_cases hs64 : (64 : Int) < (q.steps.length : Int)
    · go_wp2_with fail
      go_ret
      exact ⟨ret_bool (by rw [HF.out, HPB.out, show decide ((q.steps.length : Int) ≤ 64) = false from decide_eq_false (by omega)]; rfl), HBa.out⟩
    by_cases hr16 : (16 : Int) < (q.reds.length : Int)
    · go_wp2_with fail
      go_ret
      exact ⟨ret_bool (by rw [HF.out, HPB.out, show decide ((q.reds.length : Int) ≤ 16) = false from decide_eq_false (by omega)]; simp), HBa.out⟩
    go_wp2_with fail
    refine (HORD.out w1 (Below.refl _ _) (by have := HZ1.out; omega)).mono ?_
    rintro e w2 ⟨rfl, hb2⟩
    have HBc := Lib.hid (HBa.out.trans (hb2.mono (by have := HZ1.out; omega)))
    have HBd := Lib.hid (HBb.out.trans (hb2.mono HBb.out.size))
    have HY0 := Lib.hid (HX0.out.below hb2 HX0.out.lt)
    have HY1 := Lib.hid (HX1.out.below hb2 HX1.out.lt)
    have HZ2 : Hid (w.heap.size + 2 ≤ w2.heap.size) := Lib.hid (by have := hb2.size; have := HZ1.out; omega)
    clear hb2 s0 s1 s2 c0 c1 c2 c3
    cases hab : ordsOk p.valves.length q.abort with
    | false =>
      go_wp2_with fail
      go_ret
      exact ⟨ret_bool (by rw [HF.out, hab]; simp), HBc.out⟩
    | true =>
      have HAB := Lib.hid hab
      clear hab
      have s0 : w2.cell? ⟨w.heap.size + 1, 0, none⟩ = some (.slice y.sA q.steps.length y.sc) := HY1.out.cell 0
      have HPk := Lib.hid fun (wx : World) (hx : Below w2.heap.size w2 wx) => HY0.out.below hx HY0.out.lt
      have HSx := Lib.hid fun (wx : World) (hx : Below w2.heap.size w2 wx) => ((HS.out.below (HBd.out.mono HBW.out.size)).mono HBc.out.size).below hx
      have HOx : Hid (∀ wx, Below w2.heap.size w2 wx → ∀ k, k < q.steps.length → Calls Tryz.prog 68 #[.agg (plantA x p), .slice (y.oA k) (q.step k).orders.length (y.oc k)] wx
          fun e w' => e = .returned (.bool (ordsOk p.valves.length (q.step k).orders)) ∧ Below wx.heap.size wx w') := Lib.hid fun wx hx k hk =>
        ordered_any wx x p (by have := HL.out; omega) _ _ _ (Sl.mono ((HSx.out wx hx).so k hk) hx.size)
      have HNx : Hid (∀ wx, Below w2.heap.size w2 wx → ∀ k, k < q.steps.length → Calls Tryz.prog 70 #[.slice (y.nA k) (q.step k).needs.length (y.nc k), .func (.func 71) #[] #[.pointer (some ⟨w.heap.size, 0, none⟩)]] wx
          fun e w' => e = .returned (.bool (allN (q.step k).needs.length fun i => needOk p ((q.step k).needs.getD i need0))) ∧ Below wx.heap.size wx w') := Lib.hid fun wx hx k hk => by
        refine allNeed wx _ _ _ _ (Sl.mono ((HSx.out wx hx).sn k hk) hx.size) 71 _ (fun i => needOk p ((q.step k).needs.getD i need0)) (fun args w => by kernel_rfl) ?_
        intro w' hw' i hi
        exact checkSeq1_any w' x p (by have := HL.out; omega) _ _ (HPk.out w' (hx.trans (hw'.mono hx.size)))
      have HRx : Hid (∀ wx, Below w2.heap.size w2 wx → Calls Tryz.prog 73 #[.slice y.rA q.reds.length y.rc, .func (.func 74) #[] #[.pointer (some ⟨w.heap.size, 0, none⟩)]] wx
          fun e w' => e = .returned (.bool (allN q.reds.length fun i => redOk p (q.red i))) ∧ Below wx.heap.size wx w') := Lib.hid fun wx hx => by
        refine allRed wx _ _ _ _ ((HSx.out wx hx).reds.mono hx.size) 74 _ (fun i => redOk p (q.red i)) (fun args w => by kernel_rfl) ?_
        intro w' hw' i hi
        exact checkSeq2_any w' x p (by have := HL.out; omega) _ _ (HPk.out w' (hx.trans (hw'.mono hx.size)))
      have HCx : Hid (∀ wx, Below w2.heap.size w2 wx → ∀ j u, (plantA x p)[j]? = some u → wx.cell? ⟨w.heap.size, 0 + j, none⟩ = some u) := Lib.hid fun wx hx j u hu => by
        rw [Nat.zero_add]; exact ((HPk.out wx hx).cell j).trans hu
      have HR1 : Hid (∀ wx, Below w2.heap.size w2 wx → wx.cell? ⟨w.heap.size + 1, 1, none⟩ = some (.slice y.rA q.reds.length y.rc)) := Lib.hid fun wx hx => (HY1.out.below hx HY1.out.lt).cell 1
      simp only [plantA] at HOx HCx
      have HQA := Lib.hid HY0.out.lt
      clear HBW HBa HBb HX0 HX1 HB0 HB1 HP HORD HZ1
      have hsl := (HS.out.steps).1
      go_wp2_with fail
      obtain ⟨sA, hsA⟩ : ∃ sA, y.sA = sA := ⟨_, rfl⟩
      rw [hsA]
      obtain ⟨n, hn⟩ : ∃ n, q.steps.length = n := ⟨_, rfl⟩
      rw [hn] at hsl ⊢
      have HSA := Lib.hid hsA
      have HN := Lib.hid hn
      clear hsA hn s0
      go_loopw [5, 33] (fun v i wr => ∃ k : Nat, k ≤ n ∧ i = .int .i64 k ∧ Hid (v = .int .i64 (lastK q k)) ∧ Hid (∀ j, j < k → stepOk p q j = true) ∧ Hid (Below w2.heap.size w2 wr)) (fun _ i _ => n - (intOf i).toNat)
      case atStart => exact ⟨0, Nat.zero_le _, rfl, Lib.hid rfl, Lib.hid fun j hj => absurd hj (by omega), Lib.hid (Below.refl _ _)⟩
      case round =>
        obtain ⟨k, hk, rfl, hv, hok, hb⟩ := hrel
        obtain rfl := hv.out
        by_cases hlt : k < n
        · have hlt' : k < q.steps.length := by rw [HN.out]; exact hlt
          have hki : (k : Int) < (n : Int) := by omega
          obtain ⟨b, off, hA, hB, d0, d1, d2⟩ := (HSx.out wr hb.out).steps.at3 hlt'
          simp only [stepC] at d0 d1 d2
          rw [HSA.out] at hA
          subst hA
          have hbz : b < wr.heap.size := by have := hb.out.size; have := HZ2.out; omega
          have hb0z : w.heap.size < wr.heap.size := by have := hb.out.size; have := HZ2.out; omega
          obtain ⟨W3, hW3⟩ : ∃ W3, W3 = wr.alloc (.cells #[.int .i64 (q.step k).at_, .slice (y.oA k) (q.step k).orders.length (y.oc k), .slice (y.nA k) (q.step k).needs.length (y.nc k)] 90) := ⟨_, rfl⟩
          have HB3 : Hid (Below w2.heap.size w2 W3) := Lib.hid (by rw [hW3]; exact hb.out.alloc hb.out.size _)
          have HK3 : Hid (Bk W3 wr.heap.size 90 #[.int .i64 (q.step k).at_, .slice (y.oA k) (q.step k).orders.length (y.oc k), .slice (y.nA k) (q.step k).needs.length (y.nc k)]) := Lib.hid (by rw [hW3]; exact Bk.new _ _ _)
          have HW3 := Lib.hid hW3
          have HST := Lib.hid (stepOk_last hok.out)
          clear hW3
          have finF : stepOk p q k = false → seqB p q = false := fun h => by
            rw [HF.out, show allN q.steps.length (stepOk p q) = false from allN_false hlt' h]; simp
          have FINF := Lib.hid finF
          clear finF
          go_wp2_with fail
          refine (within_any _ _ _ _).mono ?_
          rintro e w' ⟨rfl, rfl⟩
          rw [← HW3.out]
          cases hi1 : inB (q.step k).at_ (lastK q k) 10000 with
          | false =>
            go_wp2_with fail
            go_ret
            exact ⟨ret_bool (FINF.out (by rw [HST.out, hi1]; rfl)).symm, HBc.out.trans (HB3.out.mono HBc.out.size)⟩
          | true =>
            have HI1 := Lib.hid hi1
            clear hi1
            have c0 : W3.cell? ⟨w.heap.size, 0, none⟩ = some (.slice x.tA p.tanks.length x.tc) := by have := HCx.out W3 HB3.out 0 _ rfl; simpa using this
            have c1 : W3.cell? ⟨w.heap.size, 1, none⟩ = some (.slice x.vA p.valves.length x.vc) := by have := HCx.out W3 HB3.out 1 _ rfl; simpa using this
            have c2 : W3.cell? ⟨w.heap.size, 2, none⟩ = some (.slice x.lA p.lines.length x.lc) := by have := HCx.out W3 HB3.out 2 _ rfl; simpa using this
            have c3 : W3.cell? ⟨w.heap.size, 3, none⟩ = some (.slice x.nA p.never.length x.nc) := by have := HCx.out W3 HB3.out 3 _ rfl; simpa using this
            have e1 : W3.cell? ⟨wr.heap.size, 1, none⟩ = some (.slice (y.oA k) (q.step k).orders.length (y.oc k)) := HK3.out.cell 1
            go_wp2_with fail
            refine (HOx.out W3 HB3.out k hlt').mono ?_
            rintro e w4 ⟨rfl, hb4⟩
            have HB4 : Hid (Below w2.heap.size w2 w4) := Lib.hid (HB3.out.trans (hb4.mono HB3.out.size))
            have HK4 := Lib.hid (HK3.out.below hb4 HK3.out.lt)
            clear hb4 c0 c1 c2 c3 e1 d0 d1 d2
            have e0 : w4.cell? ⟨wr.heap.size, 0, none⟩ = some (.int .i64 (q.step k).at_) := HK4.out.cell 0
            have e2 : w4.cell? ⟨wr.heap.size, 2, none⟩ = some (.slice (y.nA k) (q.step k).needs.length (y.nc k)) := HK4.out.cell 2
            cases ho1 : ordsOk p.valves.length (q.step k).orders with
            | false =>
              go_wp2_with fail
              go_ret
              exact ⟨ret_bool (FINF.out (by rw [HST.out, ho1]; simp)).symm, HBc.out.trans (HB4.out.mono HBc.out.size)⟩
            | true =>
              have HO1 := Lib.hid ho1
              clear ho1
              by_cases hn16 : (16 : Int) < ((q.step k).needs.length : Int)
              · go_wp2_with fail
                go_ret
                exact ⟨ret_bool (FINF.out (by rw [HST.out, show needsOk p (q.step k).needs = false from by unfold needsOk; rw [show decide (((q.step k).needs.length : Int) ≤ 16) = false from decide_eq_false (by omega)]; rfl]; simp)).symm, HBc.out.trans (HB4.out.mono HBc.out.size)⟩
              · go_wp2_with fail
                refine (HNx.out w4 HB4.out k hlt').mono ?_
                rintro e w5 ⟨rfl, hb5⟩
                have HB5 : Hid (Below w2.heap.size w2 w5) := Lib.hid (HB4.out.trans (hb5.mono HB4.out.size))
                have e05 : w5.cell? ⟨wr.heap.size, 0, none⟩ = some (.int .i64 (q.step k).at_) := (HK4.out.below hb5 HK4.out.lt).cell 0
                have HD16 : Hid (decide (((q.step k).needs.length : Int) ≤ 16) = true) := Lib.hid (decide_eq_true (by omega))
                clear hb5 e0 e2
                cases hns : allN (q.step k).needs.length fun i => needOk p ((q.step k).needs.getD i need0) with
                | false =>
                  go_wp2_with fail
                  go_ret
                  exact ⟨ret_bool (FINF.out (by rw [HST.out, show needsOk p (q.step k).needs = false from by unfold needsOk; rw [hns]; simp]; simp)).symm, HBc.out.trans (HB5.out.mono HBc.out.size)⟩
                | true =>
                  have HNS : Hid (stepOk p q k = true) := Lib.hid (by rw [HST.out, HI1.out, HO1.out, show needsOk p (q.step k).needs = true from by unfold needsOk; rw [hns, HD16.out]; rfl]; rfl)
                  clear hns
                  go_wp2_with fail
                  go_roundw
                  case rel => exact ⟨k + 1, by omega, by go_num, Lib.hid rfl, Lib.hid fun j hj => if e : j = k then by subst e; exact HNS.out else hok.out j (by omega), HB5⟩
                  case measure => simp [intOf]; omega
        · obtain rfl : k = n := by omega
          have r1 := HR1.out wr hb.out
          have HAL : Hid (allN q.steps.length (stepOk p q) = true) := Lib.hid (allN_true (by rw [HN.out]; exact hok.out))
          go_wp2_with fail
          refine (HRx.out wr hb.out).mono ?_
          rintro e w5 ⟨rfl, hb5⟩
          have HB5 : Hid (Below w2.heap.size w2 w5) := Lib.hid (hb.out.trans (hb5.mono hb.out.size))
          clear hb5
          go_wp2_with fail
          go_ret
          exact ⟨ret_bool (by rw [HF.out, HPB.out, HAB.out, HAL.out, show decide ((q.steps.length : Int) ≤ 64) = true from decide_eq_true (by omega), show decide ((q.reds.length : Int) ≤ 16) = true from decide_eq_true (by omega)]; rfl), HBc.out.trans (HB5.out.mono HBc.out.size)⟩
end Go.Proofs.YtogobjmmgjfjjaaGreat
/- What is proved: contracts of ullageref07's Need, orders, CheckSequence, Long. Conditions: the plant and the sequence lie in memory as the plain data say. -/
namespace Go.Proofs.YtogobjmmgjfjjaaGreat
open Go.RowKit
end Go.Proofs.YtogobjmmgjfjjaaGreat
/- What is proved: contracts of ullageref07's orders and Long. Conditions: the plant and the sequence lie in memory as the plain data say. -/
namespace Go.Proofs.YtogobjmmgjfjjaaGreat
open Go.RowKit
/-- A Bool is handed back. -/
def SomeBool (w : World) (e : Ending) (w' : World) : Prop := ∃ b, e = .returned (.bool b) ∧ Below w.heap.size w w'
set_option maxRecDepth 100000 in
set_option maxHeartbeats 4000000 in
theorem long_any (w : World) (y : QV) (q : SeqD) (hq : SeqAt w w.heap.size y q) :
    Calls Tryz.prog 17 #[.agg (seqA y q)] w (SomeBool w) := by
  obtain ⟨W, hW⟩ : ∃ W, W = w.alloc (.cells (seqA y q) 43) := ⟨_, rfl⟩
  have hbW : Below w.heap.size w W := by rw [hW]; exact (Below.refl _ _).alloc (Nat.le_refl _) _
  have hb0 : Bk W w.heap.size 43 (seqA y q) := by rw [hW]; exact Bk.new _ _ _
  have HB := Lib.hid hbW
  have HB0 := Lib.hid hb0
  have HS := Lib.hid (hq.below hbW)
  have hsl := hq.steps.1
  have hra := hq.reds.1
  have hab := hq.abort.1
  have HW := Lib.hid hW
  have s2 : W.cell? ⟨w.heap.size, 2, none⟩ = some (.slice y.aA q.abort.length y.ac) := hb0.cell 2
  simp only [seqA] at HW
  clear hW hbW hb0 hq
  dsimp only [seqA]
  go_enter Tryz.func17, Tryz.ntmps17
  go_wp2_with fail
  rw [← HW.out]
  obtain ⟨n, hn⟩ : ∃ n, q.steps.length = n := ⟨_, rfl⟩
  obtain ⟨sA, hsA⟩ : ∃ sA, y.sA = sA := ⟨_, rfl⟩
  rw [hn] at hsl ⊢
  rw [hsA]
  have HN := Lib.hid hn
  have HSA := Lib.hid hsA
  clear hn hsA
  go_loopw [3, 4] (fun m i wr => (∃ k : Nat, k ≤ n ∧ i = .int .i64 k) ∧ (∃ j : Int, m = .int .i64 j) ∧ Hid (Below W.heap.size W wr)) (fun _ i _ => n - (intOf i).toNat)
  case atStart => exact ⟨⟨0, Nat.zero_le _, rfl⟩, ⟨_, rfl⟩, Lib.hid (Below.refl _ _)⟩
  case round =>
    obtain ⟨⟨k, hk, rfl⟩, ⟨m, rfl⟩, hb⟩ := hrel
    have s0 : wr.cell? ⟨w.heap.size, 0, none⟩ = some (.slice sA n y.sc) := by
      rw [← HN.out, ← HSA.out]; exact (HB0.out.below hb.out HB0.out.lt).cell 0
    have s1 : wr.cell? ⟨w.heap.size, 1, none⟩ = some (.slice y.rA q.reds.length y.rc) := (HB0.out.below hb.out HB0.out.lt).cell 1
    have HEND : Hid (Below w.heap.size w wr) := Lib.hid (HB.out.trans (hb.out.mono HB.out.size))
    by_cases hlt : k < n ∧ k < 70
    · obtain ⟨hlt, h70⟩ := hlt
      have hki : (k : Int) < (n : Int) := by omega
      have h70i : (k : Int) < 70 := by omega
      have h0i : (0 : Int) ≤ (k : Int) := by omega
      obtain ⟨b, off, hA, hB', d0, d1, d2⟩ := (HS.out.below (hb.out.mono HB.out.size)).steps.at3 (by rw [HN.out]; exact hlt)
      rw [HSA.out] at hA
      subst hA
      simp only [stepC] at d0 d1 d2
      have o1 := ((HS.out.so k (by rw [HN.out]; exact hlt))).1
      have o2 := ((HS.out.sn k (by rw [HN.out]; exact hlt))).1
      have q0 : ∀ y_1 : Ext wr, y_1.w.cell? ⟨w.heap.size, 0, none⟩ = some (.slice (some ⟨b, off, none⟩) n y.sc) := Ext.cell s0
      have q1 : ∀ y_1 : Ext wr, y_1.w.cell? ⟨b, off + k * 3 + 1, none⟩ = some (.slice (y.oA k) (q.step k).orders.length (y.oc k)) := Ext.cell d1
      have q2 : ∀ y_1 : Ext wr, y_1.w.cell? ⟨b, off + k * 3 + 2, none⟩ = some (.slice (y.nA k) (q.step k).needs.length (y.nc k)) := Ext.cell d2
      go_wp2_with fail
      refine wp_region_ext_quiet (by kernel_rfl) (by kernel_rfl) ?_
      repeat (go_big_quiet_step (fail))
      refine wpQuiet_nil ?_
      intro w1 hw1
      have p0 : w1.cell? ⟨w.heap.size, 0, none⟩ = some (.slice (some ⟨b, off, none⟩) n y.sc) := q0 ⟨w1, hw1⟩
      have p1 : w1.cell? ⟨b, off + k * 3, none⟩ = some (.int .i64 (q.step k).at_) := Ext.cell d0 ⟨w1, hw1⟩
      have HB1 := Lib.hid (hb.out.trans (hw1.mono hb.out.size))
      have HE1 := Lib.hid (HEND.out.trans (hw1.mono HEND.out.size))
      clear q0 q1 q2 d0 d1 d2 s0 s1 hw1
      by_cases h1 : 200 < (q.step k).at_
      · by_cases h2 : (q.step k).at_ ≤ 10000
        · go_wp2_with fail
          go_ret
          exact ⟨_, rfl, HE1.out⟩
        · go_wp2_with fail
          go_roundw
          case rel => exact ⟨⟨k + 1, by omega, by go_num⟩, ⟨_, rfl⟩, HB1⟩
          case measure => simp [intOf]; omega
      · go_wp2_with fail
        go_roundw
        case rel => exact ⟨⟨k + 1, by omega, by go_num⟩, ⟨_, rfl⟩, HB1⟩
        case measure => simp [intOf]; omega
    · by_cases hkn : k < n
      · have h70 : ¬ (k : Int) < 70 := by omega
        have g1 : (70 : Int) < (n : Int) := by omega
        go_wp2_with fail
        go_ret
        exact ⟨_, rfl, HEND.out⟩
      · obtain rfl : k = n := by omega
        clear hlt hkn hk
        by_cases g1 : (70 : Int) < (k : Int)
        · go_wp2_with fail
          go_ret
          exact ⟨_, rfl, HEND.out⟩
        · by_cases g2 : (20 : Int) < (q.reds.length : Int)
          · go_wp2_with fail
            go_ret
            exact ⟨_, rfl, HEND.out⟩
          · go_wp2_with fail
            go_ret
            exact ⟨_, rfl, HEND.out⟩
end Go.Proofs.YtogobjmmgjfjjaaGreat
/- What is proved: a contract of ullageref07.CheckSequence. Conditions: the plant and the sequence lie in memory as the plain data say. -/
namespace Go.Proofs.YtogobjmmgjfjjaaGreat
open Go.RowKit
end Go.Proofs.YtogobjmmgjfjjaaGreat
/- What is proved: the law EngineChecks answers true. Conditions: the plant and the sequence lie in memory. -/
namespace Go.Proofs.YtogobjmmgjfjjaaGreat
open Go.RowKit
end Go.Proofs.YtogobjmmgjfjjaaGreat
/- What is proved: what the form's reading of a sequence says of the cells. Conditions: those that each lemma states. -/
namespace Go.Proofs.YtogobjmmgjfjjaaGreat
open Go.ChangeShapes Go.WideShapes Go.ChangeAt Go.RowKit

section
variable {H : Type} {enc : TypeId × Value → H} {w : World} {cs : List Value}
theorem und_stepS : Tryz.prog.underlying 90 = some (.struct (structOf Tryz.prog 90)) := by kernel_rfl
theorem und_redS : Tryz.prog.underlying 96 = some (.struct (structOf Tryz.prog 96)) := by kernel_rfl
theorem und_seqS : Tryz.prog.underlying 43 = some (.struct (structOf Tryz.prog 43)) := by kernel_rfl
theorem und_orderS : Tryz.prog.underlying 38 = some (.struct (structOf Tryz.prog 38)) := by kernel_rfl
theorem rwNeedC (h : RdW enc Tryz.prog w 70 cs) : cs.length = 4 ∧ ∃ n : NeedD, ∀ j, j < 4 → cs[j]? = some (needC n j) := by
  obtain ⟨h1, a, b, c, d, e0, e1, e2, e3⟩ := rwFour h und_needS (by kernel_rfl)
  rw [show Tryz.prog.cellsOf 70 = 4 from by kernel_rfl] at h1
  refine ⟨h1, ⟨a, b, c, d⟩, fun j hj => ?_⟩
  match j, hj with
  | 0, _ => exact e0
  | 1, _ => exact e1
  | 2, _ => exact e2
  | 3, _ => exact e3
theorem rwOrd (h : RdW enc Tryz.prog w 38 cs) : ∃ y : LitD, True ∧ ∀ j, j < 2 → cs[j]? = some (litC y j) := by
  obtain ⟨_, h2⟩ := h.fields (l := [(3, 0), (4, 1)]) und_orderS (by kernel_rfl)
  obtain ⟨b, e1, _⟩ := rwInt (h2 (3, 0) (by simp))
  obtain ⟨c, e2⟩ := rwBool (h2 (4, 1) (by simp))
  refine ⟨⟨b, c⟩, trivial, fun j hj => ?_⟩
  match j, hj with
  | 0, _ => exact e1
  | 1, _ => exact e2
theorem rwOrds (h : RdW enc Tryz.prog w 31 cs) : ∃ (A : Option Addr) (c : Nat) (l : List LitD), cs = [.slice A l.length c] ∧ LitsAt w w.heap.size A l := by
  obtain ⟨A, c, l, e, _, hs, _⟩ := h.list litC (fun _ => True) lit0 (e := 38) (by kernel_rfl) (k := 2) (by kernel_rfl) (by omega) (fun l _ hr => rwOrd hr)
  exact ⟨A, c, l, e, hs⟩
theorem rwNeeds (h : RdW enc Tryz.prog w 88 cs) : ∃ (A : Option Addr) (c : Nat) (l : List NeedD), cs = [.slice A l.length c] ∧ NeedsAt w w.heap.size A l := by
  obtain ⟨A, c, l, e, _, hs, _⟩ := h.list needC (fun _ => True) need0 (e := 70) (by kernel_rfl) (k := 4) (by kernel_rfl) (by omega) (fun l _ hr => by
    obtain ⟨_, n, hn⟩ := rwNeedC hr
    exact ⟨n, trivial, hn⟩)
  exact ⟨A, c, l, e, hs⟩
theorem rwRed (h : RdW enc Tryz.prog w 96 cs) : ∃ y : RedD, True ∧ ∀ j, j < 5 → cs[j]? = some (redC y j) := by
  obtain ⟨_, h2⟩ := h.fields (l := [(70, 0), (3, 4)]) und_redS (by kernel_rfl)
  obtain ⟨_, n, hn⟩ := rwNeedC (h2 (70, 0) (by simp))
  obtain ⟨t, e, _⟩ := rwInt (h2 (3, 4) (by simp))
  rw [show Tryz.prog.cellsOf 70 = 4 from by kernel_rfl] at hn
  have g : ∀ j, j < 4 → cs[j]? = some (needC n j) := fun j hj => by
    have := hn j hj
    simpa [List.getElem?_take, hj] using this
  refine ⟨⟨n, t⟩, trivial, fun j hj => ?_⟩
  match j, hj with
  | 0, _ => exact g 0 (by omega)
  | 1, _ => exact g 1 (by omega)
  | 2, _ => exact g 2 (by omega)
  | 3, _ => exact g 3 (by omega)
  | 4, _ => exact e
/-- A step, and where its lists lie. -/
structure StepY where
  oA : Option Addr
  oc : Nat
  nA : Option Addr
  nc : Nat
  s : StepD
def stepY0 : StepY := ⟨none, 0, none, 0, step0⟩
def stepYC (y : StepY) (j : Nat) : Value := stepC y.oA y.oc y.nA y.nc y.s j
theorem rwStep (h : RdW enc Tryz.prog w 90 cs) : ∃ y : StepY, (LitsAt w w.heap.size y.oA y.s.orders ∧ NeedsAt w w.heap.size y.nA y.s.needs) ∧ ∀ j, j < 3 → cs[j]? = some (stepYC y j) := by
  obtain ⟨_, h2⟩ := h.fields (l := [(3, 0), (31, 1), (88, 2)]) und_stepS (by kernel_rfl)
  obtain ⟨a, e0, _⟩ := rwInt (h2 (3, 0) (by simp))
  obtain ⟨oA, oc, ol, e1, ho⟩ := rwOrds (h2 (31, 1) (by simp))
  obtain ⟨nA, nc, nl, e2, hn⟩ := rwNeeds (h2 (88, 2) (by simp))
  rw [show Tryz.prog.cellsOf 31 = 1 from by kernel_rfl] at e1
  rw [show Tryz.prog.cellsOf 88 = 1 from by kernel_rfl] at e2
  refine ⟨⟨oA, oc, nA, nc, ⟨a, ol, nl⟩⟩, ⟨ho, hn⟩, fun j hj => ?_⟩
  match j, hj with
  | 0, _ => exact e0
  | 1, _ => exact row_get e1
  | 2, _ => exact row_get e2
theorem rwSeq (h : RdW enc Tryz.prog w 43 cs) : cs.length = 3 ∧ ∃ (y : QV) (q : SeqD), (∀ j : Nat, cs[j]? = (seqA y q)[j]?) ∧ SeqAt w w.heap.size y q := by
  obtain ⟨hlen, h2⟩ := h.fields (l := [(40, 0), (41, 1), (31, 2)]) und_seqS (by kernel_rfl)
  rw [show Tryz.prog.cellsOf 43 = 3 from by kernel_rfl] at hlen
  obtain ⟨sA, sc, sl, e0, hqs, hs, _⟩ := (h2 (40, 0) (by simp)).list stepYC (fun y => LitsAt w w.heap.size y.oA y.s.orders ∧ NeedsAt w w.heap.size y.nA y.s.needs) stepY0 (e := 90) (by kernel_rfl) (k := 3) (by kernel_rfl) (by omega) (fun l _ hr => rwStep hr)
  obtain ⟨rA, rc, rl, e1, _, hr, _⟩ := (h2 (41, 1) (by simp)).list redC (fun _ => True) red0 (e := 96) (by kernel_rfl) (k := 5) (by kernel_rfl) (by omega) (fun l _ hr => rwRed hr)
  obtain ⟨aA, ac, al, e2, ha⟩ := rwOrds (h2 (31, 2) (by simp))
  rw [show Tryz.prog.cellsOf 40 = 1 from by kernel_rfl] at e0
  rw [show Tryz.prog.cellsOf 41 = 1 from by kernel_rfl] at e1
  rw [show Tryz.prog.cellsOf 31 = 1 from by kernel_rfl] at e2
  refine ⟨hlen, ⟨sA, sc, rA, rc, aA, ac, fun i => (sl.getD i stepY0).oA, fun i => (sl.getD i stepY0).oc, fun i => (sl.getD i stepY0).nA, fun i => (sl.getD i stepY0).nc⟩, ⟨sl.map (·.s), rl, al⟩, fun j => ?_, ?_, fun i hi => ?_, fun i hi => ?_, hr, ha⟩
  · simp only [seqA, List.length_map]
    match j with
    | 0 => exact row_get e0
    | 1 => exact row_get e1
    | 2 => exact row_get e2
    | j + 3 => rw [List.getElem?_eq_none (by omega)]; simp
  · rw [List.length_map]
    refine Sl.congr hs fun i hi j hj => ?_
    show stepYC _ j = stepC _ _ _ _ (SeqD.step _ i) j
    unfold SeqD.step stepYC
    rw [map_getD sl (·.s) i stepY0 step0 hi]
  · simp only [List.length_map] at hi
    unfold SeqD.step
    rw [map_getD sl (·.s) i stepY0 step0 hi]
    refine (hqs _ ?_).1
    rw [List.getD_eq_getElem?_getD, List.getElem?_eq_getElem hi]; exact List.getElem_mem hi
  · simp only [List.length_map] at hi
    unfold SeqD.step
    rw [map_getD sl (·.s) i stepY0 step0 hi]
    refine (hqs _ ?_).2
    rw [List.getD_eq_getElem?_getD, List.getElem?_eq_getElem hi]; exact List.getElem_mem hi
end
end Go.Proofs.YtogobjmmgjfjjaaGreat
