/- What is proved: the texts Ae Af Ag Ah, one behind the other; each says at its head what it proves, and under which conditions. -/
import Derived.RangeFuncNested
import Derived.RangeFuncLeaves
import Derived.Sort.QuietIn
import Derived.RangeFuncBound
import Derived.RangeFuncCalls
import Derived.Shelf.Abstract
import Derived.Shelf.RegionOpen
import Derived.WalkKit
import Derived.OwnWalkIn
import Derived.TacticsInMore
import Derived.LoopNIn
import Derived.LoopIn
import Derived.Test.Ytnmccbjdfdbgpaam4
/- What is proved: nothing of Go: the best of the jobs that wait, one after the other; what is left of the marks that loops over functions leave. Conditions: those that each lemma states. -/
namespace Go.Proofs.Ytnmccbjdfdbgpaa
open Go.RowKit

/-- The best of some jobs, in their order. -/
def bestS (L : List JobD) (o : Option Nat) (i : Nat) : Option Nat := match o with
  | none => some i
  | some b => if (JobD.at_ L i).fin < (JobD.at_ L b).fin then some i else some b
def bestL (L : List JobD) (l : List Nat) : Option Nat := l.foldl (bestS L) none
theorem bestL_snoc (L : List JobD) (l : List Nat) (i : Nat) : bestL L (l ++ [i]) = bestS L (bestL L l) i := by simp [bestL, List.foldl_append]
theorem bestL_all (L : List JobD) (Lf : Nat → Nat) (t : Nat) : ∀ k, bestL L ((List.range k).filter (waitB L Lf t)) = bestK L Lf t k
  | 0 => rfl
  | k + 1 => by
    rw [List.range_succ, List.filter_append]
    unfold bestK
    by_cases h : waitB L Lf t k = true
    · rw [List.filter_cons_of_pos h, List.filter_nil, bestL_snoc, bestL_all L Lf t k, if_pos h]
      unfold bestS
      cases bestK L Lf t k <;> rfl
    · rw [List.filter_cons_of_neg h, List.filter_nil, List.append_nil, bestL_all L Lf t k, if_neg h]
theorem bestL_mem {L : List JobD} {l : List Nat} {b : Nat} (h : bestL L l = some b) : b ∈ l := by
  have key : ∀ (l : List Nat) (o : Option Nat), l.foldl (bestS L) o = some b → b ∈ l ∨ o = some b := by
    intro l
    induction l with
    | nil => exact fun o h => Or.inr h
    | cons x l ih =>
      intro o h
      rcases ih _ h with h1 | h1
      · exact Or.inl (List.mem_cons_of_mem _ h1)
      · unfold bestS at h1
        split at h1
        · simp only [Option.some.injEq] at h1; subst h1; exact Or.inl (List.mem_cons_self ..)
        · split at h1
          · simp only [Option.some.injEq] at h1; subst h1; exact Or.inl (List.mem_cons_self ..)
          · exact Or.inr h1
  rcases key l none h with h | h
  · exact h
  · cases h
/-- The jobs among the first k that wait. -/
def waitL (L : List JobD) (Lf : Nat → Nat) (t : Nat) (k : Nat) : List Nat := (List.range k).filter (waitB L Lf t)
theorem waitL_yes {L : List JobD} {Lf : Nat → Nat} {t k : Nat} (h : waitB L Lf t k = true) : waitL L Lf t (k + 1) = waitL L Lf t k ++ [k] := by
  unfold waitL; rw [List.range_succ, List.filter_append, List.filter_cons_of_pos h, List.filter_nil]
theorem waitL_no {L : List JobD} {Lf : Nat → Nat} {t k : Nat} (h : ¬ waitB L Lf t k = true) : waitL L Lf t (k + 1) = waitL L Lf t k := by
  unfold waitL; rw [List.range_succ, List.filter_append, List.filter_cons_of_neg h, List.filter_nil, List.append_nil]
theorem waitL_len (L : List JobD) (Lf : Nat → Nat) (t k : Nat) : (waitL L Lf t k).length ≤ k := by
  unfold waitL
  exact Nat.le_trans (List.length_filter_le _ _) (by simp)
theorem waitL_mono (L : List JobD) (Lf : Nat → Nat) (t k : Nat) : ∀ q, (waitL L Lf t k).length ≤ (waitL L Lf t (k + q)).length
  | 0 => Nat.le_refl _
  | q + 1 => by
    refine Nat.le_trans (waitL_mono L Lf t k q) ?_
    rw [show k + (q + 1) = (k + q) + 1 from by omega]
    by_cases h : waitB L Lf t (k + q) = true
    · rw [waitL_yes h]; simp
    · rw [waitL_no h]; exact Nat.le_refl _
theorem waitL_lt {L : List JobD} {Lf : Nat → Nat} {t k n : Nat} (h : waitB L Lf t k = true) (hk : k < n) : (waitL L Lf t k).length < (waitL L Lf t n).length := by
  obtain ⟨q, rfl⟩ := Nat.exists_eq_add_of_lt hk
  have h1 := waitL_mono L Lf t (k + 1) q
  rw [waitL_yes h, List.length_append, List.length_singleton] at h1
  rw [show k + q + 1 = k + 1 + q from by omega]
  omega
theorem waitL_pre (L : List JobD) (Lf : Nat → Nat) (t k n : Nat) (hk : k < n) : waitL L Lf t (k + 1) <+: waitL L Lf t n := by
  obtain ⟨q, rfl⟩ := Nat.exists_eq_add_of_lt hk
  rw [show k + q + 1 = k + 1 + q from by omega]
  clear hk
  induction q with
  | zero => exact List.prefix_refl _
  | succ q ih =>
    refine ih.trans ?_
    rw [show k + 1 + (q + 1) = (k + 1 + q) + 1 from by omega]
    by_cases h : waitB L Lf t (k + 1 + q) = true
    · rw [waitL_yes h]; exact List.prefix_append _ _
    · rw [waitL_no h]; exact List.prefix_refl _

/-! The marks. -/
def markD (D : Nat) : Deferred := { target := .collected D, args := #[] }
def Marks (n₀ : Nat) (Ds : List Nat) (w : World) : Prop := Ds.Nodup ∧ ∀ D ∈ Ds, n₀ ≤ D ∧ w.heap[D]? = some (.deferred (some []))
/-- Only blocks that are no cells have turned, from n0 on. -/
def Shut (n₀ : Nat) (w w' : World) : Prop := Below n₀ w w' ∧ w'.heap.size = w.heap.size ∧ ∀ b cs t, Bk w b t cs → Bk w' b t cs
theorem Shut.refl (n₀ : Nat) (w : World) : Shut n₀ w w := ⟨Below.refl _ _, rfl, fun _ _ _ h => h⟩
theorem Marks.leaves {F : Fence} {n : Nat} {P : Program} {fn : Func} {tmps : Array Value} {R : Ending → World → Prop} {n₀ : Nat} : ∀ {Ds : List Nat} {w : World}, n₀ ≤ w.heap.size → Marks n₀ Ds w →
    (∀ w', Shut n₀ w w' → ∃ v, (results fn tmps).run P w' = .ok v w' ∧ R (.returned v) w') → LeavesInM F n P fn tmps R (Ds.map markD) .returning w
  | [], w, _, _, h => h w (Shut.refl _ _)
  | D :: Ds, w, hs, hm, h => by
    have hD := hm.2 D (List.mem_cons_self ..)
    have hlt : D < w.heap.size := (Array.getElem?_eq_some_iff.1 hD.2).1
    have hnd := List.nodup_cons.1 hm.1
    refine ⟨by simp, .inl ⟨D, w.putObj D (.deferred none), rfl, run_takeDeferred hD.2, ?_⟩⟩
    have hsh : Shut n₀ w (w.putObj D (.deferred none)) := by
      refine ⟨(Below.refl n₀ w).grown (grownBy_putObj' w D _) hs (fun k e => by cases e; exact hD.1), by simp, fun b cs t hb => ?_⟩
      refine (World.putObj_heap_other (fun e => ?_)).trans hb
      subst e
      have hb' : w.heap[b]? = _ := hb
      rw [hD.2] at hb'; cases hb'
    refine Marks.leaves (n₀ := n₀) (by rw [hsh.2.1]; exact hs) ⟨hnd.2, fun E hE => ?_⟩ fun w' hw' => h w' ?_
    · have := hm.2 E (List.mem_cons_of_mem _ hE)
      exact ⟨this.1, (World.putObj_heap_other (k := E) (r := D) (by intro e; rw [e] at hE; exact hnd.1 hE)).trans this.2⟩
    · exact ⟨hsh.1.trans hw'.1, hw'.2.1.trans hsh.2.1, fun b cs t hb => hw'.2.2 b cs t (hsh.2.2 b cs t hb)⟩

/-! A quiet region within a round. -/
section
variable {F : Fence} {n : Nat} {P : Program} {ops : Array Oper} {C : World → Prop}
def noDefer (o : Oper) : Bool := match o.op with | .defer _ => false | _ => true
theorem wpIn_of_quietR {o : Oper} {a : Act} {K : Act → Prop} {K' : Act → World → Prop} {Q' : Exit → Act → World → Prop} {w : World} (l₀ : Nat) (hro : F.round = some l₀) (hd : noDefer o = true) (hw : C w) (h : ∀ a w', C w' → K a → K' a w')
    (ha : o.askedIn F P a C) (hh : o.quietIn F n P a C K) : o.wpIn F n P a w K' Q' := by
  obtain ⟨v, h1, h2⟩ := hh
  have h3 := h1 w hw
  unfold Oper.quietAtIn at h3
  unfold Oper.wpIn
  refine ⟨ha w hw, ?_⟩
  rw [hro, Oper.semAt_some l₀ _ _ (fun c hc => by unfold noDefer at hd; rw [hc] at hd; cases hd)]
  generalize (execOp a.eval o).run P w = r at *
  cases r with
  | ok x w' =>
    cases x <;> simp only [Oper.quietUponIn] at h3 <;> simp only [Oper.uponIn]
    case value u =>
      obtain ⟨e1, e2⟩ := h3
      rw [e1, e2]
      exact h _ _ hw h2
    case skip =>
      obtain ⟨e1, e2⟩ := h3
      rw [e1, ← e2]
      exact h _ _ hw h2
    case enter f args =>
      obtain ⟨e1, hd, hc⟩ := h3
      rw [e1]
      exact ⟨hd, hc.mono fun e w'' ⟨he, hw''⟩ => by subst he; exact h _ _ hw'' h2⟩
  | halt x w' => simp only [Oper.quietUponIn] at h3
theorem wpOpIn_of_qOpR {i : Nat} {a : Act} {K : Act → Prop} {K' : Act → World → Prop} {Q' : Exit → Act → World → Prop} {w : World} (l₀ : Nat) (hro : F.round = some l₀) (hd : ops.toList.all noDefer = true) (hC : C w) (h : ∀ a w', C w' → K a → K' a w')
    (hh : qOpIn F n P ops C i K a) : wpOpIn F n P ops Q' i K' a w := by
  unfold qOpIn at hh
  unfold wpOpIn
  split
  · rename_i ho; simp only [ho] at hh; exact h _ _ hC hh
  · rename_i o ho
    simp only [ho] at hh
    obtain ⟨ha, hh⟩ := hh
    have hdo : noDefer o = true := List.all_eq_true.1 hd o (by
      have := Array.mem_of_getElem? ho
      exact Array.mem_toList_iff.2 this)
    split
    · rename_i hw; simp only [hw, if_true] at hh; exact wpIn_of_quietR l₀ hro hdo hC h ha hh
    · rename_i hw; simp only [hw] at hh; exact ⟨ha w hC, h _ _ hC hh⟩
theorem wpAnyIn_of_quietR {Q : Act → Prop} {Q' : Exit → Act → World → Prop} {md : Region.Mode} (l₀ : Nat) (hro : F.round = some l₀) (hd : ops.toList.all noDefer = true) (hQ : ∀ a w, C w → Q a → Q' .normal a w) : ∀ (fuel : Nat) (listed : Array Bool) (a : Act) (w : World), C w →
    wpAnyQIn F n P md ops C Q fuel listed a → wpAnyIn F n P md ops Q' fuel listed a w
  | 0, _, _, _, hw, h => ⟨h.1, hQ _ _ hw h.2⟩
  | fuel + 1, _, _, _, hw, h => ⟨fun h0 => hQ _ _ hw (h.1 h0), fun i hi => wpOpIn_of_qOpR l₀ hro hd hw (fun a' w' hw' => wpAnyIn_of_quietR l₀ hro hd hQ fuel _ a' w' hw') (h.2 i hi)⟩
/-- One walk of a quiet region within a round. -/
theorem wpIn_region_quietR {id : Nat} {Q : Exit → Act → World → Prop} {a : Act} {w : World} {l : List Oper} (l₀ : Nat) (hro : F.round = some l₀) (hm : P.follows .mixedOrders = true) (hB : Region.lexB .any l.toArray = true) (hd : l.all noDefer = true)
    (h : wpQuietIn F n P l.toArray (fun w' => ∃ n, w' = w.drewN n) (fun a' => ∀ w', (∃ n, w' = w.drewN n) → Q .normal a' w') l a) : (Code.region id l.toArray true).wpIn F n P Q a w := by
  simp only [Region.lexB, Bool.and_eq_true] at hB
  refine wpIn_region_any hm (wpAnyIn_of_quietR (C := fun w' => ∃ n, w' = w.drewN n) (Q := fun a' => ∀ w', (∃ n, w' = w.drewN n) → Q .normal a' w') l₀ hro (by simpa using hd) (fun _ w' hw' h => h w' hw') _ _ _ _ ⟨1, rfl⟩ ?_)
  have := wpAnyQIn_lex (F := F) (n := n) (C := fun w' => ∃ n, w' = w.drewN n) (md := .any) hB.1 l 0 (Array.replicate l.toArray.size false) a (by simp) (by simpa using hB.2) h
  simpa using this
end
end Go.Proofs.Ytnmccbjdfdbgpaa
/- What is proved: a contract of waiting, and of the function that it hands back. Conditions: the jobs lie in memory, and the loop's body leaves them as they are. -/
namespace Go.Proofs.Ytnmccbjdfdbgpaa
open Go.RowKit Go.Shelf
attribute [local go_sem] Oper.semAt_some

set_option maxHeartbeats 1000000 in
theorem waiting_in (A : Option Addr) (n c : Nat) (t : Int) (w : World) :
    CallsIn Fence.wide 5 Try.prog 74 #[.slice A n c, .int .i64 t] w fun e w' => e = .returned (.func (.func 87) #[] #[.pointer (some ⟨w.heap.size, 0, none⟩), .pointer (some ⟨w.heap.size + 1, 0, none⟩)]) ∧ w' = (w.alloc (.cells #[.slice A n c] 94)).alloc (.cells #[.int .i64 t] 3) := by
  refine callsIn_of_wp Try.func74 rfl trivial ?_ rfl
  simp only [Try.ntmps74, List.size_toArray, List.length_cons, List.length_nil, Nat.reduceAdd, Nat.reduceSub, Array.replicate_succ, Array.replicate_zero, List.push_toArray, List.append_toArray, List.nil_append, List.cons_append]
  gi_wp2
  go_ret
  exact ⟨by simp, rfl⟩

/-- The jobs' cells of a slice from the start of a block on. -/
def JobCells (w : World) (g : Nat) (L : List JobD) (Lf : Nat → Nat) : Prop := ∀ i, i < L.length → ∀ j, j < 4 → w.cell? ⟨g, i * 4 + j, none⟩ = some (jobC (curJ L Lf i) j)
/-- These blocks lie as they lay. -/
def KeepL (Ks : List Nat) (w w' : World) : Prop := ∀ b, b ∈ Ks → w'.heap[b]? = w.heap[b]?
theorem KeepL.refl (Ks : List Nat) (w : World) : KeepL Ks w w := fun _ _ => rfl
theorem KeepL.trans {Ks : List Nat} {a b c : World} (h : KeepL Ks a b) (k : KeepL Ks b c) : KeepL Ks a c := fun x hx => (k x hx).trans (h x hx)
theorem KeepL.drewN {Ks : List Nat} {a b : World} (h : KeepL Ks a b) (m : Nat) : KeepL Ks a (b.drewN m) := fun x hx => h x hx
theorem KeepL.below {Ks : List Nat} {a b : World} {n₀ : Nat} (h : Below n₀ a b) (hk : ∀ x, x ∈ Ks → x < n₀) : KeepL Ks a b := fun x hx => h.block x (hk x hx)
theorem KeepL.cell {Ks : List Nat} {a b : World} (h : KeepL Ks a b) {p : Addr} (hp : p.block ∈ Ks) : b.cell? p = a.cell? p := World.cell?_of_block (h _ hp)
theorem JobCells.keep {w w' : World} {g : Nat} {Ks : List Nat} {L : List JobD} {Lf : Nat → Nat} (h : JobCells w g L Lf) (hb : KeepL Ks w w') (hg : g ∈ Ks) : JobCells w' g L Lf :=
  fun i hi j hj => (hb.cell (p := ⟨g, i * 4 + j, none⟩) hg).trans (h i hi j hj)
def Fin.vals {n : Nat} (l : List (Fin n)) : List Nat := l.map Fin.val
set_option maxRecDepth 100000 in
set_option maxHeartbeats 4000000 in
theorem waiting1_in (l Bl Bs g c t n : Nat) (L : List JobD) (Lf : Nat → Nat) (hn : n ≤ 4096) (hL : L.length = n) (J Jx : List (Fin n) → World → Prop)
    (hJd : ∀ pre W m, J pre W → J pre (W.drewN m))
    (hY : ∀ pre x W, J pre W → pre.length < (waitL L Lf t n).length → YieldAt Fence.wide 4 Try.prog l #[.pointer (some ⟨g, x.val * 4, none⟩)] W fun e W' =>
      (e = .returned (.bool true) ∧ J (pre ++ [x]) W' ∧ KeepL [g, Bl, Bs] W W') ∨ (e = .returned (.bool false) ∧ Jx (pre ++ [x]) W'))
    (W : World) (hbl : W.cell? ⟨Bl, 0, none⟩ = some (.slice (some ⟨g, 0, none⟩) n c)) (hbs : W.cell? ⟨Bs, 0, none⟩ = some (.int .i64 t)) (hc : JobCells W g L Lf) (h0 : J [] W) :
    CallsIn Fence.wide 5 Try.prog 87 #[.func (.yield l) #[] #[], .pointer (some ⟨Bl, 0, none⟩), .pointer (some ⟨Bs, 0, none⟩)] W fun e W' => (∃ v, e = .returned v) ∧
      ((∃ ys, Fin.vals ys = waitL L Lf t n ∧ J ys W') ∨ (∃ pre, Fin.vals pre <+: waitL L Lf t n ∧ pre ≠ [] ∧ Jx pre W')) := by
  refine callsIn_of_wp Try.func87 rfl trivial ?_ rfl
  simp only [Try.ntmps87, List.size_toArray, List.length_cons, List.length_nil, Nat.reduceAdd, Nat.reduceSub, Array.replicate_succ, Array.replicate_zero, List.push_toArray, List.append_toArray, List.nil_append, List.cons_append]
  have HC := Lib.hid hc
  have hmx : Try.prog.follows .mixedOrders = true := by kernel_rfl
  clear hc
  gi_wp2
  gi_loopw [8] (fun i wr => ∃ (k : Nat) (ys : List (Fin n)), k ≤ n ∧ i = .int .i64 k ∧ Hid (Fin.vals ys = waitL L Lf t k ∧ J ys wr ∧ KeepL [g, Bl, Bs] W wr))
    (fun i _ => n - (intOf i).toNat)
  case atStart => exact ⟨0, [], Nat.zero_le _, rfl, Lib.hid ⟨rfl, h0, KeepL.refl _ _⟩⟩
  case round =>
    obtain ⟨k, ys, hk, rfl, hs⟩ := hrel
    have fl : wr.cell? ⟨Bl, 0, none⟩ = some (.slice (some ⟨g, 0, none⟩) n c) := (hs.out.2.2.cell (p := ⟨Bl, 0, none⟩) (by simp)).trans hbl
    have fs : wr.cell? ⟨Bs, 0, none⟩ = some (.int .i64 t) := (hs.out.2.2.cell (p := ⟨Bs, 0, none⟩) (by simp)).trans hbs
    by_cases hlt : k < n
    · have hJC := HC.out.keep hs.out.2.2 (by simp) k (by omega)
      have d1 := hJC 1 (by omega)
      have d3 := hJC 3 (by omega)
      simp only [jobC, curJ] at d1 d3
      have HW : Hid (waitB L Lf t k = (decide ((JobD.at_ L k).src ≤ t) && decide (0 < Lf k))) := Lib.hid rfl
      obtain ⟨sr, hsr⟩ : ∃ sr, (JobD.at_ L k).src = sr := ⟨_, rfl⟩
      obtain ⟨lf, hlf⟩ : ∃ lf, Lf k = lf := ⟨_, rfl⟩
      rw [hsr] at d1 HW
      rw [hlf] at d3 HW
      clear hJC hsr hlf
      by_cases h1 : sr ≤ t
      · have g1 : decide ((sr : Int) ≤ (t : Int)) = true := by simp; omega
        have g1' : (sr : Int) ≤ (t : Int) := by omega
        by_cases h2 : 0 < lf
        · have g2 : decide ((0 : Int) < (lf : Int)) = true := by simp; omega
          have g2' : (0 : Int) < (lf : Int) := by omega
          have hwt : waitB L Lf t k = true := by rw [HW.out]; simp [h1, h2]
          have HNX := Lib.hid (waitL_yes hwt)
          obtain ⟨fn, tmps, assign, body, hy, hR⟩ := hY ys ⟨k, hlt⟩ wr.drew (hJd _ _ 1 hs.out.2.1) (by
            have h3 := waitL_lt hwt hlt
            rw [← hs.out.1] at h3
            simpa [Fin.vals] using h3)
          dsimp only at hy
          gi_wp2
          have hR' := hR.mono (R' := fun e W' => ∃ b, e = .returned (.bool b) ∧ Hid ((b = true ∧ J (ys ++ [⟨k, hlt⟩]) W' ∧ KeepL [g, Bl, Bs] wr.drew W') ∨ (b = false ∧ Jx (ys ++ [⟨k, hlt⟩]) W'))) (by
            rintro e W' (⟨rfl, h1, h2⟩ | ⟨rfl, h1⟩)
            · exact ⟨true, rfl, Lib.hid (.inl ⟨rfl, h1, h2⟩)⟩
            · exact ⟨false, rfl, Lib.hid (.inr ⟨rfl, h1⟩)⟩)
          have HBW : Hid (∀ W', KeepL [g, Bl, Bs] wr.drew W' → KeepL [g, Bl, Bs] W W') := Lib.hid fun W' hb => (hs.out.2.2.drewN 1).trans hb
          have HVS : Hid (Fin.vals (ys ++ [⟨k, hlt⟩]) = waitL L Lf t (k + 1)) := Lib.hid (by rw [HNX.out, ← hs.out.1]; simp [Fin.vals])
          clear hR hY
          gi_region_with_o (refine hR'.mono ?_; clear hR'; rintro e W3 ⟨b, rfl, hb3⟩)
          all_goals (
            cases b with
            | true =>
              gi_wp2
              go_roundw
              case rel =>
                refine ⟨k + 1, ys ++ [⟨k, hlt⟩], by omega, by go_num, Lib.hid ?_⟩
                rcases hb3.out with ⟨_, h3, h4⟩ | ⟨h3, _⟩
                · exact ⟨HVS.out, h3, HBW.out _ h4⟩
                · cases h3
              case measure => simp [intOf]; omega
            | false =>
              gi_wp2
              refine bodyPost_ret (results_none rfl _ _ _) rfl ⟨⟨_, rfl⟩, .inr ⟨ys ++ [⟨k, hlt⟩], ?_, ?_, ?_⟩⟩
              · rw [HVS.out]; exact waitL_pre _ _ _ _ _ hlt
              · simp
              · rcases hb3.out with ⟨h3, _⟩ | ⟨_, h3⟩
                · cases h3
                · exact h3)
        · have g2 : decide ((0 : Int) < (lf : Int)) = false := by simp; omega
          have g2' : ¬ (0 : Int) < (lf : Int) := by omega
          have hwt : ¬ waitB L Lf t k = true := by rw [HW.out]; simp [h2]
          have HNX := Lib.hid (waitL_no hwt)
          gi_wp2
          rw [wpIn_wide]
          go_quiet (fail)
          gi_wp2
          go_roundw
          case rel => exact ⟨k + 1, ys, by omega, by go_num, Lib.hid ⟨by rw [HNX.out]; exact hs.out.1, hJd _ _ _ hs.out.2.1, hs.out.2.2.drewN _⟩⟩
          case measure => simp [intOf]; omega
      · have g1 : decide ((sr : Int) ≤ (t : Int)) = false := by simp; omega
        have g1' : ¬ (sr : Int) ≤ (t : Int) := by omega
        have hwt : ¬ waitB L Lf t k = true := by rw [HW.out]; simp [h1]
        have HNX := Lib.hid (waitL_no hwt)
        gi_wp2
        rw [wpIn_wide]
        go_quiet (fail)
        gi_wp2
        go_roundw
        case rel => exact ⟨k + 1, ys, by omega, by go_num, Lib.hid ⟨by rw [HNX.out]; exact hs.out.1, hJd _ _ _ hs.out.2.1, hs.out.2.2.drewN _⟩⟩
        case measure => simp [intOf]; omega
    · obtain rfl : k = n := by omega
      gi_wp2
      go_end0
      exact ⟨⟨_, rfl⟩, .inl ⟨ys, hs.out.1, hs.out.2.1⟩⟩

/-- waiting hands back a function that stops where its caller wants. -/
theorem waiting_stops (Bl Bs g c t n : Nat) (L : List JobD) (Lf : Nat → Nat) (hn : n ≤ 4096) (hL : L.length = n)
    (w : World) (hg : g < w.heap.size) (hl4 : Bl < w.heap.size) (hs4 : Bs < w.heap.size) (hbl : w.cell? ⟨Bl, 0, none⟩ = some (.slice (some ⟨g, 0, none⟩) n c)) (hbs : w.cell? ⟨Bs, 0, none⟩ = some (.int .i64 t)) (hc : JobCells w g L Lf) :
    SeqStopsK Fence.wide 5 Try.prog 87 #[.pointer (some ⟨Bl, 0, none⟩), .pointer (some ⟨Bs, 0, none⟩)] (fun x : Fin n => #[Value.pointer (some ⟨g, x.val * 4, none⟩)]) (KeepL [g, Bl, Bs])
      (fun ys => Fin.vals ys = waitL L Lf t n) (fun pre => Fin.vals pre <+: waitL L Lf t n ∧ pre ≠ []) (waitL L Lf t n).length w := fun l J Jx W hW hJ _ hY h0 => by
  have hk : KeepL [g, Bl, Bs] w W := KeepL.below hW (by simp; exact ⟨hg, hl4, hs4⟩)
  refine (waiting1_in l Bl Bs g c t n L Lf hn hL J Jx (fun pre W' m h => hJ pre W' _ none h ⟨rfl, rfl, rfl, Nat.le_refl _, fun _ _ _ => rfl⟩ (fun r e => by cases e)) hY W
    ((hk.cell (p := ⟨Bl, 0, none⟩) (by simp)).trans hbl) ((hk.cell (p := ⟨Bs, 0, none⟩) (by simp)).trans hbs) (hc.keep hk (by simp)) h0).mono ?_
  rintro e W' ⟨he, ⟨ys, h1, h2⟩ | ⟨pre, h1, h2, h3⟩⟩
  · exact ⟨he, .inl ⟨ys, h1, h2⟩⟩
  · exact ⟨he, .inr ⟨pre, ⟨h1, h2⟩, h3⟩⟩
end Go.Proofs.Ytnmccbjdfdbgpaa
/- What is proved: a contract of made. Conditions: the jobs lie in memory. -/
namespace Go.Proofs.Ytnmccbjdfdbgpaa
open Go.RowKit Go.Shelf BigFrame
attribute [local go_sem] Oper.semAt_some

/-- The jobs' cells in block g, of which so much is left. -/
def PJ (w : World) (g : Nat) (L : List JobD) (Lf : Nat → Nat) : Prop := ∃ cur, Bk w g 126 cur ∧ ∀ i, i < L.length → ∀ j, j < 4 → cur[i * 4 + j]? = some (jobC (curJ L Lf i) j)
theorem PJ.lt {w : World} {g : Nat} {L : List JobD} {Lf : Nat → Nat} (h : PJ w g L Lf) : g < w.heap.size := by obtain ⟨_, h1, _⟩ := h; exact h1.lt
theorem PJ.cells {w : World} {g : Nat} {L : List JobD} {Lf : Nat → Nat} (h : PJ w g L Lf) : JobCells w g L Lf := by
  obtain ⟨cur, h1, h2⟩ := h
  exact fun i hi j hj => by rw [h1.cell]; exact h2 i hi j hj
theorem PJ.below {w w' : World} {g n₀ : Nat} {L : List JobD} {Lf : Nat → Nat} (h : PJ w g L Lf) (hb : Below n₀ w w') (hg : g < n₀) : PJ w' g L Lf := by
  obtain ⟨cur, h1, h2⟩ := h
  exact ⟨cur, (hb.block g hg).trans h1, h2⟩
theorem PJ.free {w : World} {g : Nat} {L : List JobD} {Lf : Nat → Nat} (h : PJ w g L Lf) (i : Nat) : w.frozen? ⟨g, i, none⟩ = false := by obtain ⟨_, h1, _⟩ := h; exact h1.free i
theorem PJ.less {w : World} {g b : Nat} {L : List JobD} {Lf : Nat → Nat} (h : PJ w g L Lf) (v : Int) (hv : v = (Lf b : Nat) - 1) (hp : 0 < Lf b) (hb : b < L.length) : PJ (w.setCell ⟨g, b * 4 + 3, none⟩ (.int .i64 v)) g L (lessB Lf (some b)) := by
  obtain ⟨cur, h1, h2⟩ := h
  refine ⟨_, h1.set (b * 4 + 3) (.int .i64 v), fun i hi j hj => ?_⟩
  rw [Array.getElem?_setIfInBounds]
  by_cases e : b * 4 + 3 = i * 4 + j
  · obtain ⟨rfl, rfl⟩ : i = b ∧ j = 3 := by omega
    have hsz : i * 4 + 3 < cur.size := by
      have := h2 i hi 3 (by omega)
      rcases Nat.lt_or_ge (i * 4 + 3) cur.size with h | h
      · exact h
      · rw [Array.getElem?_eq_none h] at this; cases this
    rw [if_pos rfl, if_pos hsz]
    show some (Value.int .i64 v) = some (Value.int .i64 ((if i = i then Lf i - 1 else Lf i : Nat)))
    rw [if_pos rfl, hv]
    congr 2; omega
  · rw [if_neg e, h2 i hi j hj]
    match j, hj with
    | 0, _ => rfl
    | 1, _ => rfl
    | 2, _ => rfl
    | 3, _ =>
      have hne : ¬ i = b := by omega
      show some (Value.int .i64 (Lf i : Nat)) = some (Value.int .i64 ((if i = b then Lf i - 1 else Lf i : Nat)))
      rw [if_neg hne]
/-- A pointer to a job, or none. -/
def jobP (g : Nat) : Option Nat → Value
  | none => .pointer none
  | some b => .pointer (some ⟨g, b * 4, none⟩)
def MadePost (w : World) (B : Nat) (L : List JobD) (C : Nat) (e : Ending) (w' : World) : Prop :=
  Below B w w' ∧ ((madeB L C = true ∧ ∃ A c, e = .returned (.tuple #[.slice A C c, .bool true]) ∧ Cl w' B 3 1 A C (fun i _ => .int .i64 (getI (tableB L C) i))) ∨
    (madeB L C = false ∧ e = .returned (.tuple #[.slice none 0 0, .bool false])))
theorem results_made (tmps : Array Value) (w : World) (g k : Nat) (x y : Value) (hp : tmps.getD 4 undef = .pointer (some ⟨g, 0, none⟩)) (hq : tmps.getD 5 undef = .pointer (some ⟨k, 0, none⟩))
    (h1 : w.cell? ⟨g, 0, none⟩ = some x) (h2 : w.cell? ⟨k, 0, none⟩ = some y) : (results Try.f52 tmps).run Try.prog w = .ok (.tuple #[x, y]) w := by
  have hp' : tmps[4]?.getD undef = .pointer (some ⟨g, 0, none⟩) := by simpa using hp
  have hq' : tmps[5]?.getD undef = .pointer (some ⟨k, 0, none⟩) := by simpa using hq
  simp [results, hp', hq', asAddr, go_sem, h1, h2]
/-- Later worlds keep the marks. -/
theorem Marks.below {n₀ : Nat} {Ds : List Nat} {w w' : World} (h : Marks n₀ Ds w) (hb : Below w.heap.size w w') : Marks n₀ Ds w' :=
  ⟨h.1, fun D hD => ⟨(h.2 D hD).1, (hb.block D (Array.getElem?_eq_some_iff.1 (h.2 D hD).2).1).trans (h.2 D hD).2⟩⟩
theorem Marks.grown {n₀ B k m : Nat} {T : TypeId} {v : Value} {xs : List Value} {Ds : List Nat} {w w' : World} (h : Marks n₀ Ds w) (ho : w.ownsRow B T k v m xs) (hg : w.grownBy w' v.ownBlock) : Marks n₀ Ds w' :=
  ⟨h.1, fun D hD => ⟨(h.2 D hD).1, by
    have hd := (h.2 D hD).2
    refine (hg.block D (Array.getElem?_eq_some_iff.1 hd).1 (fun e => ?_)).trans hd
    rcases ho.2 with ⟨rfl, _⟩ | ⟨g, cap, cur, rfl, hb, hgb, _⟩
    · simp [Value.ownBlock] at e
    · have e2 : D = g := by simpa [Value.ownBlock] using e
      subst e2
      rw [hgb] at hd; cases hd⟩⟩
theorem Marks.setCell {n₀ : Nat} {Ds : List Nat} {w : World} (h : Marks n₀ Ds w) {a : Addr} {b : Nat} (hb : ∃ cs t, Bk w b t cs) (ha : a.block = b) (v : Value) : Marks n₀ Ds (w.setCell a v) :=
  ⟨h.1, fun D hD => ⟨(h.2 D hD).1, by
    have hd := (h.2 D hD).2
    refine (Below.heap_setCell w a v D (fun e => ?_)).trans hd
    obtain ⟨cs, t, hb⟩ := hb
    rw [ha] at e; subst e
    have hb' : w.heap[D]? = _ := hb
    rw [hd] at hb'; cases hb'⟩⟩
theorem ownFrom_marks {β : Type} {B n₀ : Nat} {Ds : List Nat} (hD : ∀ D, D ∈ Ds → D < B) : OwnFrom B (fun (_ : β) W => Marks n₀ Ds W) := fun _ X Y row hs hg hr =>
  ⟨hs.1, fun D hd => ⟨(hs.2 D hd).1, (hg.block D (Array.getElem?_eq_some_iff.1 (hs.2 D hd).2).1 (fun e => by have := (hr D e.symm).1; have := hD D hd; omega)).trans (hs.2 D hd).2⟩⟩
theorem ownFrom_bk {β : Type} {B b : Nat} {t : TypeId} {f : β → Array Value} : OwnFrom B (fun s W => Bk W b t (f s)) := fun s X Y row hs hg hrow =>
  (hg.block b hs.lt (fun e => by obtain ⟨_, o, ho, hc⟩ := hrow b e.symm; rw [show X.heap[b]? = _ from hs] at ho; cases ho; cases hc)).trans hs
theorem ownFrom_size {β : Type} (B m : Nat) : OwnFrom B (fun (_ : β) W => m ≤ W.heap.size) := fun _ _ _ _ hs hg _ => Nat.le_trans hs hg.size
theorem keepL_b {Ks : List Nat} {w : World} (h : ∀ x, x ∈ Ks → x < w.heap.size) (W : World) (l : Nat) (o o' : Obj) (hl : w.heap.size ≤ l) (_ : W.heap[l]? = some o) (_ : o.isCells = false) (_ : o.isWalk = false) : KeepL Ks W (W.putObj l o') :=
  fun x hx => World.putObj_heap_other (by have := h x hx; omega)
structure MadeI (w : World) (B g : Nat) (L : List JobD) (Lf : Nat → Nat) (q : Nat) (xs : List Value) (Ds : List Nat) (v : Value) (wr : World) : Prop where
  bel : Below B w wr
  siz : w.heap.size ≤ wr.heap.size
  mks : Marks w.heap.size Ds wr
  own : wr.ownsRow w.heap.size 3 1 v q xs
  jobs : PJ wr g L Lf
  r0 : Bk wr w.heap.size 36 #[.slice none 0 0]
  r1 : Bk wr (w.heap.size + 1) 4 #[.bool false]
theorem MadeI.below {w : World} {B g q : Nat} {L : List JobD} {Lf : Nat → Nat} {xs : List Value} {Ds : List Nat} {v : Value} {wr w' : World} (h : MadeI w B g L Lf q xs Ds v wr) (hB : B ≤ w.heap.size) (hb : Below wr.heap.size wr w') : MadeI w B g L Lf q xs Ds v w' :=
  ⟨h.bel.trans (hb.mono (Nat.le_trans hB h.siz)), Nat.le_trans h.siz hb.size, h.mks.below hb, World.ownsRow.of_below h.own hb, h.jobs.below hb h.jobs.lt, h.r0.below hb h.r0.lt, h.r1.below hb h.r1.lt⟩
theorem MadeI.mark {w : World} {B g q D : Nat} {L : List JobD} {Lf : Nat → Nat} {xs : List Value} {Ds : List Nat} {v : Value} {wr : World} (h : MadeI w B g L Lf q xs Ds v wr) (hD : ∀ E, E ∈ Ds → E < D) (hw : w.heap.size ≤ D) (hk : wr.heap[D]? = some (.deferred (some []))) : MadeI w B g L Lf q xs (D :: Ds) v wr :=
  ⟨h.bel, h.siz, ⟨List.nodup_cons.2 ⟨fun hm => Nat.lt_irrefl _ (hD D hm), h.mks.1⟩, fun E hE => by
    rcases List.mem_cons.1 hE with rfl | hE
    · exact ⟨hw, hk⟩
    · exact h.mks.2 E hE⟩, h.own, h.jobs, h.r0, h.r1⟩
theorem MadeI.less {w : World} {B g q b : Nat} {L : List JobD} {Lf : Nat → Nat} {xs : List Value} {Ds : List Nat} {u : Value} {wr : World} (h : MadeI w B g L Lf q xs Ds u wr) (hBg : B ≤ g) (v : Int) (hv : v = (Lf b : Nat) - 1) (hp : 0 < Lf b) (hb : b < L.length) :
    MadeI w B g L (lessB Lf (some b)) q xs Ds u (wr.setCell ⟨g, b * 4 + 3, none⟩ (.int .i64 v)) := by
  obtain ⟨cur, hg, hc⟩ := h.jobs
  have hk : KT 126 wr (wr.setCell ⟨g, b * 4 + 3, none⟩ (.int .i64 v)) := KT.only (Only.setCell wr g (b * 4 + 3) _) hg
  exact ⟨h.bel.setCell (p := ⟨g, b * 4 + 3, none⟩) hBg _, by rw [(Only.setCell wr g (b * 4 + 3) (.int .i64 v)).size]; exact h.siz, h.mks.setCell ⟨_, _, hg⟩ rfl _, ownsKt h.own hk (by decide), h.jobs.less v hv hp hb, hk.2 _ _ _ (by decide) h.r0, hk.2 _ _ _ (by decide) h.r1⟩
theorem MadeI.app {w : World} {B g q : Nat} {L : List JobD} {Lf : Nat → Nat} {xs ys : List Value} {Ds : List Nat} {v v' : Value} {wr w3 : World} (h : MadeI w B g L Lf q xs Ds v wr) (hB : B ≤ w.heap.size) (o : Obj)
    (ho : w3.ownsRow w.heap.size 3 1 v' (q + 1) ys) (hg : (wr.alloc o).grownBy w3 v.ownBlock) : MadeI w B g L Lf (q + 1) ys Ds v' w3 := by
  have hal : Below wr.heap.size wr (wr.alloc o) := (Below.refl _ _).alloc (Nat.le_refl _) _
  have h1 := h.below hB hal
  have hk := KT.grown h1.own hg
  have hsz : (wr.alloc o).heap.size ≤ w3.heap.size := hg.size
  obtain ⟨cur, hj, hc⟩ := h1.jobs
  refine ⟨h1.bel.grown hg (Nat.le_trans hB h1.siz) (fun k e => ?_), Nat.le_trans h1.siz hsz, h1.mks.grown h1.own hg, ho, ⟨cur, hk.2 _ _ _ (by decide) hj, hc⟩, hk.2 _ _ _ (by decide) h1.r0, hk.2 _ _ _ (by decide) h1.r1⟩
  exact Nat.le_trans hB (h1.own.lt k e).1
theorem MadeI.zero {w : World} {B g : Nat} {L : List JobD} {W0 : World} (hB : B ≤ w.heap.size) (hj : PJ w g L (leftB L 0)) (h0 : (w.alloc (.cells #[.slice none 0 0] 36)).alloc (.cells #[.bool false] 4) = W0) : MadeI w B g L (leftB L 0) 0 (tabK L 0) [] (.slice none 0 0) W0 := by
  have hb0 : Below w.heap.size w W0 := by rw [← h0]; exact ((Below.refl _ _).alloc (Nat.le_refl _) _).alloc (by simp) _
  refine ⟨hb0.mono hB, hb0.size, ⟨List.nodup_nil, fun D hD => by cases hD⟩, World.ownsRow_nil _ _ _ _, hj.below hb0 hj.lt, ?_, ?_⟩
  · rw [← h0]; exact (Bk.new w _ _).alloc _
  · rw [← h0]; have := Bk.new (w.alloc (.cells #[.slice none 0 0] 36)) 4 #[.bool false]; rwa [World.size_alloc] at this
/-- What holds where it returns. -/
structure MadeR (w : World) (B : Nat) (Ds : List Nat) (x y : Value) (wr : World) : Prop where
  bel : Below B w wr
  siz : w.heap.size ≤ wr.heap.size
  mks : Marks w.heap.size Ds wr
  r0 : Bk wr w.heap.size 36 #[x]
  r1 : Bk wr (w.heap.size + 1) 4 #[y]
theorem MadeI.ret {w : World} {B g q : Nat} {L : List JobD} {Lf : Nat → Nat} {xs : List Value} {Ds : List Nat} {v : Value} {wr : World} (h : MadeI w B g L Lf q xs Ds v wr) (hB : B ≤ w.heap.size) (x y : Value) : MadeR w B Ds x y ((wr.setCell ⟨w.heap.size, 0, none⟩ x).setCell ⟨w.heap.size + 1, 0, none⟩ y) := by
  have k0 := h.r0.set 0 x
  have k1 := h.r1.far (p := ⟨w.heap.size, 0, none⟩) (by show w.heap.size + 1 ≠ w.heap.size; omega) x
  refine ⟨(h.bel.setCell (p := ⟨w.heap.size, 0, none⟩) hB x).setCell (p := ⟨w.heap.size + 1, 0, none⟩) (by show B ≤ w.heap.size + 1; omega) y, ?_, (h.mks.setCell ⟨_, _, h.r0⟩ rfl x).setCell ⟨_, _, k1⟩ rfl y, k0.far (p := ⟨w.heap.size + 1, 0, none⟩) (by show w.heap.size ≠ w.heap.size + 1; omega) y, k1.set 0 y⟩
  have := h.siz
  simpa using this
theorem leave_made {w : World} {B : Nat} (hB : B ≤ w.heap.size) {Ds : List Nat} {ds : List Deferred} {x y : Value} {wr : World} {JP : Ending → World → Prop} {tmps : Array Value} {D : Nat} (hds : Ds.map markD = ds) (h : MadeR w B (D :: Ds) x y wr)
    (h4 : tmps.getD 4 undef = .pointer (some ⟨w.heap.size, 0, none⟩)) (h5 : tmps.getD 5 undef = .pointer (some ⟨w.heap.size + 1, 0, none⟩)) (hJ : ∀ w', Below B w w' → Shut w.heap.size wr w' → JP (.returned (.tuple #[x, y])) w') :
    LeavesInM Fence.wide 6 Try.prog Try.f52 tmps JP ({ target := .collected D, args := #[] } :: ds) .returning wr := by
  rw [← hds]
  refine Marks.leaves (Ds := D :: Ds) h.siz h.mks fun w' hs => ?_
  refine ⟨_, results_made tmps w' w.heap.size (w.heap.size + 1) x y h4 h5 ?_ ?_, hJ w' ?_ hs⟩
  · exact (hs.2.2 _ _ _ h.r0).cell 0
  · exact (hs.2.2 _ _ _ h.r1).cell 0
  · exact h.bel.trans (hs.1.mono hB)
theorem KeepsOthers.drewN (W : World) (m : Nat) : KeepsOthers W (W.drewN m) := ⟨Nat.le_refl _, fun _ _ h _ => h⟩
theorem cellB_some {L : List JobD} {t b : Nat} (h : servB L t = some b) : cellB L t = (JobD.at_ L b).msg := by unfold cellB; rw [h]
theorem cellB_none {L : List JobD} {t : Nat} (h : servB L t = none) : cellB L t = -1 := by unfold cellB; rw [h]
theorem madeB_late {L : List JobD} {C q b : Nat} (hq : q < C) (h : servB L q = some b) (hl : (JobD.at_ L b).fin ≤ q) : madeB L C = false := by
  unfold madeB
  rw [Bool.and_eq_false_iff]
  left
  rw [List.all_eq_false]
  exact ⟨q, List.mem_range.2 hq, by rw [h]; simp; omega⟩
theorem madeB_wait {L : List JobD} {C : Nat} (h : waitL L (leftB L C) C L.length ≠ []) : madeB L C = false := by
  obtain ⟨i, hi⟩ := List.exists_mem_of_ne_nil _ h
  unfold waitL at hi
  rw [List.mem_filter, List.mem_range] at hi
  unfold madeB
  rw [Bool.and_eq_false_iff]
  right
  rw [List.all_eq_false]
  exact ⟨i, List.mem_range.2 hi.1, by rw [hi.2]; simp⟩
theorem madeB_done {L : List JobD} {C : Nat} (ht : InTime L C) (h : waitL L (leftB L C) C L.length = []) : madeB L C = true := by
  unfold madeB
  rw [Bool.and_eq_true]
  refine ⟨List.all_eq_true.2 fun t htr => ?_, List.all_eq_true.2 fun i hi => ?_⟩
  · have htr' := List.mem_range.1 htr
    cases hs : servB L t with
    | none => rfl
    | some b => simpa using ht t b htr' hs
  · unfold waitL at h
    have := List.filter_eq_nil_iff.1 h i hi
    simpa using this
set_option maxRecDepth 100000 in
set_option maxHeartbeats 16000000 in
theorem made_any (w : World) (B g c C : Nat) (L : List JobD) (hB : B ≤ w.heap.size) (hBg : B ≤ g) (hcur : PJ w g L (leftB L 0)) (hn0 : L.length ≤ 4096) (hleft : ∀ i, i < L.length → (JobD.at_ L i).left ≤ 1000) (hC : C ≤ 1000) :
    Calls Try.prog 52 #[.slice (some ⟨g, 0, none⟩) L.length c, .int .i64 C] w (MadePost w B L C) := by
  have HCUR := Lib.hid hcur
  obtain ⟨n, hn⟩ : ∃ n, L.length = n := ⟨_, rfl⟩
  have HN := Lib.hid hn
  rw [hn] at hn0 ⊢
  obtain ⟨i0, hi, hz0, hz1, hz2⟩ := info_parts infoI
  have hgl := hcur.lt
  have HFY : Hid (∀ w' A c', madeB L C = true → Below B w w' → Cl w' B 3 1 A C (fun i _ => .int .i64 (getI (tableB L C) i)) → MadePost w B L C (.returned (.tuple #[.slice A C c', .bool true])) w') :=
    Lib.hid fun w' A c' h1 h2 h3 => ⟨h2, .inl ⟨h1, A, c', rfl, h3⟩⟩
  have HFN : Hid (∀ w', madeB L C = false → Below B w w' → MadePost w B L C (.returned (.tuple #[.slice none 0 0, .bool false])) w') :=
    Lib.hid fun w' h1 h2 => ⟨h2, .inr ⟨h1, rfl⟩⟩
  obtain ⟨JP, hJP⟩ : ∃ Q, MadePost w B L C = Q := ⟨_, rfl⟩
  rw [hJP] at HFY HFN ⊢
  clear hJP hcur
  refine (callsIn_wide (n := 6)).1 ?_
  refine callsIn_of_wp_marks Try.func52 rfl trivial ?_ rfl
  simp only [Try.ntmps52, List.size_toArray, List.length_cons, List.length_nil, Nat.reduceAdd, Nat.reduceSub, Array.replicate_succ, Array.replicate_zero, List.push_toArray, List.append_toArray, List.nil_append, List.cons_append]
  obtain ⟨W0, hW0⟩ : ∃ W0, (w.alloc (.cells #[.slice none 0 0] 36)).alloc (.cells #[.bool false] 4) = W0 := ⟨_, rfl⟩
  gi_wp2_with fail
  try rw [hW0]
  have hI0 := MadeI.zero hB HCUR.out hW0
  have HI0 := Lib.hid hI0
  have HLEN : Hid (∀ t b, b < L.length → leftB L t b ≤ 1000) := Lib.hid fun t b hb => Nat.le_trans (left_le t) (hleft b hb)
  have HRET : Hid (∀ W, ∀ (Lf : Nat → Nat) (q : Nat) (xs : List Value) (Ds : List Nat) (v : Value), MadeI w B g L Lf q xs Ds v W → MadeR w B Ds (.slice none 0 0) (.bool false) ((W.setCell ⟨w.heap.size, 0, none⟩ (.slice none 0 0)).setCell ⟨w.heap.size + 1, 0, none⟩ (.bool false))) := Lib.hid fun W Lf q xs Ds v h => h.ret hB _ _
  clear hI0 hW0
  refine wpIn_loop (fun a' wr => ∃ (ds : List Deferred) (u6 u11 u7 u8 u12 u13 u14 u15 u16 u32 u33 u34 u35 u36 u37 u38 u39 u40 u41 u42 u43 u44 u45 u46 u47 u48 u49 u50 u51 u52 u53 u54 u55 u56 u57 u58 u59 : Value), (∃ (q : Nat) (Ds : List Nat), q ≤ C ∧ u11 = .int .i64 q ∧ ds = Ds.map markD ∧ Hid (MadeI w B g L (leftB L q) q (tabK L q) Ds u6 wr ∧ InTime L q)) ∧ a' = { tmps := #[.slice (some ⟨g, 0, none⟩) n c, .int .i64 C, undef, undef, .pointer (some ⟨w.heap.size, 0, none⟩), .pointer (some ⟨w.heap.size + 1, 0, none⟩), u6, u7, u8, undef, .int .i64 C, u11, u12, u13, u14, u15, u16, undef, undef, undef, undef, undef, undef, undef, undef, undef, undef, undef, undef, undef, undef, undef, u32, u33, u34, u35, u36, u37, u38, u39, u40, u41, u42, u43, u44, u45, u46, u47, u48, u49, u50, u51, u52, u53, u54, u55, u56, u57, u58, u59, undef, undef, undef, undef, undef], defers := ds }) (fun a' _ => C - (intOf (a'.tmps.getD 11 undef)).toNat) ?_ ?_
  · (repeat apply Exists.intro)
    exact ⟨⟨0, [], Nat.zero_le _, rfl, rfl, Lib.hid ⟨HI0.out, fun s b hs => absurd hs (Nat.not_lt_zero s)⟩⟩, rfl⟩
  · intro _ wr hinv
    obtain ⟨ds, u6, u11, u7, u8, u12, u13, u14, u15, u16, u32, u33, u34, u35, u36, u37, u38, u39, u40, u41, u42, u43, u44, u45, u46, u47, u48, u49, u50, u51, u52, u53, u54, u55, u56, u57, u58, u59, ⟨q, Ds, hq, rfl, rfl, hst⟩, ha⟩ := hinv
    subst ha
    have hs := Lib.hid hst.out.1
    have HT := Lib.hid hst.out.2
    clear hst
    obtain ⟨ds, hds⟩ : ∃ ds, Ds.map markD = ds := ⟨_, rfl⟩
    have HDS := Lib.hid hds
    rw [hds]
    clear hds
    by_cases hlt : q < C
    · have hlti : (q : Int) < (C : Int) := by omega
      obtain ⟨W2, hW2⟩ : ∃ W2, ((wr.alloc (.cells #[.pointer none] 121)).alloc (.cells #[.slice (some ⟨g, 0, none⟩) n c] 94)).alloc (.cells #[.int .i64 q] 3) = W2 := ⟨_, rfl⟩
      obtain ⟨Bb, hBb⟩ : ∃ Bb, wr.heap.size = Bb := ⟨_, rfl⟩
      have HW2 : Hid (Below Bb wr W2) := Lib.hid (by rw [← hW2, ← hBb]; exact (((Below.refl _ _).alloc (Nat.le_refl _) _).alloc (by simp) _).alloc (by simp; omega) _)
      have HBX : Hid (Boxed W2 Bb 121 (.pointer none)) := Lib.hid (by rw [← hW2, ← hBb]; exact ((Boxed.new wr _ _).alloc _).alloc _)
      have hs2 : W2.heap.size = Bb + 1 + 1 + 1 := by rw [← hW2, ← hBb]; simp
      have hc1 : W2.cell? ⟨Bb + 1, 0, none⟩ = some (.slice (some ⟨g, 0, none⟩) n c) := by
        rw [← hW2, ← hBb]
        have := (Boxed.new (wr.alloc (.cells #[.pointer none] 121)) 94 (.slice (some ⟨g, 0, none⟩) n c)).alloc (.cells #[.int .i64 q] 3)
        rw [World.size_alloc] at this
        exact this.cell
      have hc2 : W2.cell? ⟨Bb + 1 + 1, 0, none⟩ = some (.int .i64 q) := by
        rw [← hW2, ← hBb]
        have := Boxed.new ((wr.alloc (.cells #[.pointer none] 121)).alloc (.cells #[.slice (some ⟨g, 0, none⟩) n c] 94)) 3 (.int .i64 q)
        rw [World.size_alloc, World.size_alloc] at this
        exact this.cell
      have hgB : g < Bb := by rw [← hBb]; exact hs.out.jobs.lt
      have HSTOP := Lib.hid (waiting_stops (Bb + 1) (Bb + 1 + 1) g c q n L (leftB L q) hn0 HN.out W2 (by omega) (by omega) (by omega) hc1 hc2 ((hs.out.jobs.below HW2.out hgB).cells))
      have HKB : Hid (∀ x, x ∈ [g, Bb + 1, Bb + 1 + 1] → x < W2.heap.size) := Lib.hid (by simp; omega)
      clear hc1 hc2
      gi_wp2_with fail
      refine ⟨trivial, ?_⟩
      refine (waiting_in _ _ _ _ _).mono ?_
      rintro e w' ⟨rfl, rfl⟩
      gi_wp2_with fail
      try rw [hBb]
      try rw [hW2]
      refine wpIn_rangeFunc_ownF (n := 6) rfl (by decide) (gf := 87) rfl trivial (enters_of Try.func87 (by kernel_rfl) rfl) HSTOP.out KeepL.trans (keepL_b HKB.out) (Below.refl _ _) (fun _ => rfl)
        (fun pre W => Boxed W Bb 121 (jobP g (bestL L (Fin.vals pre))) ∧ Below Bb W2 W)
        (fun _ _ _ => False)
        (OwnFrom.and (Own.from (boxed_own _ _ _) _) (ownFrom_below (by omega) (by omega)))
        (fun _ _ _ _ _ hs _ _ => hs)
        ⟨HBX.out, Below.refl _ _⟩ ?a1 ?assign ?body ?done ?stop
      case assign =>
        intro l x W K hK
        gi_wp2
        exact hK
      case body =>
        rintro l pre x W ⟨hb1, hb2⟩ _
        have HB1 := Lib.hid hb1
        have HB2 := Lib.hid hb2
        have HX := Lib.hid x.2
        have hJC := (hs.out.jobs.below (HW2.out.trans hb2) hgB).cells
        have hxL : x.val < L.length := by rw [HN.out]; exact x.2
        have dx := hJC x.val hxL 2 (by omega)
        simp only [jobC, curJ] at dx
        obtain ⟨fx, hfx⟩ : ∃ fx, (JobD.at_ L x.val).fin = fx := ⟨_, rfl⟩
        rw [hfx] at dx
        have HNX : Hid (bestL L (Fin.vals (pre ++ [x])) = bestS L (bestL L (Fin.vals pre)) x.val) := Lib.hid (by
          have : Fin.vals (pre ++ [x]) = Fin.vals pre ++ [x.val] := by simp [Fin.vals]
          rw [this, bestL_snoc])
        have HMEM : Hid (∀ b, bestL L (Fin.vals pre) = some b → b < n) := Lib.hid fun b hb => by
          have := bestL_mem hb
          unfold Fin.vals at this
          obtain ⟨y, _, rfl⟩ := List.mem_map.1 this
          exact y.2
        obtain ⟨o, ho⟩ : ∃ o, bestL L (Fin.vals pre) = o := ⟨_, rfl⟩
        rw [ho] at hb1 HNX HMEM
        have HFX := Lib.hid hfx
        have HKO : Hid (∀ (a : Act) (W' : World), KeepsOthers W W' → KeepL [g, Bb + 1, Bb + 1 + 1] W W' → Boxed W' Bb 121 (jobP g (bestS L o x.val)) → Below Bb W2 W' → ownPostK (KeepL [g, Bb + 1, Bb + 1 + 1]) (fun pre W => Boxed W Bb 121 (jobP g (bestL L (Fin.vals pre))) ∧ Below Bb W2 W) (fun _ _ _ => False) (pre ++ [x]) W .normal a W') :=
          Lib.hid fun a W' h1 h2 h3 h4 => ⟨h1, h2, by rw [HNX.out]; exact h3, h4⟩
        have HST : Hid (∀ m v, KeepsOthers W ((W.drewN m).setCell ⟨Bb, 0, none⟩ v) ∧ KeepL [g, Bb + 1, Bb + 1 + 1] W ((W.drewN m).setCell ⟨Bb, 0, none⟩ v) ∧ Boxed ((W.drewN m).setCell ⟨Bb, 0, none⟩ v) Bb 121 v ∧ Below Bb W2 ((W.drewN m).setCell ⟨Bb, 0, none⟩ v)) := Lib.hid fun m v =>
          ⟨(KeepsOthers.drewN W m).trans (KeepsOthers.setCell _ _ _),
            fun y hy => (Below.heap_setCell (W.drewN m) ⟨Bb, 0, none⟩ v y (by simp at hy; show y ≠ Bb; omega)).trans rfl,
            Boxed.set (v := jobP g (bestL L (Fin.vals pre))) v HB1.out, (below_drewN HB2.out m).setCell (p := ⟨Bb, 0, none⟩) (Nat.le_refl _) v⟩
        have HSN : Hid (∀ m, KeepsOthers W (W.drewN m) ∧ KeepL [g, Bb + 1, Bb + 1 + 1] W (W.drewN m) ∧ Boxed (W.drewN m) Bb 121 (jobP g (bestL L (Fin.vals pre))) ∧ Below Bb W2 (W.drewN m)) := Lib.hid fun m =>
          ⟨⟨Nat.le_refl _, fun _ _ h _ => h⟩, fun y hy => rfl, HB1.out, below_drewN HB2.out m⟩
        have HO := Lib.hid ho
        have hmx : Try.prog.follows .mixedOrders = true := by kernel_rfl
        clear ho
        cases o with
        | none =>
          have cb : W.cell? ⟨Bb, 0, none⟩ = some (.pointer none) := hb1.cell
          have fb := hb1.frozen
          clear hb1 hb2 hJC
          gi_wp2_with fail
          refine wpIn_region_quietR l rfl (by kernel_rfl) (by kernel_rfl) (by kernel_rfl) ?_
          repeat (gi_big_quiet_step (fail))
          refine wpQuietIn_nil ?_
          intro _ hw'
          obtain ⟨nq, hw''⟩ := hw'
          subst hw''
          gi_wp2_with fail
          obtain ⟨k1, k2, k3, k4⟩ := HST.out nq (.pointer (some ⟨g, x.val * 4, none⟩))
          exact HKO.out _ _ k1 k2 k3 k4
        | some b =>
          have hbn := HMEM.out b rfl
          have db := hJC b (by rw [HN.out]; exact hbn) 2 (by omega)
          simp only [jobC, curJ] at db
          obtain ⟨fb', hfb'⟩ : ∃ fb', (JobD.at_ L b).fin = fb' := ⟨_, rfl⟩
          have HFB := Lib.hid hfb'
          rw [hfb'] at db
          have cb : W.cell? ⟨Bb, 0, none⟩ = some (.pointer (some ⟨g, b * 4, none⟩)) := hb1.cell
          have fb := hb1.frozen
          clear hb1 hb2 hJC
          by_cases hlt2 : fx < fb'
          · have HBS : Hid (bestS L (some b) x.val = some x.val) := Lib.hid (by
              show (if (JobD.at_ L x.val).fin < (JobD.at_ L b).fin then _ else _) = _
              rw [hfx, HFB.out, if_pos hlt2])
            have hl1 : (fx : Int) < (fb' : Int) := by omega
            clear hfx hfb'
            gi_wp2_with fail
            refine wpIn_region_quietR l rfl (by kernel_rfl) (by kernel_rfl) (by kernel_rfl) ?_
            repeat (gi_big_quiet_step (fail))
            refine wpQuietIn_nil ?_
            intro _ hw'
            obtain ⟨nq, hw''⟩ := hw'
            subst hw''
            gi_wp2_with fail
            obtain ⟨k1, k2, k3, k4⟩ := HST.out nq (.pointer (some ⟨g, x.val * 4, none⟩))
            exact HKO.out _ _ k1 k2 (by rw [HBS.out]; exact k3) k4
          · have HBS : Hid (bestS L (some b) x.val = some b) := Lib.hid (by
              show (if (JobD.at_ L x.val).fin < (JobD.at_ L b).fin then _ else _) = _
              rw [hfx, HFB.out, if_neg hlt2])
            have hl1 : ¬ (fx : Int) < (fb' : Int) := by omega
            clear hfx hfb'
            gi_wp2_with fail
            refine wpIn_region_quietR l rfl (by kernel_rfl) (by kernel_rfl) (by kernel_rfl) ?_
            repeat (gi_big_quiet_step (fail))
            refine wpQuietIn_nil ?_
            intro _ hw'
            obtain ⟨nq, hw''⟩ := hw'
            subst hw''
            gi_wp2_with fail
            obtain ⟨k1, k2, k3, k4⟩ := HSN.out nq
            exact HKO.out _ _ k1 k2 (by rw [HBS.out, ← HO.out]; exact k3) k4
      case stop => exact fun D c pre W _ _ h _ => h.elim
      case done =>
        rintro D ys W hD hys ⟨hb1, hb2⟩ hK
        have HSV : Hid (servB L q = bestL L (Fin.vals ys)) := Lib.hid (by
          rw [show Fin.vals ys = waitL L (leftB L q) q n from hys, ← HN.out]
          exact (bestL_all L (leftB L q) q L.length).symm)
        obtain ⟨o, ho⟩ : ∃ o, servB L q = o := ⟨_, rfl⟩
        have HO := Lib.hid ho
        rw [← HSV.out, ho] at hb1
        have hM := (hs.out.below hB (by rw [hBb]; exact HW2.out.trans hb2)).mark (D := D) (fun E hE => by
          have := (Array.getElem?_eq_some_iff.1 (hs.out.mks.2 E hE).2).1
          omega) (by have := hs.out.siz; omega) hK
        have HM := Lib.hid hM
        clear hM ho hb2 hys hK HBX HW2 hW2 HSTOP HKB hs
        have hown := HM.out.own
        have hTX := Lib.hid (tabK_succ L q)
        have fb := hb1.frozen
        cases o with
        | none =>
          have cb : W.cell? ⟨Bb, 0, none⟩ = some (.pointer none) := hb1.cell
          clear hb1
          have hsW := HM.out.siz
          have HMX := HM
          have HEND : Hid (∀ v' w3, MadeI w B g L (leftB L q) (q + 1) (tabK L q ++ [.int .i64 (-1)]) (D :: Ds) v' w3 → MadeI w B g L (leftB L (q + 1)) (q + 1) (tabK L (q + 1)) (D :: Ds) v' w3) := Lib.hid fun v' w3 h => by
            rw [leftB_succ, HO.out, hTX.out, cellB_none HO.out]; exact h
          have HTN : Hid (InTime L (q + 1)) := Lib.hid fun s b hs hb => by
            rcases Nat.lt_or_ge s q with h | h
            · exact HT.out s b h hb
            · obtain rfl : s = q := by omega
              rw [HO.out] at hb; cases hb
          gi_wp2_with (gi_at_builtin; refine wpListIn_append_own _ rfl _ _ 36 rfl w.heap.size 3 i0 (.int .i64 0) 1 8 Try.underlying36 hi hz0 hz1 hz2 rfl (by decide) _ _ _ rfl (hown.alloc _) ⟨W.heap.size, 0, none⟩ 1 1 [.int .i64 (-1)] rfl rfl ?qa1 ?qb1 ?qc1 ?qd1 ?qe1 ?qf1)
          case qa1 => intro j u hj; match j, hj with | 0, hj => simp at hj; subst hj; simp [Addr.add]
          case qb1 => intro u hu; simp at hu; subst hu; rfl
          case qc1 => unfold maxLen; omega
          case qd1 => omega
          case qe1 => simp; omega
          case qf1 =>
            intro v' w3 hown' hgrow _
            have HN3 := Lib.hid (HMX.out.app hB _ hown' hgrow)
            clear hgrow hown' hown
            gi_wp2_with fail
            go_roundw
            case measure => simp [intOf]; omega
            case rel => ((repeat apply Exists.intro); exact ⟨⟨q + 1, D :: Ds, by omega, by go_num, (by rw [← HDS.out]; rfl), Lib.hid ⟨HEND.out _ _ HN3.out, HTN.out⟩⟩, rfl⟩)
        | some b =>
          obtain ⟨hbl, _, hb0, _⟩ := servB_some HO.out
          have HB0 := Lib.hid hb0
          have HBL := Lib.hid hbl
          have hJC := HM.out.jobs.cells b hbl
          have d0 := hJC 0 (by omega)
          have d2 := hJC 2 (by omega)
          have d3 := hJC 3 (by omega)
          simp only [jobC, curJ, Nat.add_zero] at d0 d2 d3
          have ff : W.frozen? ⟨g, b * 4 + 3, none⟩ = false := HM.out.jobs.free _
          obtain ⟨mb, hmb⟩ : ∃ mb, (JobD.at_ L b).msg = mb := ⟨_, rfl⟩
          obtain ⟨nb, hnb⟩ : ∃ nb, (JobD.at_ L b).fin = nb := ⟨_, rfl⟩
          obtain ⟨lb, hlb⟩ : ∃ lb, leftB L q b = lb := ⟨_, rfl⟩
          have HMB := Lib.hid hmb
          have HNB := Lib.hid hnb
          have HLB := Lib.hid hlb
          rw [hmb] at d0
          rw [hnb] at d2
          rw [hlb] at d3
          have hlb3 := HLEN.out q b hbl
          rw [hlb] at hb0 hlb3
          have cb : W.cell? ⟨Bb, 0, none⟩ = some (.pointer (some ⟨g, b * 4, none⟩)) := hb1.cell
          have HBX1 := Lib.hid hb1
          clear hb1 hJC hmb hnb hlb hbl
          have hsW := HM.out.siz
          by_cases hlate : nb ≤ q
          · have hl1 : (nb : Int) ≤ (q : Int) := by omega
            have HF : Hid (madeB L C = false) := Lib.hid (madeB_late hlt HO.out (by rw [HNB.out]; exact hlate))
            have p0 : W.cell? ⟨w.heap.size, 0, none⟩ = some (.slice none 0 0) := HM.out.r0.cell 0
            have p1 : W.cell? ⟨w.heap.size + 1, 0, none⟩ = some (.bool false) := HM.out.r1.cell 0
            have z0 := HM.out.r0.free 0
            have z1 := HM.out.r1.free 0
            clear hown
            gi_wp2_with fail
            refine leave_made hB HDS.out (HRET.out W _ _ _ _ _ HM.out) rfl rfl fun w' h _ => HFN.out w' HF.out h
          · have hl1 : ¬ (nb : Int) ≤ (q : Int) := by omega
            obtain ⟨W4, hW4⟩ : ∃ W4, W.setCell ⟨g, b * 4 + 3, none⟩ (.int .i64 ((lb : Int) - 1)) = W4 := ⟨_, rfl⟩
            have hM4 := HM.out.less hBg ((lb : Int) - 1) (by rw [HLB.out]) HB0.out HBL.out
            rw [hW4] at hM4
            have HMX := Lib.hid hM4
            have hsW4 := hM4.siz
            have cb4 : W4.cell? ⟨Bb, 0, none⟩ = some (.pointer (some ⟨g, b * 4, none⟩)) := by
              rw [← hW4, World.cell?_of_block (w := W) (Below.heap_setCell _ _ _ _ (by show Bb ≠ g; omega))]; exact HBX1.out.cell
            have d04 : W4.cell? ⟨g, b * 4, none⟩ = some (.int .i64 mb) := by
              have := hM4.jobs.cells b HBL.out 0 (by omega)
              simp only [jobC, curJ, Nat.add_zero] at this
              rw [HMB.out] at this; exact this
            replace hown := hM4.own
            have HEND : Hid (∀ v' w3, MadeI w B g L (lessB (leftB L q) (some b)) (q + 1) (tabK L q ++ [.int .i64 mb]) (D :: Ds) v' w3 → MadeI w B g L (leftB L (q + 1)) (q + 1) (tabK L (q + 1)) (D :: Ds) v' w3) := Lib.hid fun v' w3 h => by
              rw [leftB_succ, HO.out, hTX.out, cellB_some HO.out, HMB.out]; exact h
            have HTN : Hid (InTime L (q + 1)) := Lib.hid fun s b' hs hb => by
              rcases Nat.lt_or_ge s q with h | h
              · exact HT.out s b' h hb
              · obtain rfl : s = q := by omega
                rw [HO.out] at hb
                obtain rfl : b = b' := Option.some.inj hb
                rw [HNB.out]; omega
            clear hM4
            gi_wp2_with (gi_at_builtin; refine wpListIn_append_own _ rfl _ _ 36 rfl w.heap.size 3 i0 (.int .i64 0) 1 8 Try.underlying36 hi hz0 hz1 hz2 rfl (by decide) _ _ _ rfl (hown.alloc _) ⟨W4.heap.size, 0, none⟩ 1 1 [.int .i64 mb] rfl rfl ?qa2 ?qb2 ?qc2 ?qd2 ?qe2 ?qf2)
            case qb2 => rfl
            case qc2 => unfold maxLen; omega
            case qd2 => omega
            case qe2 => omega
            case qf2 =>
              intro v' w3 hown' hgrow _
              have HN3 := Lib.hid (HMX.out.app hB _ hown' hgrow)
              clear hgrow hown' hown
              gi_wp2_with fail
              go_roundw
              case measure => simp [intOf]; omega
              case rel => ((repeat apply Exists.intro); exact ⟨⟨q + 1, D :: Ds, by omega, by go_num, (by rw [← HDS.out]; rfl), Lib.hid ⟨HEND.out _ _ HN3.out, HTN.out⟩⟩, rfl⟩)
    · obtain rfl : q = C := by omega
      obtain ⟨W2, hW2⟩ : ∃ W2, (wr.alloc (.cells #[.slice (some ⟨g, 0, none⟩) n c] 94)).alloc (.cells #[.int .i64 q] 3) = W2 := ⟨_, rfl⟩
      obtain ⟨Bb, hBb⟩ : ∃ Bb, wr.heap.size = Bb := ⟨_, rfl⟩
      have HW2 : Hid (Below Bb wr W2) := Lib.hid (by rw [← hW2, ← hBb]; exact ((Below.refl _ _).alloc (Nat.le_refl _) _).alloc (by simp) _)
      have hs2 : W2.heap.size = Bb + 1 + 1 := by rw [← hW2, ← hBb]; simp
      have hc1 : W2.cell? ⟨Bb, 0, none⟩ = some (.slice (some ⟨g, 0, none⟩) n c) := by
        rw [← hW2, ← hBb]
        exact ((Boxed.new wr 94 (.slice (some ⟨g, 0, none⟩) n c)).alloc (.cells #[.int .i64 q] 3)).cell
      have hc2 : W2.cell? ⟨Bb + 1, 0, none⟩ = some (.int .i64 q) := by
        rw [← hW2, ← hBb]
        have := Boxed.new (wr.alloc (.cells #[.slice (some ⟨g, 0, none⟩) n c] 94)) 3 (.int .i64 q)
        rw [World.size_alloc] at this
        exact this.cell
      have hgB : g < Bb := by rw [← hBb]; exact hs.out.jobs.lt
      have HSTOP := Lib.hid (waiting_stops Bb (Bb + 1) g c q n L (leftB L q) hn0 HN.out W2 (by omega) (by omega) (by omega) hc1 hc2 ((hs.out.jobs.below HW2.out hgB).cells))
      have HKB : Hid (∀ x, x ∈ [g, Bb, Bb + 1] → x < W2.heap.size) := Lib.hid (by simp; omega)
      have HM2 : Hid (∀ W, Below W2.heap.size W2 W → MadeI w B g L (leftB L q) q (tabK L q) Ds u6 W) := Lib.hid fun W hb => (hs.out.below hB (by rw [hBb]; exact HW2.out)).below hB hb
      clear hc1 hc2
      have hDs : ∀ D, D ∈ Ds → D < W2.heap.size := fun D hD => by
        have := (Array.getElem?_eq_some_iff.1 (hs.out.mks.2 D hD).2).1
        omega
      have HDW := Lib.hid hDs
      clear hDs
      have hsr := hs.out.siz
      gi_wp2_with fail
      refine ⟨trivial, ?_⟩
      refine (waiting_in _ _ _ _ _).mono ?_
      rintro e w' ⟨rfl, rfl⟩
      gi_wp2_with fail
      try rw [hBb]
      try rw [hW2]
      refine wpIn_rangeFunc_ownF (n := 6) rfl (by decide) (gf := 87) rfl trivial (enters_of Try.func87 (by kernel_rfl) rfl) HSTOP.out KeepL.trans (keepL_b HKB.out) (Below.refl _ _) (fun _ => rfl)
        (fun pre W => pre = [] ∧ Below W2.heap.size W2 W)
        (fun cd _ W => cd = .ret ∧ Below B w W ∧ w.heap.size ≤ W.heap.size ∧ Marks w.heap.size Ds W ∧ Bk W w.heap.size 36 #[.slice none 0 0] ∧ Bk W (w.heap.size + 1) 4 #[.bool false])
        (OwnFrom.and (ownFrom_pure _ _) (ownFrom_below (Nat.le_refl _) (Nat.le_refl _)))
        (fun cd => OwnFrom.and (ownFrom_pure _ _) (OwnFrom.and (ownFrom_below hB (by omega)) (OwnFrom.and (ownFrom_size _ _) (OwnFrom.and (ownFrom_marks HDW.out) (OwnFrom.and (ownFrom_bk (f := fun _ => _)) (ownFrom_bk (f := fun _ => _)))))))
        ⟨rfl, Below.refl _ _⟩ ?a2 ?assign ?body ?done ?stop
      case assign =>
        intro l x W K hK
        gi_wp2
        exact hK
      case body =>
        rintro l pre x W ⟨_, hb2⟩ _
        have hM := HM2.out W hb2
        have HR := Lib.hid (hM.ret hB (.slice none 0 0) (.bool false))
        have p0 : W.cell? ⟨w.heap.size, 0, none⟩ = some (.slice none 0 0) := hM.r0.cell 0
        have p1 : W.cell? ⟨w.heap.size + 1, 0, none⟩ = some (.bool false) := hM.r1.cell 0
        have z0 := hM.r0.free 0
        have z1 := hM.r1.free 0
        have HKO : Hid (∀ a : Act, ownPostK (KeepL [g, Bb, Bb + 1]) (fun pre W => pre = [] ∧ Below W2.heap.size W2 W) (fun cd _ W => cd = .ret ∧ Below B w W ∧ w.heap.size ≤ W.heap.size ∧ Marks w.heap.size Ds W ∧ Bk W w.heap.size 36 #[.slice none 0 0] ∧ Bk W (w.heap.size + 1) 4 #[.bool false]) (pre ++ [x]) W .ret a ((W.setCell ⟨w.heap.size, 0, none⟩ (.slice none 0 0)).setCell ⟨w.heap.size + 1, 0, none⟩ (.bool false))) := Lib.hid fun a =>
          ⟨(KeepsOthers.setCell _ _ _).trans (KeepsOthers.setCell _ _ _), rfl, HR.out.bel, HR.out.siz, HR.out.mks, HR.out.r0, HR.out.r1⟩
        clear hM hb2
        gi_wp2_with fail
        exact HKO.out _
      case stop =>
        rintro D cd pre W hD ⟨hpre, hne⟩ ⟨rfl, hb, hsz, hmk, h0, h1⟩ hK
        have HF : Hid (madeB L q = false) := Lib.hid (madeB_wait (by
          rw [HN.out]
          intro e
          rw [e] at hpre
          have := List.prefix_nil.1 hpre
          unfold Fin.vals at this
          exact hne (List.map_eq_nil_iff.1 this)))
        have HR : Hid (MadeR w B (D :: Ds) (.slice none 0 0) (.bool false) W) := Lib.hid ⟨hb, hsz, ⟨List.nodup_cons.2 ⟨fun hm => Nat.lt_irrefl _ (Nat.lt_of_lt_of_le (HDW.out D hm) hD), hmk.1⟩, fun E hE => by
          rcases List.mem_cons.1 hE with rfl | hE
          · exact ⟨by omega, hK⟩
          · exact hmk.2 E hE⟩, h0, h1⟩
        clear hb hmk h0 h1 hK
        gi_wp2_with fail
        exact leave_made hB HDS.out HR.out rfl rfl fun w' h _ => HFN.out w' HF.out h
      case done =>
        rintro D ys W hD hys ⟨rfl, hb⟩ hK
        have HF : Hid (madeB L q = true) := Lib.hid (madeB_done HT.out (by rw [HN.out]; exact hys.symm))
        have hM := (HM2.out W hb).mark (D := D) (fun E hE => Nat.lt_of_lt_of_le (HDW.out E hE) hD) (by omega) hK
        have hcl := hM.own
        rw [tabK_rows] at hcl
        obtain ⟨A6, c6, hu6, hcl⟩ := Cl.of_own (by omega) hcl
        have HR := Lib.hid (hM.ret hB u6 (.bool true))
        have p0 : W.cell? ⟨w.heap.size, 0, none⟩ = some (.slice none 0 0) := hM.r0.cell 0
        have p1 : W.cell? ⟨w.heap.size + 1, 0, none⟩ = some (.bool false) := hM.r1.cell 0
        have z0 := hM.r0.free 0
        have z1 := hM.r1.free 0
        have k1 := KT.only (Only.setCell W w.heap.size 0 u6) hM.r0
        have k2 := KT.only (Only.setCell (W.setCell ⟨w.heap.size, 0, none⟩ u6) (w.heap.size + 1) 0 (.bool true)) (hM.r1.far (p := ⟨w.heap.size, 0, none⟩) (by show w.heap.size + 1 ≠ w.heap.size; omega) u6)
        have HCL := Lib.hid ((hcl.kt k1 (by decide)).kt k2 (by decide))
        subst hu6
        clear hcl k1 k2 hM hb hK
        gi_wp2_with fail
        refine leave_made hB HDS.out HR.out rfl rfl fun w' h hs => HFY.out w' A6 c6 HF.out h ?_
        refine ⟨HCL.out.1, fun hn => ?_⟩
        obtain ⟨gb, cur, e, h1, h2, h3⟩ := HCL.out.2 hn
        exact ⟨gb, cur, e, Nat.le_trans hB h1, hs.2.2 _ _ _ h2, h3⟩
end Go.Proofs.Ytnmccbjdfdbgpaa
/- What is proved: a contract of Schedule. Conditions: the messages lie in memory. -/
namespace Go.Proofs.Ytnmccbjdfdbgpaa
open Go.RowKit

theorem results_f21 (tmps : Array Value) (w : World) (g : Nat) (cs : Array Value) (x y : Value) (hx : tmps.getD 2 undef = x) (hy : tmps.getD 4 undef = y) (hp : tmps.getD 3 undef = .pointer (some ⟨g, 0, none⟩)) (hg : Bk w g 23 cs) (h2 : cs.size = 2) :
    (results Try.f21 tmps).run Try.prog w = .ok (.tuple #[x, .agg cs, y]) w := by
  rw [← hx, ← hy]
  exact results_tct rfl tmps w g _ cs _ hp hg und2 rfl (by rw [h2]; exact info2)
theorem Cl.pj {w : World} {B : Nat} {A : Option Addr} {L : List JobD} (h : Cl w B 126 4 A L.length (fun i => jobC (L.getD i job0))) (hL : 0 < L.length) : ∃ g, A = some ⟨g, 0, none⟩ ∧ B ≤ g ∧ PJ w g L (leftB L 0) := by
  obtain ⟨g, cur, e, h1, h2, h3⟩ := h.2 hL
  refine ⟨g, e, h1, cur, h2, fun i hi j hj => ?_⟩
  rw [h3 i hi j hj]
  match j, hj with
  | 0, _ => rfl
  | 1, _ => rfl
  | 2, _ => rfl
  | 3, _ => rfl
set_option maxRecDepth 100000 in
set_option maxHeartbeats 16000000 in
theorem schedule_any (w : World) (A : Option Addr) (c : Nat) (l : List MsgD) (h : MsgsAt w w.heap.size A l) :
    Calls Try.prog 21 #[.slice A l.length c] w (SchPost w l) := by
  have HL := Lib.hid h
  have hll := h.1
  obtain ⟨W0, hW0⟩ : ∃ W0, w.alloc (.cells #[.int .i64 0, .int .i64 0] 23) = W0 := ⟨_, rfl⟩
  have HB0 : Hid (Below w.heap.size w W0) := Lib.hid (by rw [← hW0]; exact (Below.refl _ w).alloc (Nat.le_refl _) _)
  have HR0 : Hid (Bk W0 w.heap.size 23 #[.int .i64 0, .int .i64 0]) := Lib.hid (by rw [← hW0]; exact Bk.new _ _ _)
  have HML := Lib.hid (Sl.mono (Sl.below HL.out HB0.out) HB0.out.size : MsgsAt W0 W0.heap.size A l)
  have HCY := Lib.hid (cycle_any W0 A c l HML.out)
  have hsz0 : w.heap.size < W0.heap.size := HR0.out.lt
  obtain ⟨n, hn⟩ : ∃ n, l.length = n := ⟨_, rfl⟩
  have HN := Lib.hid hn
  obtain ⟨er, her⟩ : ∃ er, (cycleB l).2 = er := ⟨_, rfl⟩
  obtain ⟨C0, hC0⟩ : ∃ C0, (cycleB l).1 = C0 := ⟨_, rfl⟩
  have HFIN : Hid (∀ A' c' (T : List Int) p er' len (a b : Int) w', schedB l = (T, p, er') → T.length = len → a = (p.1 : Nat) → b = (p.2 : Nat) → Cl w' w.heap.size 3 1 A' len (fun i _ => .int .i64 (getI T i)) → Below w.heap.size w w' → SchPost w l (.returned (.tuple #[.slice A' len c', .agg #[.int .i64 a, .int .i64 b], .int .i64 er'])) w') := Lib.hid fun A' c' T p er' len a b w' h1 h2 h3 h4 h5 h6 => by
    subst h2 h3 h4
    exact ⟨A', c', T, p, er', h1, rfl, h5, h6⟩
  have HSB : Hid (schedB l = if ¬ (cycleB l).2 = 0 then ([], (0, 0), (cycleB l).2)
      else match overB (jobsB (msgN l) (cycleN l)) (cycleN l) 1 with
      | some p => ([], p, 7)
      | none => (tableB (jobsB (msgN l) (cycleN l)) (cycleN l), (0, 0), 0)) := Lib.hid rfl
  have HOK := Lib.hid (cycle_ok (l := l))
  have HRJ := Lib.hid fun (w1 : World) (h1 : MsgsAt w1 w1.heap.size A l) (hk : CycOk l (cycleN l) (jobsB (msgN l) (cycleN l))) => jobs_any w1 A c l (cycleN l) h1 hk.valid hk.great hk.div (by have := hk.len; omega)
  rw [her] at HSB HOK HCY
  rw [hC0] at HOK HCY
  rw [hn] at hll HCY HRJ ⊢
  obtain ⟨JP, hJP⟩ : ∃ Q, SchPost w l = Q := ⟨_, rfl⟩
  rw [hJP] at HFIN ⊢
  clear h hn her hC0 hJP
  go_enter Try.func21, Try.ntmps21
  go_wp2_with fail
  refine HCY.out.mono ?_
  rintro e w1 ⟨rfl, hb1⟩
  have HBW1 := Lib.hid (HB0.out.trans (hb1.mono HB0.out.size))
  have HR1 := Lib.hid (HR0.out.below hb1 HR0.out.lt)
  clear hb1 hW0
  by_cases he : er = 0
  case neg =>
    have HS : Hid (schedB l = ([], (0, 0), er)) := Lib.hid (by rw [HSB.out, if_pos he])
    have r0 : w1.cell? ⟨w.heap.size, 0, none⟩ = some (.int .i64 0) := HR1.out.cell 0
    have r1 : w1.cell? ⟨w.heap.size, 1, none⟩ = some (.int .i64 0) := HR1.out.cell 1
    have rf := HR1.out.free
    go_wp2_with fail
    refine bodyPost_ret (v := .tuple #[.slice none 0 0, .agg #[.int .i64 0, .int .i64 0], .int .i64 er]) ?_ rfl (HFIN.out none 0 [] (0, 0) er 0 0 0 _ HS.out rfl rfl rfl (Cl.nil _ _ _ _ _ _) ?_)
    · exact results_f21 _ _ w.heap.size #[.int .i64 0, .int .i64 0] _ _ rfl rfl rfl ((HR1.out.set 0 _).set 1 _) rfl
    · exact ((HBW1.out.setCell (p := ⟨w.heap.size, 0, none⟩) (by simp) _).setCell (p := ⟨w.heap.size, 1, none⟩) (by simp) _)
  case pos =>
    subst he
    obtain ⟨hCe, hcyc⟩ := HOK.out rfl
    have HJ1 := Lib.hid (fun w1 h1 => HRJ.out w1 h1 hcyc)
    obtain ⟨C, hC⟩ : ∃ C, cycleN l = C := ⟨_, rfl⟩
    rw [hC] at hCe hcyc HJ1 HSB
    subst hCe
    obtain ⟨L, hLL⟩ : ∃ L, jobsB (msgN l) C = L := ⟨_, rfl⟩
    rw [hLL] at hcyc HJ1 HSB
    have HCYC := Lib.hid hcyc
    have hC2 := hcyc.great
    have hLn := hcyc.len
    have hL0 := hcyc.some
    have HMO := Lib.hid (made_over hcyc.ok)
    have HLEFT := Lib.hid hcyc.left
    have HOKJ := Lib.hid hcyc.ok
    clear hC hLL hcyc
    have HTL : Hid ((tableB L C).length = C) := Lib.hid (by unfold tableB; simp)
    go_wp2_with fail
    refine (HJ1.out w1 (Sl.mono (Sl.below HL.out HBW1.out) HBW1.out.size)).mono ?_
    rintro e w2 ⟨Aj, cj, rfl, hcl, hb2⟩
    obtain ⟨g, rfl, hg1, hpj⟩ := Cl.pj hcl hL0
    have HBW2 := Lib.hid (HBW1.out.trans (hb2.mono HBW1.out.size))
    have HR2 := Lib.hid (HR1.out.below hb2 HR1.out.lt)
    have HMD := Lib.hid (made_any w2 w1.heap.size g cj C L hb2.size hg1 hpj (by omega) HLEFT.out (by omega))
    have hsz1 : w.heap.size < w1.heap.size := HR1.out.lt
    clear hcl hpj hb2
    go_wp2_with fail
    refine HMD.out.mono ?_
    rintro e w3 ⟨hb3, hm⟩
    have HBW3 := Lib.hid (HBW2.out.trans (hb3.mono (Nat.le_of_lt hsz1)))
    have HR3 := Lib.hid (HR2.out.below hb3 hsz1)
    have r0 : w3.cell? ⟨w.heap.size, 0, none⟩ = some (.int .i64 0) := HR3.out.cell 0
    have r1 : w3.cell? ⟨w.heap.size, 1, none⟩ = some (.int .i64 0) := HR3.out.cell 1
    have rf := HR3.out.free
    clear hb3
    rcases hm with ⟨hm, At, ct, rfl, hcl⟩ | ⟨hm, rfl⟩
    · have HS : Hid (schedB l = (tableB L C, (0, 0), 0)) := Lib.hid (by
        rw [HMO.out] at hm
        rw [HSB.out, if_neg (by simp), Option.isNone_iff_eq_none.1 hm])
      have HCL := Lib.hid hcl
      clear hm hcl
      go_wp2_with fail
      refine bodyPost_ret (v := .tuple #[.slice At C ct, .agg #[.int .i64 0, .int .i64 0], .int .i64 0]) ?_ rfl (HFIN.out At ct (tableB L C) (0, 0) 0 C 0 0 _ HS.out HTL.out rfl rfl ?_ ?_)
      · exact results_f21 _ _ w.heap.size #[.int .i64 0, .int .i64 0] _ _ rfl rfl rfl ((HR3.out.set 0 _).set 1 _) rfl
      · have k1 := KT.only (Only.setCell w3 w.heap.size 0 (.int .i64 0)) HR3.out
        have k2 := KT.only (Only.setCell (w3.setCell ⟨w.heap.size, 0, none⟩ (.int .i64 0)) w.heap.size 1 (.int .i64 0)) (HR3.out.set 0 _)
        have := (HCL.out.kt k1 (by decide)).kt k2 (by decide)
        exact ⟨this.1, fun hn => by obtain ⟨g', cur, e, h1, h2, h3⟩ := this.2 hn; exact ⟨g', cur, e, by omega, h2, h3⟩⟩
      · exact ((HBW3.out.setCell (p := ⟨w.heap.size, 0, none⟩) (by simp) _).setCell (p := ⟨w.heap.size, 1, none⟩) (by simp) _)
    · have HS : Hid (∃ p, witB L C = p ∧ schedB l = ([], p, 7)) := Lib.hid (by
        rw [HMO.out] at hm
        unfold witB
        rw [HSB.out, if_neg (by simp)]
        cases ho : overB L C 1 with
        | none => rw [ho] at hm; cases hm
        | some p => exact ⟨p, rfl, rfl⟩)
      clear hm
      go_wp2_with fail
      refine (HJ1.out w3 (Sl.mono (Sl.below HL.out HBW3.out) HBW3.out.size)).mono ?_
      rintro e w4 ⟨Aw, cw, rfl, hcl, hb4⟩
      have HBW4 := Lib.hid (HBW3.out.trans (hb4.mono HBW3.out.size))
      have HR4 := Lib.hid (HR3.out.below hb4 HR3.out.lt)
      have HWI := Lib.hid (witness_any w4 Aw cw L C hcl.sl HOKJ.out HLEFT.out (by omega) (by omega))
      clear hcl hb4 r0 r1 rf
      go_wp2_with fail
      refine HWI.out.mono ?_
      rintro e w5 ⟨rfl, hb5⟩
      have HBW5 := Lib.hid (HBW4.out.trans (hb5.mono HBW4.out.size))
      have HR5 := Lib.hid (HR4.out.below hb5 HR4.out.lt)
      have r0 : w5.cell? ⟨w.heap.size, 0, none⟩ = some (.int .i64 0) := HR5.out.cell 0
      have r1 : w5.cell? ⟨w.heap.size, 1, none⟩ = some (.int .i64 0) := HR5.out.cell 1
      have rf := HR5.out.free
      obtain ⟨⟨a, b⟩, hp, hS⟩ := HS.out
      have HS2 := Lib.hid hS
      rw [hp]
      clear hb5 hS hp HS
      go_wp2_with fail
      refine bodyPost_ret (v := .tuple #[.slice none 0 0, .agg #[.int .i64 a, .int .i64 b], .int .i64 7]) ?_ rfl (HFIN.out none 0 [] (a, b) 7 0 a b _ HS2.out rfl rfl rfl (Cl.nil _ _ _ _ _ _) ?_)
      · exact results_f21 _ _ w.heap.size #[.int .i64 a, .int .i64 b] _ _ rfl rfl rfl ((HR5.out.set 0 _).set 1 _) rfl
      · exact ((HBW5.out.setCell (p := ⟨w.heap.size, 0, none⟩) (by simp) _).setCell (p := ⟨w.heap.size, 1, none⟩) (by simp) _)
end Go.Proofs.Ytnmccbjdfdbgpaa
