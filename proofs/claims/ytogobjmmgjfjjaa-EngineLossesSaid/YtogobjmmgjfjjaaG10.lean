/- What is proved: a contract of engine.Path. Conditions: the plant and the goal lie in memory. -/
import Derived.Test.YtogobjmmgjfjjaaG9
namespace Go.Proofs.Ytogobjmmgjfjjaa
open Go.RowKit

/-! The rows' depth. -/
structure SrOk (st : Srch) : Prop where
  dep : ∀ (i : Nat) (r : RowC), st.rows[i]? = some r → r.depth ≤ i
  fnd : ∀ r : RowC, st.found = some r → r.depth ≤ 20001
  few : st.rows.length ≤ st.seen.length ∧ st.seen.length ≤ 20000
  next : st.next ≤ st.rows.length
theorem srch0_ok : SrOk srch0 := ⟨fun i r h => by simp [srch0] at h, fun r h => by simp [srch0] at h, by simp [srch0], by simp [srch0]⟩
theorem reachS_ok {p : PlantD} {g : List LitD} {st : Srch} {r : RowC} (h : SrOk st) (hr : r.depth ≤ st.rows.length) :
    SrOk (reachS p g st r).2 ∧ st.rows.length ≤ (reachS p g st r).2.rows.length ∧ (reachS p g st r).2.next = st.next := by
  have hf := h.few
  have hn := h.next
  unfold reachS
  by_cases h1 : inSet st.seen r.at_ = true
  · rw [if_pos h1]; exact ⟨h, Nat.le_refl _, rfl⟩
  · rw [if_neg h1]
    by_cases h2 : st.seen.length = 20000
    · rw [if_pos h2]; exact ⟨⟨h.dep, h.fnd, h.few, h.next⟩, Nat.le_refl _, rfl⟩
    · rw [if_neg h2]
      by_cases h3 : reachedB p r.at_ g = true
      · rw [if_pos h3]
        refine ⟨⟨h.dep, fun r' e => ?_, ?_, h.next⟩, Nat.le_refl _, rfl⟩
        · simp only [Option.some.injEq] at e; subst e; omega
        · simp only [List.length_append, List.length_cons, List.length_nil]; omega
      · rw [if_neg h3]
        refine ⟨⟨fun i r' e => ?_, h.fnd, ?_, ?_⟩, by simp, rfl⟩
        · simp only [List.getElem?_append] at e
          split at e
          · exact h.dep i r' e
          · have hi : i - st.rows.length = 0 := by
              rcases Nat.eq_zero_or_pos (i - st.rows.length) with hz | hz
              · exact hz
              · rw [List.getElem?_eq_none (by simp; omega)] at e; cases e
            rw [hi] at e
            simp only [List.getElem?_cons_zero, Option.some.injEq] at e
            subst e; omega
        · simp only [List.length_append, List.length_cons, List.length_nil]; omega
        · simp only [List.length_append, List.length_cons, List.length_nil]; omega
theorem try1S_ok {p : PlantD} {g : List LitD} {st : Srch} {r : RowC} (h : SrOk st) (hr : r.depth + 1 ≤ st.rows.length) (v : Nat) (o : Bool) :
    SrOk (try1S p g r v o st).2 ∧ st.rows.length ≤ (try1S p g r v o st).2.rows.length ∧ (try1S p g r v o st).2.next = st.next := by
  unfold try1S
  split
  · exact reachS_ok h hr
  · exact ⟨h, Nat.le_refl _, rfl⟩
theorem trysS_ok {p : PlantD} {g : List LitD} {r : RowC} : ∀ (n q : Nat) {st : Srch} (_ : SrOk st) (_ : r.depth + 1 ≤ st.rows.length),
    SrOk (trysS p g r n q st).2 ∧ st.rows.length ≤ (trysS p g r n q st).2.rows.length ∧ (trysS p g r n q st).2.next = st.next
  | 0, q, st, h, _ => ⟨h, Nat.le_refl _, rfl⟩
  | n + 1, q, st, h, hr => by
    obtain ⟨a, b, c⟩ := try1S_ok (p := p) (g := g) h hr (q / 2) (q % 2 == 1)
    unfold trysS
    split
    · obtain ⟨a2, b2, c2⟩ := trysS_ok (r := r) n (q + 1) a (by omega)
      exact ⟨a2, Nat.le_trans b b2, c2.trans c⟩
    · exact ⟨a, b, c⟩
theorem followS_ok {p : PlantD} {g : List LitD} {r : RowC} {st : Srch} (h : SrOk st) (hr : r.depth + 1 ≤ st.rows.length) : SrOk (followS p g r st).2 ∧ (followS p g r st).2.next = st.next := by
  obtain ⟨a, b, c⟩ := trysS_ok (p := p) (g := g) (2 * p.valves.length) 0 h hr
  unfold followS
  split
  · obtain ⟨a2, _, c2⟩ := reachS_ok (p := p) (g := g) (r := .step (movedB p r.at_ fun _ => false) r none) a (by show r.depth + 1 ≤ _; omega)
    exact ⟨a2, c2.trans c⟩
  · exact ⟨a, c⟩

section
variable {P : Program} {ops : Array Oper} {rest : List Oper} {o : Oper} {a : Act} {w : World} {Q : Exit → Act → World → Prop}
theorem wpBuildL (hgd : o.guard = none) (t : TypeId) (parts : Array (Nat × Operand)) (ho : o.op = .build t parts) (l : List (Nat × Value)) (cs : Array Value) (hev : (parts.map fun (i, x) => (i, a.eval x)).toList = l) (hb : P.built t l = some cs)
    (h : wpList P ops Q rest (a.put o.dst (.agg cs)) w) : wpList P ops Q (o :: rest) a w :=
  wpList_plain hgd fun _ hK => wp_build t parts ho (by rw [hev, hb]; rfl) (by rw [hev, hb]; exact hK _ _ h)
end
theorem built_search (x : PV) (gA : Option Addr) (gc sb mb : Nat) (p : PlantD) (n : Nat) : Try.prog.built 92 [(0, .agg (plantA x p)), (1, .slice gA n gc), (2, .map (some mb))] = some (searchA ⟨x, gA, gc, sb, mb⟩ p n 0 false (.slice none 0 0) (.pointer none)) := by kernel_rfl

def PathR (B : Nat) (X : SrX) (p : PlantD) (g : List LitD) (w0 wr : World) (n : Nat) (more : Bool) (st : Srch) : Prop :=
  SrIn wr B X p g st ∧ Fr B w0 wr ∧ SrOk st ∧ loopS p g n more st = pathS p g ∧ (more = true → st.next + n = 20002)
theorem loopS_false (p : PlantD) (g : List LitD) (n : Nat) (st : Srch) : loopS p g n false st = st := by cases n <;> rfl
theorem loopS_none {p : PlantD} {g : List LitD} {n : Nat} {st : Srch} (h : st.rows[st.next]? = none) : loopS p g (n + 1) true st = st := by
  unfold loopS; rw [if_pos rfl, h]
theorem loopS_some {p : PlantD} {g : List LitD} {n : Nat} {st : Srch} {r : RowC} (h : st.rows[st.next]? = some r) :
    loopS p g (n + 1) true st = loopS p g n (followS p g r { st with next := st.next + 1 }).1 (followS p g r { st with next := st.next + 1 }).2 := by
  conv => lhs; unfold loopS
  rw [if_pos rfl, h]
theorem goalOk_of {p : PlantD} {g : List LitD} {m : Int} (h : litsOk p.valves.length g m = true) : GoalOk p g := by
  unfold litsOk at h
  simp only [Bool.and_eq_true, allN_iff] at h
  intro k hk
  have := h.2 k hk
  rw [inB_iff] at this
  omega
theorem plantOk_valves {p : PlantD} (h : plantB p = true) : ValvesOk p := by
  unfold plantB at h
  simp only [Bool.and_eq_true] at h
  exact valvesOk_of _ h.1.1.1.1.2
theorem plantOk_never {p : PlantD} (h : plantB p = true) : NeverOk p := by
  unfold plantB at h
  simp only [Bool.and_eq_true] at h
  exact neverOk_of _ h.1.2

set_option maxRecDepth 100000 in
set_option maxHeartbeats 1000000 in
theorem path_any (w : World) (x : PV) (p : PlantD) (h : PlantAt w w.heap.size x p) (gA : Option Addr) (gc : Nat) (g : List LitD) (hg : LitsAt w w.heap.size gA g) :
    Calls Try.prog 10 #[.agg (plantA x p), .slice gA g.length gc] w
      fun e w' => ∃ v, e = .returned (.tuple #[v, .int .i64 (pathB p g).2]) ∧ OrdSl w' w.heap.size v (pathB p g).1 ∧ Below w.heap.size w w' := by
  have hb0 : ∀ o, Below w.heap.size w (w.alloc o) := fun o => (Below.refl _ _).alloc (Nat.le_refl _) _
  have H0 := Lib.hid h
  have HG0 := Lib.hid hg
  clear h hg
  have hmm := @run_makeMap Try.prog
  go_enter Try.func10, Try.ntmps10
  go_wp2_with (first | (refine wpLoadAt rfl 33 _ rfl w.heap.size 0 rfl (plantA x p) _ (fun j u hj => by rw [Nat.zero_add]; exact ((Bk.new w 33 (plantA x p)).cell j).trans hj) und_plant rfl info_plant ?_))
  obtain ⟨W, hW⟩ : ∃ W, W = w.alloc (.cells (plantA x p) 33) := ⟨_, rfl⟩
  have hbW : Below w.heap.size w W := by rw [hW]; exact hb0 _
  have hWs : W.heap.size = w.heap.size + 1 := by rw [hW]; simp
  have hpb : Bk W w.heap.size 33 (plantA x p) := by rw [hW]; exact Bk.new _ _ _
  rw [← hW]
  clear hW
  have HPC : Hid (∀ w1, Below W.heap.size W w1 → ∀ j u, (plantA x p)[j]? = some u → w1.cell? ⟨w.heap.size, 0 + j, none⟩ = some u) := Lib.hid fun w1 hw1 j u hj => by rw [Nat.zero_add]; exact ((hpb.below hw1 hpb.lt).cell j).trans hj
  have HPW : Hid (∀ w1, Below W.heap.size W w1 → PlantAt w1 w1.heap.size x p) := Lib.hid fun w1 hw1 => (H0.out.below (hbW.trans (hw1.mono (by omega)))).mono (by have := hw1.size; omega)
  have HGW : Hid (∀ w1, Below W.heap.size W w1 → LitsAt w1 w1.heap.size gA g) := Lib.hid fun w1 hw1 => (HG0.out.below (hbW.trans (hw1.mono (by omega)))).mono (by have := hw1.size; omega)
  have HBW : Hid (∀ w1, Below W.heap.size W w1 → Below w.heap.size w w1) := Lib.hid fun w1 hw1 => hbW.trans (hw1.mono (by omega))
  clear hbW hWs hpb hb0
  refine (checkPlant_any W x p (HPW.out W (Below.refl _ _))).mono ?_
  rintro e w1 ⟨rfl, hb1⟩
  have HB1 := Lib.hid hb1
  clear hb1
  cases hq : plantB p with
  | false =>
    have Hf := Lib.hid (show pathB p g = ([], 2) by unfold pathB; rw [hq]; rfl)
    clear hq
    go_wp2_with fail
    go_ret2
    rw [Hf.out]
    exact ⟨_, rfl, .inl ⟨rfl, rfl⟩, HBW.out _ HB1.out⟩
  | true =>
    have HQ := Lib.hid hq
    clear hq
    go_wp2_with (first | (refine wpLoadG rfl 33 (.tmp 2) rfl w.heap.size 0 rfl (plantA x p) _ (HPC.out _ HB1.out) und_plant rfl info_plant ?_))
    refine (literals_any w1 x p (HPW.out w1 HB1.out) gA gc g (HGW.out w1 HB1.out) 16).mono ?_
    rintro e w2 ⟨rfl, hb2⟩
    have HB2 := Lib.hid (HB1.out.trans (hb2.mono HB1.out.size))
    clear hb2
    cases hl : litsOk p.valves.length g 16 with
    | false =>
      have Hf := Lib.hid (show pathB p g = ([], 2) by unfold pathB; rw [HQ.out, hl]; rfl)
      clear hl
      go_wp2_with fail
      go_ret2
      rw [Hf.out]
      exact ⟨_, rfl, .inl ⟨rfl, rfl⟩, HBW.out _ HB2.out⟩
    | true =>
      have HL := Lib.hid hl
      clear hl
      have HB3 : Hid (∀ o1 o2, Below W.heap.size W ((w2.alloc o1).alloc o2)) := Lib.hid fun o1 o2 => (HB2.out.alloc HB2.out.size o1).alloc (by have := HB2.out.size; simp; omega) o2
      go_wp2_with (first | (refine wpLoadAt rfl 33 (.tmp 2) rfl w.heap.size 0 rfl (plantA x p) _ (HPC.out _ (by first | exact HB2.out | exact HB3.out _ _)) und_plant rfl info_plant ?_) | (refine wpBuildL rfl 92 _ rfl [(0, .agg (plantA x p)), (1, .slice gA g.length gc), (2, .map (some w2.heap.size))] (searchA ⟨x, gA, gc, w2.heap.size + 1, w2.heap.size⟩ p g.length 0 false (.slice none 0 0) (.pointer none)) (by simp [Act.eval]) (built_search _ _ _ _ _ _ _) ?_))
      obtain ⟨W3, hW3⟩ : ∃ W3, W3 = (w2.alloc (.map #[] 0)).alloc (.cells (searchA ⟨x, gA, gc, w2.heap.size + 1, w2.heap.size⟩ p g.length 0 false (.slice none 0 0) (.pointer none)) 92) := ⟨_, rfl⟩
      rw [← hW3]
      have hB3 : Below W.heap.size W W3 := by rw [hW3]; exact HB3.out _ _
      have hb23 : Below w2.heap.size w2 W3 := by rw [hW3]; exact ((Below.refl _ _).alloc (Nat.le_refl _) _).alloc (by simp) _
      have hS3 : SrAt W3 w2.heap.size ⟨x, gA, gc, w2.heap.size + 1, w2.heap.size⟩ p g srch0 (.slice none 0 0) (.pointer none) [] := by
        refine ⟨(HPW.out w2 HB2.out).below hb23, (HGW.out w2 HB2.out).below hb23, ?_, ?_, ?_, Nat.le_refl _, World.ownsRow_nil _ _ _ _, fun i hi => absurd hi (by simp [srch0]), .inl ⟨rfl, rfl⟩, by simp [srch0], by simp [srch0]⟩
        · rw [hW3]; exact Bk.newAt _ _ _ _ (by simp)
        · rw [hW3]; exact (SetP.made w2).keep (by
            show ((w2.alloc (.map #[] 0)).alloc _).heap[w2.heap.size]? = (w2.alloc (.map #[] 0)).heap[w2.heap.size]?
            exact Below.heap_alloc _ _ _ (by simp))
        · show w2.heap.size ≤ w2.heap.size + 1; omega
      have HS3 := Lib.hid hS3
      have H3 := Lib.hid hB3
      have hvo := plantOk_valves HQ.out
      have hno := plantOk_never HQ.out
      have hgo := goalOk_of HL.out
      have HVO := Lib.hid hvo
      have HNO := Lib.hid hno
      have HGO := Lib.hid hgo
      clear hW3 hB3 hb23 hS3 HB3 hvo hno hgo hmm
      refine (first_any W3 x p (HPW.out W3 H3.out) HVO.out).mono ?_
      rintro e w4 ⟨rfl, hb4⟩
      have HR : Hid (∀ o, o = Obj.cells (rowA (firstB p) (.pointer none) (.pointer none)) 96 → Calls Try.prog 29 #[.pointer (some ⟨w2.heap.size + 1, 0, none⟩), .pointer (some ⟨w4.heap.size, 0, none⟩)] (w4.alloc o)
          fun e w' => e = .returned (.bool (reachS p g srch0 (.root (firstB p))).1) ∧ SrIn w' w2.heap.size ⟨x, gA, gc, w2.heap.size + 1, w2.heap.size⟩ p g (reachS p g srch0 (.root (firstB p))).2 ∧ Fr w2.heap.size W3 w') := Lib.hid (by
        rintro o rfl
        have h34 : Below W3.heap.size W3 (w4.alloc (.cells (rowA (firstB p) (.pointer none) (.pointer none)) 96)) := hb4.alloc hb4.size _
        have h := reach_any _ w2.heap.size ⟨x, gA, gc, w2.heap.size + 1, w2.heap.size⟩ p g srch0 ⟨_, _, _, HS3.out.below h34⟩ HVO.out HGO.out (.root (firstB p)) w4.heap.size (Bk.new _ _ _) (firstB_spots HVO.out)
        exact h.mono fun e w' ⟨a, b, c⟩ => ⟨a, b, (Fr.of_below h34 HS3.out.lt).trans c⟩)
      clear hb4
      go_wp2_with (first | (refine wpBuildL rfl 96 _ rfl [(0, .agg (spotsA (firstB p)))] (rowA (firstB p) (.pointer none) (.pointer none)) (by simp [Act.eval]) (built_row1 _) ?_))
      refine (HR.out _ rfl).mono ?_
      rintro e w5 ⟨rfl, hS5, hF5⟩
      have hP5 : Hid (PathR w2.heap.size ⟨x, gA, gc, w2.heap.size + 1, w2.heap.size⟩ p g W3 w5 20002 (reachS p g srch0 (.root (firstB p))).1 (reachS p g srch0 (.root (firstB p))).2) := Lib.hid
        ⟨hS5, hF5, (reachS_ok srch0_ok (by simp [RowC.depth])).1, rfl, fun _ => by rw [(reachS_ok srch0_ok (by simp [RowC.depth])).2.2]; rfl⟩
      clear hS5 hF5 HR
      go_wp2_with fail
      go_loopg [7] 20002 (fun n v wr => ∃ more st, v = .bool more ∧ Hid (PathR w2.heap.size ⟨x, gA, gc, w2.heap.size + 1, w2.heap.size⟩ p g W3 wr n more st))
      case atStart => exact ⟨_, _, rfl, hP5⟩
      case round =>
        obtain ⟨more, st, rfl, hP⟩ := hrel
        clear hP5
        cases more with
        | false =>
          obtain ⟨⟨qv, fv, rb, hS⟩, hF, hO, hL, _⟩ := hP.out
          rw [loopS_false] at hL
          have HBF := Lib.hid (HBW.out wr (H3.out.trans (hF.below.mono HB2.out.size)))
          have c8 : wr.cell? ⟨w2.heap.size + 1, 8, none⟩ = some fv := hS.s.cell 8
          have c9 : wr.cell? ⟨w2.heap.size + 1, 9, none⟩ = some (.bool st.full) := hS.s.cell 9
          rcases hS.found with ⟨hn, rfl⟩ | ⟨r, b, hs, rfl, hr⟩
          · cases hfl : st.full with
            | false =>
              rw [hfl] at c9
              have Hf := Lib.hid (show pathB p g = ([], 7) by unfold pathB; rw [HQ.out, HL.out, ← hL, hn, hfl]; rfl)
              clear hS hL hn hfl hF hO hP
              go_wp2_with fail
              go_ret2
              rw [Hf.out]
              exact ⟨_, rfl, .inl ⟨rfl, rfl⟩, HBF.out⟩
            | true =>
              rw [hfl] at c9
              have Hf := Lib.hid (show pathB p g = ([], 3) by unfold pathB; rw [HQ.out, HL.out, ← hL, hn, hfl]; rfl)
              clear hS hL hn hfl hF hO hP
              go_wp2_with fail
              go_ret2
              rw [Hf.out]
              exact ⟨_, rfl, .inl ⟨rfl, rfl⟩, HBF.out⟩
          · have Hf := Lib.hid (show pathB p g = (r.back.reverse, 0) by unfold pathB; rw [HQ.out, HL.out, ← hL, hs]; rfl)
            have HR := Lib.hid (orders_any wr r b hr (Nat.le_trans (hO.fnd r hs) (by omega)))
            simp only [ptr] at c8
            clear hS hL hs hF hO hP hr
            go_wp2_with fail
            refine HR.out.mono ?_
            rintro e w6 ⟨v, rfl, hv, hb6⟩
            have HV := Lib.hid hv
            have HB6 := Lib.hid hb6
            clear hv hb6
            go_wp2_with fail
            go_ret2
            rw [Hf.out]
            refine ⟨_, rfl, ?_, HBF.out.trans (HB6.out.mono HBF.out.size)⟩
            rcases HV.out with h | ⟨g', cap, h1, h2, h3, h4⟩
            · exact .inl h
            · exact .inr ⟨g', cap, h1, h2, Nat.le_trans HBF.out.size h3, h4⟩
        | true =>
          obtain ⟨⟨qv, fv, rb, hS⟩, hF, hO, hL, hnx⟩ := hP.out
          have hnx' := hnx rfl
          have hle := hO.next
          have hfew := hO.few
          obtain ⟨m, rfl⟩ : ∃ m, gk = m + 1 := ⟨gk - 1, by omega⟩
          by_cases hlt : st.next < st.rows.length
          · obtain ⟨r, b, h1, h2, h3, h4⟩ := hS.rows _ hlt
            rw [loopS_some h1] at hL
            rcases hS.own.2 with ⟨_, h0⟩ | ⟨g', cap, cur, rfl, hrest⟩
            · omega
            · have hcell : wr.cell? ⟨g', st.next, none⟩ = some (ptr b) := by
                have := hS.own.cells (g := g') rfl st.next (ptr b) (by simp [h2])
                rw [Addr.add_lit, Nat.zero_add] at this
                exact this
              have hT := takeSome_any wr (w2.heap.size + 1) _ hS.s g' st.rows.length cap st.next (by omega) hlt rfl rfl (ptr b) hcell (by
                have := own_ne hS.own hS.s (by decide)
                simp only [Value.ownBlock, ne_eq, Option.some.injEq] at this
                exact fun e => this e.symm)
              have HT := Lib.hid hT
              have HS := Lib.hid hS
              have H4 := Lib.hid h4
              have H3' := Lib.hid h3
              have HF := Lib.hid hF
              have HO := Lib.hid hO
              have HLL := Lib.hid hL
              have HD := Lib.hid (hO.dep _ _ h1)
              have HX := Lib.hid hnx'
              have HLT := Lib.hid hlt
              clear hT hS h4 h3 hF hO hL h1 h2 hcell hrest hP hnx hlt hle hfew hnx'
              go_wp2_with fail
              refine HT.out.mono ?_
              rintro e w6 ⟨rfl, hb6, ho6⟩
              have hS6 := HS.out.store ho6 (st.next + 1) st.full st.found fv hb6 (by have := HLT.out; omega) HS.out.found
              have hF6 := HS.out.frOnly ho6
              have hO6 : SrOk { st with next := st.next + 1 } := ⟨HO.out.dep, HO.out.fnd, HO.out.few, HLT.out⟩
              have HFO := Lib.hid (followS_ok (p := p) (g := g) (r := r) hO6 (by have := HD.out; have := HLT.out; show r.depth + 1 ≤ st.rows.length; omega))
              have HFW := Lib.hid (follow_any w6 w2.heap.size ⟨x, gA, gc, w2.heap.size + 1, w2.heap.size⟩ p g { st with next := st.next + 1 } ⟨_, _, _, hS6⟩ HVO.out HNO.out HGO.out r b (H3'.out.fr hF6) H4.out)
              have HF6 := Lib.hid (HF.out.trans hF6)
              clear hS6 hF6 hO6 hb6 ho6
              simp only [ptr]
              go_wp2_with fail
              refine HFW.out.mono ?_
              rintro e w7 ⟨rfl, hS7, hF7⟩
              have HP7 : Hid (PathR w2.heap.size ⟨x, gA, gc, w2.heap.size + 1, w2.heap.size⟩ p g W3 w7 m (followS p g r { st with next := st.next + 1 }).1 (followS p g r { st with next := st.next + 1 }).2) := Lib.hid
                ⟨hS7, HF6.out.trans hF7, HFO.out.1, HLL.out, fun _ => by rw [HFO.out.2]; have := HX.out; show st.next + 1 + m = 20002; omega⟩
              clear hS7 hF7
              go_wp2_with fail
              go_roundg m
              case rel => exact ⟨_, _, rfl, HP7.out⟩
              case measure => omega
          · have h1 : st.rows[st.next]? = none := List.getElem?_eq_none (by omega)
            rw [loopS_none h1] at hL
            obtain ⟨A, c, rfl⟩ := own_slice hS.own
            have he : st.next = st.rows.length := by omega
            have hT := takeNone_any wr (w2.heap.size + 1) _ hS.s A st.rows.length c rfl (by rw [← he]; rfl)
            have HT := Lib.hid hT
            have HP6 : Hid (∀ n, PathR w2.heap.size ⟨x, gA, gc, w2.heap.size + 1, w2.heap.size⟩ p g W3 (wr.drewN n) m false st) := Lib.hid fun n =>
              have hbn : Below wr.heap.size wr (wr.drewN n) := below_drewN (Below.refl _ _) n
              ⟨⟨_, _, _, hS.below hbn⟩, hF.trans (Fr.of_below hbn hS.lt), hO, by rw [loopS_false]; exact hL, fun h => by cases h⟩
            clear hT hS hF hO hL h1 hP hnx hlt he hle hfew hnx'
            go_wp2_with fail
            refine HT.out.mono ?_
            rintro e w6 ⟨rfl, n6, rfl⟩
            go_wp2_with fail
            go_roundg m
            case rel => exact ⟨_, _, rfl, HP6.out _⟩
            case measure => omega
end Go.Proofs.Ytogobjmmgjfjjaa
