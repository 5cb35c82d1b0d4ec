/- What is proved: a contract of engine.reached. Conditions: the plant lies in memory; the goal's literals name its valves. -/
import Derived.Test.YtogobjmmgjfjjaaG2
namespace Go.Proofs.Ytogobjmmgjfjjaa
open Go.RowKit

section
variable {P : Program} {ops : Array Oper} {rest : List Oper} {o : Oper} {a : Act} {w : World} {Q : Exit → Act → World → Prop}
/-- A guarded load of several cells, a guarded call: where the guard says yes. -/
theorem wpLoadG (hw : Region.wanted o (yielded ops a.tmps) = true) (ty : TypeId) (x : Operand) (ho : o.op = .load ty x)
    (g off : Nat) (hx : a.eval x = .pointer (some ⟨g, off, none⟩)) (S : Array Value) (d : TypeDesc) (hc : ∀ j u, S[j]? = some u → w.cell? ⟨g, off + j, none⟩ = some u)
    (hu : P.underlying ty = some d) (hd : (match d with | .struct _ | .array _ _ => true | _ => false) = true) (hi : (P.info? ty).map (·.size) = some S.size)
    (h : wpList P ops Q rest (a.put o.dst (.agg S)) w) : wpList P ops Q (o :: rest) a w :=
  wpList_step fun _ hK => by
    rw [if_pos hw]
    exact wpo_loadS ty x ho g off hx S d hc hu hd hi (hK _ _ h)
theorem wpCallG (hw : Region.wanted o (yielded ops a.tmps) = true) (f : Nat) (xs : Array Operand) (ts : Array TypeId) (ho : o.op = .call { callee := .value (.func f), args := xs, argTypes := ts }) (vs : Array Value) (hx : xs.map a.eval = vs)
    (eg : ∀ args w, (callFunc f args).run P w = .ok (.enter f args) w) (h : Calls P f vs w fun e w' => ∃ v, e = .returned v ∧ wpList P ops Q rest (a.put o.dst v) w') : wpList P ops Q (o :: rest) a w :=
  wpList_step fun _ hK => by
    rw [if_pos hw]
    exact wpo_call f xs ts ho vs hx eg (h.mono fun e w' ⟨v, e1, e2⟩ => ⟨v, e1, hK _ _ e2⟩)
end

def endB (p : PlantD) (s : Spots) (l : LitD) : Int := if (s l.valve.toNat).opn then (p.valve l.valve.toNat).travel else 0
def reach1B (p : PlantD) (s : Spots) (l : LitD) : Bool := decide ((s l.valve.toNat).place = endB p s l) && holdsB p s l
def reachedB (p : PlantD) (s : Spots) (g : List LitD) : Bool := allN g.length fun k => reach1B p s (g.getD k lit0)

set_option maxRecDepth 100000 in
set_option maxHeartbeats 2000000 in
theorem reached1_any (w : World) (x : PV) (p : PlantD) (h : PlantAt w w.heap.size x p) (s : Spots) (hs : PlacesOk s) (v : Nat) (o : Bool) (hv : v < p.valves.length) (h12 : v < 12)
    (sb pb : Nat) (hsb : Bk w sb 74 (spotsA s)) (hpb : Bk w pb 33 (plantA x p)) :
    Calls Try.prog 82 #[.agg #[.int .i64 v, .bool o], .pointer (some ⟨sb, 0, none⟩), .pointer (some ⟨pb, 0, none⟩)] w
      fun e w' => e = .returned (.bool (reach1B p s ⟨v, o⟩)) ∧ Below w.heap.size w w' := by
  have hvi : (v : Int) < (p.valves.length : Int) := by omega
  have h12i : (v : Int) < (12 : Int) := by omega
  have h0i : (0 : Int) ≤ (v : Int) := by omega
  have g := spots_get s v h12
  have hsl := hsb.lt
  have hpl := hpb.lt
  have hsl1 : sb < w.heap.size + 1 := by omega
  have hpl1 : pb < w.heap.size + 1 := by omega
  have e0 := (hsb.cell (v * 2)).trans g.1
  have e1 := (hsb.cell (v * 2 + 1)).trans g.2
  have p1 : w.cell? ⟨pb, 1, none⟩ = some (.slice x.vA p.valves.length x.vc) := hpb.cell 1
  obtain ⟨b, off, hA, hB, _, d1, _⟩ := h.valves.at3 hv
  simp only [valveC] at d1
  rw [hA] at p1
  have hB1 : b < w.heap.size + 1 := by omega
  have hpc := hs v
  have hw : IntKind.i64.wrap (s v).place = (s v).place := IntWalk.i64_in _ (by omega)
  have hb0 : ∀ ob, Below w.heap.size w (w.alloc ob) := fun ob => (Below.refl _ _).alloc (Nat.le_refl _) _
  have HH := Lib.hid fun ob => holds_any (w.alloc ob) x p ((h.below (hb0 ob)).mono (by simp)) s v o hv h12 hs
  have HP := Lib.hid fun ob j u (hj : (plantA x p)[j]? = some u) => ((hpb.below (hb0 ob) hpl).cell (0 + j)).trans (by rw [Nat.zero_add]; exact hj : (plantA x p)[0 + j]? = some u)
  have HSB := Lib.hid fun ob j u (hj : (spotsA s)[j]? = some u) => ((hsb.below (hb0 ob) hsl).cell (0 + j)).trans (by rw [Nat.zero_add]; exact hj : (spotsA s)[0 + j]? = some u)
  have HL := Lib.hid fun j u (hj : (#[.int .i64 v, .bool o] : Array Value)[j]? = some u) => ((Bk.new w 51 #[.int .i64 v, .bool o]).cell (0 + j)).trans (by rw [Nat.zero_add]; exact hj : (#[.int .i64 v, .bool o] : Array Value)[0 + j]? = some u)
  have HB := Lib.hid hb0
  clear h hsb hpb hA g hb0
  cases ho : (s v).opn with
  | true =>
    have Hf := Lib.hid (show reach1B p s ⟨v, o⟩ = (decide ((s v).place = (p.valve v).travel) && holdsB p s ⟨v, o⟩) by unfold reach1B endB; simp [ho])
    rw [ho] at e1
    clear ho
    cases hq : decide ((s v).place = (p.valve v).travel) with
    | true =>
      rw [hq, Bool.true_and] at Hf
      have hq' : ((s v).place == (p.valve v).travel) = true := hq
      clear hq
      go_enter Try.func82, Try.ntmps82
      go_wp2_with (first | (refine wpLoadG rfl 33 (.tmp 2) rfl pb 0 rfl (plantA x p) _ (HP.out _) und_plant rfl info_plant ?_) | (refine wpLoadG rfl 74 (.tmp 1) rfl sb 0 rfl (spotsA s) _ (HSB.out _) und_spots rfl (info_spots_s _) ?_) | (refine wpLoadG rfl 51 (.tmp 3) rfl w.heap.size 0 rfl #[.int .i64 v, .bool o] _ HL.out und_lit rfl info_lit ?_))
      refine (HH.out _).mono ?_
      rintro e w' ⟨rfl, hb'⟩
      go_wp2_with fail
      go_ret
      exact ⟨ret_bool (by rw [Hf.out]), (HB.out _).trans (hb'.mono (by simp))⟩
    | false =>
      rw [hq, Bool.false_and] at Hf
      have hq' : ((s v).place == (p.valve v).travel) = false := hq
      clear hq
      go_enter Try.func82, Try.ntmps82
      go_wp2_with fail
      go_ret
      exact ⟨ret_bool (by rw [Hf.out]), HB.out _⟩
  | false =>
    have Hf := Lib.hid (show reach1B p s ⟨v, o⟩ = (decide ((s v).place = 0) && holdsB p s ⟨v, o⟩) by unfold reach1B endB; simp [ho])
    rw [ho] at e1
    clear ho
    cases hq : decide ((s v).place = 0) with
    | true =>
      rw [hq, Bool.true_and] at Hf
      have hq' : ((s v).place == 0) = true := hq
      clear hq
      go_enter Try.func82, Try.ntmps82
      go_wp2_with (first | (refine wpLoadG rfl 33 (.tmp 2) rfl pb 0 rfl (plantA x p) _ (HP.out _) und_plant rfl info_plant ?_) | (refine wpLoadG rfl 74 (.tmp 1) rfl sb 0 rfl (spotsA s) _ (HSB.out _) und_spots rfl (info_spots_s _) ?_) | (refine wpLoadG rfl 51 (.tmp 3) rfl w.heap.size 0 rfl #[.int .i64 v, .bool o] _ HL.out und_lit rfl info_lit ?_))
      refine (HH.out _).mono ?_
      rintro e w' ⟨rfl, hb'⟩
      go_wp2_with fail
      go_ret
      exact ⟨ret_bool (by rw [Hf.out]), (HB.out _).trans (hb'.mono (by simp))⟩
    | false =>
      rw [hq, Bool.false_and] at Hf
      have hq' : ((s v).place == 0) = false := hq
      clear hq
      go_enter Try.func82, Try.ntmps82
      go_wp2_with fail
      go_ret
      exact ⟨ret_bool (by rw [Hf.out]), HB.out _⟩
def GoalOk (p : PlantD) (g : List LitD) : Prop := ∀ k, k < g.length → 0 ≤ (g.getD k lit0).valve ∧ (g.getD k lit0).valve < p.valves.length
set_option maxRecDepth 100000 in
set_option maxHeartbeats 1000000 in
theorem reached_any (w : World) (x : PV) (p : PlantD) (h : PlantAt w w.heap.size x p) (s : Spots) (hs : PlacesOk s) (hv12 : p.valves.length ≤ 12) (gA : Option Addr) (gc : Nat) (g : List LitD) (hg : LitsAt w w.heap.size gA g) (hok : GoalOk p g) :
    Calls Try.prog 61 #[.agg (plantA x p), .agg (spotsA s), .slice gA g.length gc] w fun e w' => e = .returned (.bool (reachedB p s g)) ∧ Below w.heap.size w w' := by
  have hz := spotsA_size s
  let w1 := w.alloc (.cells (plantA x p) 33)
  let w2 := w1.alloc (.cells (spotsA s) 74)
  have hb : Below w.heap.size w w2 := ((Below.refl _ _).alloc (Nat.le_refl _) _).alloc (by simp) _
  have hs2 : w2.heap.size = w.heap.size + 2 := by simp [w2, w1]
  have h1 : Bk w2 w.heap.size 33 (plantA x p) := (Bk.new _ _ _).alloc _
  have h2 : Bk w2 (w.heap.size + 1) 74 (spotsA s) := Bk.newAt w1 _ _ _ (by simp [w1])
  have h4 := (h.below hb).mono (show w.heap.size ≤ w2.heap.size by omega)
  have HALL := Lib.hid (allLit w2 gA g.length gc _ ((Sl.below hg hb).mono (show w.heap.size ≤ w2.heap.size by omega)) 82 #[.pointer (some ⟨w.heap.size + 1, 0, none⟩), .pointer (some ⟨w.heap.size, 0, none⟩)] (fun k => reach1B p s (g.getD k lit0)) (fun args w => by kernel_rfl) (fun w4 hw4 k hk => by
    have hsz := hw4.size
    have key : ∀ L : LitD, 0 ≤ L.valve → L.valve < p.valves.length → Calls Try.prog 82 (#[.agg #[litC L 0, litC L 1]] ++ #[.pointer (some ⟨w.heap.size + 1, 0, none⟩), .pointer (some ⟨w.heap.size, 0, none⟩)]) w4
        fun e w'' => e = .returned (.bool (reach1B p s L)) ∧ Below w4.heap.size w4 w'' := by
      rintro ⟨v, o⟩ h0 h1'
      obtain ⟨n, rfl⟩ := Int.eq_ofNat_of_zero_le h0
      simp only at h1'
      exact reached1_any w4 x p ((h4.below hw4).mono hsz) s hs n o (by omega) (by omega) (w.heap.size + 1) w.heap.size (h2.below hw4 h2.lt) (h1.below hw4 h1.lt)
    exact key _ (hok k hk).1 (hok k hk).2))
  have HB := Lib.hid hb
  have HS := Lib.hid hs2
  clear h h1 h2 h4 hb hs2 hg
  simp only [w2, w1, plantA] at HALL HB HS ⊢
  clear w2 w1
  go_enter Try.func61, Try.ntmps61
  go_wp2_with fail
  refine HALL.out.mono ?_
  rintro e w' ⟨rfl, hb'⟩
  go_wp2_with fail
  go_ret
  exact ⟨rfl, HB.out.trans (hb'.mono (by rw [HS.out]; omega))⟩
end Go.Proofs.Ytogobjmmgjfjjaa
