/- What is proved: the texts Ap Aq Ar As At Au Av Aw, one behind the other; each says at its head what it proves, and under which conditions. -/
import Derived.Test.Ytnmccbjdfdbgpaan6
/- What is proved: a contract of what decide's inner function holds of a path. Conditions: the council and what it knows lie in memory; the path's members are members. -/
namespace Go.Proofs.Ytnmccbjdfdbgpaa
open Go.RowKit Go.Maps Go.WideMaps

section
variable {P : Program} {o : Oper} {a : Act} {w : World} {K : Act → World → Prop} {Q : Exit → Act → World → Prop}
theorem wpo_callV (f : Nat) (lb : Array Value) (x : Operand) (xs : Array Operand) (ts : Array TypeId) (ho : o.op = .call { callee := .value x, args := xs, argTypes := ts }) (hf : a.eval x = .func (.func f) #[] lb) (vs : Array Value) (hx : xs.map a.eval = vs)
    (eg : ∀ args w, (callFunc f args).run P w = .ok (.enter f args) w) (args : Array Value) (ha : vs ++ lb = args) (h : Calls P f args w fun e w' => ∃ v, e = .returned v ∧ K (a.put o.dst v) w') : o.wp P a w K Q := by
  subst ha
  unfold Oper.wp execOp
  simp only [ho, resolve, hx, hf, Deferred.ofValue, Sem.run_bind, Sem.run_pure, Result.andThen_ok, invoke]
  simp [eg, Oper.upon]
  refine h.mono ?_
  rintro e w' ⟨v, rfl, hk⟩
  exact hk
end
def restP (rp : List Int) (i : Int) (k : Nat) : List Nat := (List.range k).filter fun j => decide ((j : Int) ≠ i) && !hasB rp.reverse j
/-- What one holds of a path, the last member first; n: how many steps are left. -/
def heldP (q : Know) (fl : List Int) (N : Nat) (value : Int) : Nat → List Int → Int → Int
  | 0, rp, i => hearP q fl value rp i
  | n + 1, rp, i => majB (hearP q fl value rp i :: (restP rp i N).map fun (j : Nat) => heldP q fl N value n ((j : Int) :: rp) i)
structure HoldE (w : World) (kb hb vb M : Nat) (N F : Nat) (Af : Option Addr) (cf : Nat) (fl : List Int) (q : Know) (value : Int) : Prop where
  con : Bk w kb 102 (counA N F Af fl.length cf (.map (some M)))
  hld : Bk w hb 136 #[.func (.func 76) #[] #[.pointer (some ⟨kb, 0, none⟩), .pointer (some ⟨hb, 0, none⟩), .pointer (some ⟨vb, 0, none⟩)]]
  val : Bk w vb 3 #[.int .i64 value]
  kno : KnowAt w M q
  fls : IntsAt w w.heap.size Af fl
theorem undCoun : ∃ fs, Try.prog.underlying 102 = some (.struct fs) := und_struct (by kernel_rfl)
theorem infoCoun : (Try.prog.info? 102).map (·.size) = some 4 := by kernel_rfl
theorem HoldE.below {w w' : World} {kb hb vb M N F : Nat} {Af : Option Addr} {cf : Nat} {fl : List Int} {q : Know} {value : Int} (h : HoldE w kb hb vb M N F Af cf fl q value) (hw : Below w.heap.size w w') : HoldE w' kb hb vb M N F Af cf fl q value :=
  ⟨h.con.below hw h.con.lt, h.hld.below hw h.hld.lt, h.val.below hw h.val.lt, h.kno.below hw h.kno.lt, Sl.mono (Sl.below h.fls hw) hw.size⟩
/-- Where a path's last member is. -/
theorem path_last (r : List Int) (x : Int) (hr : r.length ≤ 2) : (pathA (x :: r).reverse)[r.length]? = some (.int .i8 x) := by
  match r, hr with
  | [], _ => rfl
  | [_], _ => rfl
  | [_, _], _ => rfl
  | _ :: _ :: _ :: _, h => simp only [List.length_cons] at h; omega
theorem path_size (p : List Int) (k : Nat) (h : p.length = k + 1) : (pathA p)[3]? = some (.int .i64 ((k : Int) + 1)) := by
  show some (Value.int .i64 (p.length : Nat)) = _
  rw [h]; rfl
theorem row_one {w : World} {B g : Nat} {t : TypeId} {x : Value} (h : Bk w g t #[x]) (hB : B ≤ g) : w.ownsRow B t 1 (.slice (some ⟨g, 0, none⟩) 1 1) 1 [x] :=
  ⟨rfl, Or.inr ⟨g, 1, #[x], rfl, hB, h, Nat.le_refl _, by decide, rfl, rfl⟩⟩
theorem restP_succ (rp : List Int) (i : Int) (k : Nat) : restP rp i (k + 1) = if decide ((k : Int) ≠ i) && !hasB rp.reverse k then restP rp i k ++ [k] else restP rp i k := by
  unfold restP
  rw [List.range_succ, List.filter_append]
  cases h : (decide ((k : Int) ≠ i) && !hasB rp.reverse k) with
  | true => simp only [List.filter_cons, List.filter_nil, h, if_true]
  | false => simp only [List.filter_cons, List.filter_nil, h, Bool.false_eq_true, if_false, List.append_nil]
theorem restP_len (rp : List Int) (i : Int) (k : Nat) : (restP rp i k).length ≤ k := by
  unfold restP; exact Nat.le_trans (List.length_filter_le _ _) (by simp)
/-- The list's numbers behind k members. -/
def heldL (q : Know) (fl : List Int) (N : Nat) (value : Int) (n : Nat) (rp : List Int) (i : Int) (k : Nat) : List Int := hearP q fl value rp i :: (restP rp i k).map fun (j : Nat) => heldP q fl N value n ((j : Int) :: rp) i
theorem heldL_no {q : Know} {fl : List Int} {N : Nat} {value : Int} {n : Nat} {rp : List Int} {i : Int} {k : Nat} (h : (decide ((k : Int) ≠ i) && !hasB rp.reverse k) = false) : heldL q fl N value n rp i (k + 1) = heldL q fl N value n rp i k := by
  unfold heldL; rw [restP_succ, h]; rfl
theorem heldL_yes {q : Know} {fl : List Int} {N : Nat} {value : Int} {n : Nat} {rp : List Int} {i : Int} {k : Nat} (h : (decide ((k : Int) ≠ i) && !hasB rp.reverse k) = true) : heldL q fl N value n rp i (k + 1) = heldL q fl N value n rp i k ++ [heldP q fl N value n ((k : Int) :: rp) i] := by
  unfold heldL; rw [restP_succ, h, if_pos rfl, List.map_append]; rfl
theorem heldL_len (q : Know) (fl : List Int) (N : Nat) (value : Int) (n : Nat) (rp : List Int) (i : Int) (k : Nat) : (heldL q fl N value n rp i k).length ≤ k + 1 := by
  unfold heldL; have := restP_len rp i k; simp; exact this
def intsV (l : List Int) : List Value := l.map (Value.int .i64)
theorem intsV_rows (l : List Int) : intsV l = rowsL l.length 1 fun i _ => .int .i64 (getI l i) := by
  unfold intsV rowsL
  rw [Nat.mul_one]
  apply List.ext_getElem?
  intro j
  by_cases hj : j < l.length
  · rw [map_getI l j hj, List.getElem?_map, List.getElem?_range hj]
    simp
  · rw [List.getElem?_eq_none (by simpa using hj), List.getElem?_eq_none (by simpa using hj)]
def AppJ (wr : World) (B : Nat) (T : TypeId) (v : Value) (n : Nat) (xs cs : List Value) (d1 d2 d3 : Bool) (v1 v2 v3 : Value) (w1 : World) : Prop :=
  (d2 = false → Below wr.heap.size wr w1 ∧ (d1 = true → ∃ g, v1 = .slice (some ⟨g, 0, none⟩) 1 1 ∧ Bk w1 g T cs.toArray)) ∧
  (d2 = true → ∃ w0, Below wr.heap.size wr w0 ∧ w1.ownsRow B T 1 v2 (n + 1) (xs ++ cs) ∧ w0.grownBy w1 v.ownBlock) ∧ (d3 = true → v3 = v2)
theorem AppJ.start (wr : World) (B : Nat) (T : TypeId) (v : Value) (n : Nat) (xs cs : List Value) (v1 v2 v3 : Value) : AppJ wr B T v n xs cs false false false v1 v2 v3 wr.drew :=
  ⟨fun _ => ⟨(Below.refl _ _).drew, fun h => absurd h (by decide)⟩, fun h => absurd h (by decide), fun h => absurd h (by decide)⟩
set_option maxRecDepth 100000 in
set_option maxHeartbeats 16000000 in
theorem hold_any (kb hb vb M : Nat) (N F : Nat) (Af : Option Addr) (cf : Nat) (fl : List Int) (q : Know) (value : Int) (ho : Once q) (hN : N ≤ 7) (hF : F ≤ 2) (i : Int) (hi1 : 0 ≤ i) (hi2 : i ≤ 6) :
    ∀ (n : Nat) (w : World) (r : List Int) (x : Int), HoldE w kb hb vb M N F Af cf fl q value → r.length + n = F → MemOk (x :: r) →
      Calls Try.prog 76 #[.agg (pathA (x :: r).reverse), .int .i64 (hearP q fl value r x), .int .i64 i, .pointer (some ⟨kb, 0, none⟩), .pointer (some ⟨hb, 0, none⟩), .pointer (some ⟨vb, 0, none⟩)] w
        fun e w' => e = .returned (.int .i64 (heldP q fl N value n (x :: r) i)) ∧ Below w.heap.size w w' := by
  intro n
  induction n with
  | zero =>
    intro w r x hE hlen hm
    have HE := Lib.hid hE
    have HM := Lib.hid hm
    have hrl : r.length ≤ 2 := by omega
    obtain ⟨k, hk⟩ : ∃ k, r.length = k := ⟨_, rfl⟩
    have hpl : (x :: r).reverse.length = k + 1 := by simp [hk]
    have HPL := Lib.hid hpl
    have hxm := hm x (List.mem_cons_self ..)
    have hx1 := hxm.1
    have hx2 := hxm.2
    obtain ⟨g0, g1, g2, gl, hpe⟩ : ∃ g0 g1 g2 gl : Int, pathA (x :: r).reverse = #[.int .i8 g0, .int .i8 g1, .int .i8 g2, .int .i64 gl] := ⟨_, _, _, _, rfl⟩
    obtain rfl : gl = (k : Int) + 1 := by
      have := path_size _ k hpl
      rw [hpe] at this
      simpa using this
    have HPE := Lib.hid hpe
    have HLA : Hid (#[Value.int .i8 g0, .int .i8 g1, .int .i8 g2, .int .i64 ((k : Int) + 1)][k]? = some (.int .i8 x)) := Lib.hid (by
      have := path_last r x hrl
      rw [hpe, hk] at this; exact this)
    obtain ⟨W1, hW1⟩ : ∃ W1, w.alloc (.cells #[.int .i8 g0, .int .i8 g1, .int .i8 g2, .int .i64 ((k : Int) + 1)] 131) = W1 := ⟨_, rfl⟩
    have hb1 : Below w.heap.size w W1 := by rw [← hW1]; exact (Below.refl _ _).alloc (Nat.le_refl _) _
    have HB1 := Lib.hid hb1
    have HP1 : Hid (Bk W1 w.heap.size 131 #[.int .i8 g0, .int .i8 g1, .int .i8 g2, .int .i64 ((k : Int) + 1)]) := Lib.hid (by rw [← hW1]; exact Bk.new _ _ _)
    have HE1 := Lib.hid (hE.below hb1)
    obtain ⟨nf, hnf⟩ : ∃ nf, fl.length = nf := ⟨_, rfl⟩
    have HNF := Lib.hid hnf
    obtain ⟨sd, hsd⟩ : ∃ sd, hearP q fl value r x = sd := ⟨_, rfl⟩
    obtain ⟨S, hS⟩ : ∃ S, hearP q fl value (x :: r) i = S := ⟨_, rfl⟩
    have HS := Lib.hid hS
    have HSD := Lib.hid hsd
    obtain ⟨R, hR⟩ : ∃ R, heldP q fl N value 0 (x :: r) i = R := ⟨_, rfl⟩
    have HR := Lib.hid hR
    have HFIN : Hid (∀ (e : Ending) (w' : World), e = .returned (.int .i64 R) → Below w.heap.size w w' → e = .returned (.int .i64 R) ∧ Below w.heap.size w w') := Lib.hid fun _ _ a b => ⟨a, b⟩
    obtain ⟨pb, hpb⟩ : ∃ pb, w.heap.size = pb := ⟨_, rfl⟩
    have HPB := Lib.hid hpb
    have hkF : (k : Int) + 0 = F := by omega
    have c1k := hE.con
    have cc : ∀ w5, Below W1.heap.size W1 w5 → w5.cell? ⟨kb, 0, none⟩ = some (.int .i64 N) ∧ w5.cell? ⟨kb, 1, none⟩ = some (.int .i64 F) ∧ w5.cell? ⟨kb, 2, none⟩ = some (.slice Af nf cf) ∧ w5.cell? ⟨kb, 3, none⟩ = some (.map (some M)) := fun w5 h5 => by
      have hc := (HE1.out.below h5).con
      rw [hnf] at hc
      exact ⟨hc.cell 0, hc.cell 1, hc.cell 2, hc.cell 3⟩
    have HCC := Lib.hid cc
    have pp : ∀ w5, Below W1.heap.size W1 w5 → w5.cell? ⟨pb, 0, none⟩ = some (.int .i8 g0) ∧ w5.cell? ⟨pb, 1, none⟩ = some (.int .i8 g1) ∧ w5.cell? ⟨pb, 2, none⟩ = some (.int .i8 g2) ∧ w5.cell? ⟨pb, 3, none⟩ = some (.int .i64 ((k : Int) + 1)) ∧ w5.cell? ⟨pb, k, none⟩ = some (.int .i8 x) := fun w5 h5 => by
      have hc := HP1.out.below h5 HP1.out.lt
      rw [hpb] at hc
      exact ⟨hc.cell 0, hc.cell 1, hc.cell 2, hc.cell 3, (hc.cell k).trans HLA.out⟩
    have HPP := Lib.hid pp
    obtain ⟨c0, c1, c2, c3⟩ := cc W1 (Below.refl _ _)
    obtain ⟨p0, p1, p2, p3, p4⟩ := pp W1 (Below.refl _ _)
    have HFA := Lib.hid (faulty_any W1 N F x Af cf fl (.map (some M)) HE1.out.fls)
    have hk3 : (k : Int) < 3 := by omega
    have hk0 : (0 : Int) ≤ k := by omega
    rw [hnf] at HFA
    rw [hpe, hsd, hR]
    clear hE hm hk hpl hxm hpe hb1 hnf hsd hS hR cc pp c1k hrl
    go_enter Try.func76, Try.ntmps76
    go_wp2_with fail
    refine HFA.out.mono ?_
    rintro e w5 ⟨rfl, hb5⟩
    have HB5 := Lib.hid hb5
    obtain ⟨c0', c1', c2', c3'⟩ := HCC.out w5 hb5
    obtain ⟨p0', p1', p2', p3', p4'⟩ := HPP.out w5 hb5
    have HBW6 : Hid (∀ _ : Unit, Below w.heap.size w w5) := Lib.hid fun _ => HB1.out.trans (hb5.mono HB1.out.size)
    clear hb5 c0 c1 c2 c3 p0 p1 p2 p3 p4
    cases hh : hasB fl x
    case' true =>
      have hlk : (Instr.lookup 100 (.map (some M)) (.agg #[.int .i8 g0, .int .i8 g1, .int .i8 g2, .int .i64 ((k : Int) + 1), .int .i64 i]) false).run Try.prog w5 = .ok (.int .i64 S) w5 := by
        have := (HE1.out.below HB5.out).kno.look2 ho (p := (x :: r).reverse) (t := i) (MemOk.path (fun y hy => HM.out y (List.mem_reverse.1 hy)) (by rw [HPL.out]; omega)) (wf64_of (by omega) (by omega)) false
        have hS := HS.out
        unfold hearP at hS
        rw [if_pos hh] at hS
        have hte : toldA (x :: r).reverse i = #[.int .i8 g0, .int .i8 g1, .int .i8 g2, .int .i64 ((k : Int) + 1), .int .i64 i] := by
          have := HPE.out
          unfold pathA at this
          simp only [Array.mk.injEq, List.cons.injEq, Value.int.injEq, true_and, and_true] at this
          obtain ⟨h0, h1, h2, h3⟩ := this
          unfold toldA
          rw [h0, h1, h2, h3]
        rw [hte, hS] at this
        exact this
      clear hh
      go_wp2_with fail
      go_ret
      exact HFIN.out _ _ (by rw [← HR.out, ← HS.out]; rfl) (HBW6.out ())
    case' false =>
      obtain rfl : S = sd := by
        have hS := HS.out
        unfold hearP at hS
        rw [hh] at hS
        rw [← hS, ← HSD.out]; rfl
      clear hh
      go_wp2_with fail
      go_ret
      exact HFIN.out _ _ (by rw [← HR.out, ← HS.out]; rfl) (HBW6.out ())
  | succ n ih =>
    intro w r x hE hlen hm
    have HE := Lib.hid hE
    have HM := Lib.hid hm
    have hrl : r.length ≤ 2 := by omega
    obtain ⟨k, hk⟩ : ∃ k, r.length = k := ⟨_, rfl⟩
    have hpl : (x :: r).reverse.length = k + 1 := by simp [hk]
    have HPL := Lib.hid hpl
    have hxm := hm x (List.mem_cons_self ..)
    have hx1 := hxm.1
    have hx2 := hxm.2
    obtain ⟨g0, g1, g2, gl, hpe⟩ : ∃ g0 g1 g2 gl : Int, pathA (x :: r).reverse = #[.int .i8 g0, .int .i8 g1, .int .i8 g2, .int .i64 gl] := ⟨_, _, _, _, rfl⟩
    obtain rfl : gl = (k : Int) + 1 := by
      have := path_size _ k hpl
      rw [hpe] at this
      simpa using this
    have HPE := Lib.hid hpe
    have HLA : Hid (#[Value.int .i8 g0, .int .i8 g1, .int .i8 g2, .int .i64 ((k : Int) + 1)][k]? = some (.int .i8 x)) := Lib.hid (by
      have := path_last r x hrl
      rw [hpe, hk] at this; exact this)
    obtain ⟨W1, hW1⟩ : ∃ W1, w.alloc (.cells #[.int .i8 g0, .int .i8 g1, .int .i8 g2, .int .i64 ((k : Int) + 1)] 131) = W1 := ⟨_, rfl⟩
    have hb1 : Below w.heap.size w W1 := by rw [← hW1]; exact (Below.refl _ _).alloc (Nat.le_refl _) _
    have HB1 := Lib.hid hb1
    have HP1 : Hid (Bk W1 w.heap.size 131 #[.int .i8 g0, .int .i8 g1, .int .i8 g2, .int .i64 ((k : Int) + 1)]) := Lib.hid (by rw [← hW1]; exact Bk.new _ _ _)
    have HE1 := Lib.hid (hE.below hb1)
    obtain ⟨nf, hnf⟩ : ∃ nf, fl.length = nf := ⟨_, rfl⟩
    have HNF := Lib.hid hnf
    obtain ⟨sd, hsd⟩ : ∃ sd, hearP q fl value r x = sd := ⟨_, rfl⟩
    obtain ⟨S, hS⟩ : ∃ S, hearP q fl value (x :: r) i = S := ⟨_, rfl⟩
    have HS := Lib.hid hS
    have HSD := Lib.hid hsd
    obtain ⟨R, hR⟩ : ∃ R, heldP q fl N value (n + 1) (x :: r) i = R := ⟨_, rfl⟩
    have HR := Lib.hid hR
    have HFIN : Hid (∀ (e : Ending) (w' : World), e = .returned (.int .i64 R) → Below w.heap.size w w' → e = .returned (.int .i64 R) ∧ Below w.heap.size w w') := Lib.hid fun _ _ a b => ⟨a, b⟩
    obtain ⟨pb, hpb⟩ : ∃ pb, w.heap.size = pb := ⟨_, rfl⟩
    have HPB := Lib.hid hpb
    have hkF : (k : Int) + (n + 1 : Nat) = F := by omega
    have c1k := hE.con
    have cc : ∀ w5, Below W1.heap.size W1 w5 → w5.cell? ⟨kb, 0, none⟩ = some (.int .i64 N) ∧ w5.cell? ⟨kb, 1, none⟩ = some (.int .i64 F) ∧ w5.cell? ⟨kb, 2, none⟩ = some (.slice Af nf cf) ∧ w5.cell? ⟨kb, 3, none⟩ = some (.map (some M)) := fun w5 h5 => by
      have hc := (HE1.out.below h5).con
      rw [hnf] at hc
      exact ⟨hc.cell 0, hc.cell 1, hc.cell 2, hc.cell 3⟩
    have HCC := Lib.hid cc
    have pp : ∀ w5, Below W1.heap.size W1 w5 → w5.cell? ⟨pb, 0, none⟩ = some (.int .i8 g0) ∧ w5.cell? ⟨pb, 1, none⟩ = some (.int .i8 g1) ∧ w5.cell? ⟨pb, 2, none⟩ = some (.int .i8 g2) ∧ w5.cell? ⟨pb, 3, none⟩ = some (.int .i64 ((k : Int) + 1)) ∧ w5.cell? ⟨pb, k, none⟩ = some (.int .i8 x) := fun w5 h5 => by
      have hc := HP1.out.below h5 HP1.out.lt
      rw [hpb] at hc
      exact ⟨hc.cell 0, hc.cell 1, hc.cell 2, hc.cell 3, (hc.cell k).trans HLA.out⟩
    have HPP := Lib.hid pp
    obtain ⟨c0, c1, c2, c3⟩ := cc W1 (Below.refl _ _)
    obtain ⟨p0, p1, p2, p3, p4⟩ := pp W1 (Below.refl _ _)
    have HFA := Lib.hid (faulty_any W1 N F x Af cf fl (.map (some M)) HE1.out.fls)
    have hk3 : (k : Int) < 3 := by omega
    have hk0 : (0 : Int) ≤ k := by omega
    rw [hnf] at HFA
    rw [hpe, hsd, hR]
    clear hE hm hk hpl hxm hpe hb1 hnf hsd hS hR cc pp c1k hrl
    obtain ⟨i0, hi, hz0, hz1, hz2⟩ := info_parts infoI
    have HI0 := Lib.hid (And.intro hi (And.intro hz0 (And.intro hz1 hz2)))
    clear hi hz0 hz1 hz2
    have hkn : ¬ (k : Int) = F := by omega
    have hkn2 : ¬ k = F := by omega
    have hkf : (k : Int) < F := by omega
    have hkb : ((k : Int) + 1 == (F : Int) + 1) = false := by rw [beq_eq_false_iff_ne]; omega
    go_enter Try.func76, Try.ntmps76
    go_wp2_with fail
    refine HFA.out.mono ?_
    rintro e w5 ⟨rfl, hb5⟩
    have HB5 := Lib.hid hb5
    obtain ⟨c0', c1', c2', c3'⟩ := HCC.out w5 hb5
    obtain ⟨p0', p1', p2', p3', p4'⟩ := HPP.out w5 hb5
    have HBW6 : Hid (∀ _ : Unit, Below w.heap.size w w5) := Lib.hid fun _ => HB1.out.trans (hb5.mono HB1.out.size)
    clear hb5 c0 c1 c2 c3 p0 p1 p2 p3 p4
    cases hh : hasB fl x
    case' true =>
      have hlk : (Instr.lookup 100 (.map (some M)) (.agg #[.int .i8 g0, .int .i8 g1, .int .i8 g2, .int .i64 ((k : Int) + 1), .int .i64 i]) false).run Try.prog w5 = .ok (.int .i64 S) w5 := by
        have := (HE1.out.below HB5.out).kno.look2 ho (p := (x :: r).reverse) (t := i) (MemOk.path (fun y hy => HM.out y (List.mem_reverse.1 hy)) (by rw [HPL.out]; omega)) (wf64_of (by omega) (by omega)) false
        have hS := HS.out
        unfold hearP at hS
        rw [if_pos hh] at hS
        have hte : toldA (x :: r).reverse i = #[.int .i8 g0, .int .i8 g1, .int .i8 g2, .int .i64 ((k : Int) + 1), .int .i64 i] := by
          have := HPE.out
          unfold pathA at this
          simp only [Array.mk.injEq, List.cons.injEq, Value.int.injEq, true_and, and_true] at this
          obtain ⟨h0, h1, h2, h3⟩ := this
          unfold toldA
          rw [h0, h1, h2, h3]
        rw [hte, hS] at this
        exact this
      clear hh
      go_upto_region 6 with (fail)
    case' false =>
      have eS : sd = S := by
        have hS := HS.out
        unfold hearP at hS
        rw [hh] at hS
        rw [← hS, ← HSD.out]; rfl
      rw [eS]
      clear hh eS
      go_upto_region 6 with (fail)
    all_goals (
      obtain ⟨W6, hW6⟩ : ∃ W6, w5.alloc (.cells #[.int .i64 S] 3) = W6 := ⟨_, rfl⟩
      have h56 : Below w5.heap.size w5 W6 := by rw [← hW6]; exact (Below.refl _ _).alloc (Nat.le_refl _) _
      have HB6 : Hid (Below W1.heap.size W1 W6) := Lib.hid (HB5.out.trans (h56.mono HB5.out.size))
      have HO6 : Hid (W6.ownsRow W1.heap.size 3 1 (.slice (some ⟨w5.heap.size, 0, none⟩) 1 1) (heldL q fl N value n (x :: r) i 0).length (intsV (heldL q fl N value n (x :: r) i 0))) := Lib.hid (by
        have e : heldL q fl N value n (x :: r) i 0 = [S] := by rw [← HS.out]; rfl
        rw [e]
        exact row_one (by rw [← hW6]; exact Bk.new _ _ _) HB5.out.size)
      obtain ⟨b5, hb5⟩ : ∃ b5, w5.heap.size = b5 := ⟨_, rfl⟩
      rw [hb5] at HO6
      obtain ⟨c06, _, _, _⟩ := HCC.out W6 HB6.out
      clear h56 HBW6
      go_wp2_with fail
      try rw [hb5]
      clear hW6 hb5 c0' c1' c2' c3' p0' p1' p2' p3' p4'
      clear c06
      go_loopw [11, 42] (fun v iv wr => ∃ j : Nat, j ≤ N ∧ iv = .int .i64 j ∧ Hid (Below W1.heap.size W1 wr ∧ wr.ownsRow W1.heap.size 3 1 v (heldL q fl N value n (x :: r) i j).length (intsV (heldL q fl N value n (x :: r) i j)))) (fun _ iv _ => N - (intOf iv).toNat)
      case atStart => exact ⟨0, Nat.zero_le _, rfl, Lib.hid ⟨HB6.out, HO6.out⟩⟩
      case round =>
        obtain ⟨j, hj, rfl, hs⟩ := hrel
        obtain ⟨c0, c1, c2, c3⟩ := HCC.out wr hs.out.1
        obtain ⟨p0, p1, p2, p3, p4⟩ := HPP.out wr hs.out.1
        by_cases hlt : j < N
        case neg =>
          obtain rfl : j = N := by omega
          obtain ⟨hown, hbw⟩ := And.intro hs.out.2 hs.out.1
          rw [intsV_rows] at hown
          obtain ⟨Al, cl, rfl, hcl⟩ := Cl.of_own (by have := heldL_len q fl j value n (x :: r) i j; omega) hown
          have HMJ := Lib.hid (maj_any wr Al cl (heldL q fl j value n (x :: r) i j) hcl.sl (by have := heldL_len q fl j value n (x :: r) i j; omega) (by unfold heldL; simp))
          clear hown hcl
          go_wp2_with fail
          refine HMJ.out.mono ?_
          rintro e w7 ⟨rfl, hb7⟩
          go_wp2_with fail
          go_ret
          exact HFIN.out _ _ (by rw [← HR.out]; rfl) (HB1.out.trans ((hbw.mono HB1.out.size).trans (hb7.mono (Nat.le_trans HB1.out.size hbw.size))))
        case pos =>
          have hji : (j : Int) < (N : Int) := by omega
          have h0j : (0 : Int) ≤ (j : Int) := by omega
          by_cases hj2 : (j : Int) = i
          case pos =>
            have HNO := Lib.hid (heldL_no (q := q) (fl := fl) (N := N) (value := value) (n := n) (rp := x :: r) (i := i) (k := j) (by simp [hj2]))
            have hbn : ((j : Int) != i) = false := by simp [hj2]
            subst hj2
            go_wp2_with fail
            go_roundw
            case rel => first | exact ⟨j + 1, by omega, by go_num, Lib.hid (by rw [HNO.out]; exact hs.out)⟩ | ((repeat apply Exists.intro); exact ⟨⟨j + 1, by omega, by go_num, Lib.hid (by rw [HNO.out]; exact hs.out)⟩, rfl⟩)
            case measure => simp [intOf]; omega
          case neg =>
            have hbn : ((j : Int) != i) = true := by simp [hj2]
            have HHA : Hid (Calls Try.prog 77 #[.agg #[.int .i8 g0, .int .i8 g1, .int .i8 g2, .int .i64 ((k : Int) + 1)], .int .i64 j] wr fun e w' => e = .returned (.bool (hasB (x :: r).reverse j)) ∧ Below wr.heap.size wr w') := Lib.hid (by
              rw [← HPE.out]; exact pathHas_any wr (x :: r).reverse j (by rw [HPL.out]; omega) (by omega) (by omega))
            have HJ2 := Lib.hid hj2
            go_wp2_with fail
            refine HHA.out.mono ?_
            rintro e W7 ⟨rfl, hb7⟩
            have HB7 := Lib.hid (hs.out.1.trans (hb7.mono hs.out.1.size))
            have HOWN := Lib.hid (World.ownsRow.of_below hs.out.2 hb7)
            clear hb7 c0 c1 c2 c3 p0 p1 p2 p3 p4
            cases hh : hasB (x :: r).reverse j
            case true =>
              have HNO := Lib.hid (heldL_no (q := q) (fl := fl) (N := N) (value := value) (n := n) (rp := x :: r) (i := i) (k := j) (by rw [hh]; simp))
              clear hh
              go_wp2_with fail
              go_roundw
              case rel => first | exact ⟨j + 1, by omega, by go_num, Lib.hid (by rw [HNO.out]; exact ⟨HB7.out, HOWN.out⟩)⟩ | ((repeat apply Exists.intro); exact ⟨⟨j + 1, by omega, by go_num, Lib.hid (by rw [HNO.out]; exact ⟨HB7.out, HOWN.out⟩)⟩, rfl⟩)
              case measure => simp [intOf]; omega
            case false =>
              have HYES := Lib.hid (heldL_yes (q := q) (fl := fl) (N := N) (value := value) (n := n) (rp := x :: r) (i := i) (k := j) (by rw [hh]; simp [HJ2.out]))
              clear hh
              obtain ⟨hd, hhd⟩ : ∃ hd, hearP q fl value (x :: r) j = hd := ⟨_, rfl⟩
              obtain ⟨hv, hhv⟩ : ∃ hv, heldP q fl N value n ((j : Int) :: x :: r) i = hv := ⟨_, rfl⟩
              obtain ⟨PB, hPB⟩ : ∃ PB, pathA ((j : Int) :: x :: r).reverse = PB := ⟨_, rfl⟩
              have HCH : Hid (∀ w1, Below W7.heap.size W7 w1 → w1.cell? ⟨hb, 0, none⟩ = some (.func (.func 76) #[] #[.pointer (some ⟨kb, 0, none⟩), .pointer (some ⟨hb, 0, none⟩), .pointer (some ⟨vb, 0, none⟩)])) := Lib.hid fun w1 h1 => ((HE1.out.below HB7.out).below h1).hld.cell 0
              have HCV : Hid (∀ w1, Below W7.heap.size W7 w1 → w1.cell? ⟨vb, 0, none⟩ = some (.int .i64 value)) := Lib.hid fun w1 h1 => ((HE1.out.below HB7.out).below h1).val.cell 0
              have HPC : Hid (∀ w1, Below W7.heap.size W7 w1 → ∀ j' u, #[Value.int .i8 g0, .int .i8 g1, .int .i8 g2, .int .i64 ((k : Int) + 1)][j']? = some u → w1.cell? ⟨pb, 0 + j', none⟩ = some u) := Lib.hid fun w1 h1 j' u hu => by
                have hc := (HP1.out.below HB7.out HP1.out.lt).below h1 (Nat.lt_of_lt_of_le HP1.out.lt HB7.out.size)
                rw [HPB.out] at hc
                rw [Nat.zero_add, hc.cell]; exact hu
              have HCO : Hid (∀ w1, Below W7.heap.size W7 w1 → ∀ j' u, #[Value.int .i64 N, .int .i64 F, .slice Af nf cf, .map (some M)][j']? = some u → w1.cell? ⟨kb, 0 + j', none⟩ = some u) := Lib.hid fun w1 h1 j' u hu => by
                have hc := ((HE1.out.below HB7.out).below h1).con
                rw [HNF.out] at hc
                rw [Nat.zero_add, hc.cell]; exact hu
              have HBE : Hid (∀ w1, Calls Try.prog 75 #[.agg #[.int .i8 g0, .int .i8 g1, .int .i8 g2, .int .i64 ((k : Int) + 1)], .int .i64 j] w1 fun e w' => e = .returned (.agg PB) ∧ Below w1.heap.size w1 w') := Lib.hid fun w1 => by
                have := behind_any w1 (x :: r).reverse j (by rw [HPL.out]; omega) (by omega) (by omega)
                rw [← List.reverse_cons, HPE.out, hPB] at this
                exact this
              have HHE : Hid (∀ w1, Below W7.heap.size W7 w1 → Calls Try.prog 78 #[.agg #[.int .i64 N, .int .i64 F, .slice Af nf cf, .map (some M)], .agg #[.int .i8 g0, .int .i8 g1, .int .i8 g2, .int .i64 ((k : Int) + 1)], .int .i64 value, .int .i64 j] w1 fun e w' => e = .returned (.int .i64 hd) ∧ Below w1.heap.size w1 w') := Lib.hid fun w1 h1 => by
                have hE1 := (HE1.out.below HB7.out).below h1
                have := heard_any w1 N F Af cf M fl q (x :: r).reverse value j hE1.fls hE1.kno ho (by rw [HPL.out]; omega) (fun y hy => HM.out y (List.mem_reverse.1 hy)) (by omega) (by omega)
                rw [List.reverse_reverse, hhd, HPE.out, HNF.out] at this
                exact this
              have HIH : Hid (∀ w1, Below W7.heap.size W7 w1 → Calls Try.prog 76 #[.agg PB, .int .i64 hd, .int .i64 i, .pointer (some ⟨kb, 0, none⟩), .pointer (some ⟨hb, 0, none⟩), .pointer (some ⟨vb, 0, none⟩)] w1 fun e w' => e = .returned (.int .i64 hv) ∧ Below w1.heap.size w1 w') := Lib.hid fun w1 h1 => by
                rw [← hPB, ← hhd, ← hhv]
                exact ih w1 (x :: r) j ((HE1.out.below HB7.out).below h1) (by simp only [List.length_cons]; omega) (fun y hy => by
                  rcases List.mem_cons.1 hy with rfl | hy
                  · omega
                  · exact HM.out y hy)
              have HWS := Lib.hid HB7.out.size
              have hll := heldL_len q fl N value n (x :: r) i j
              obtain ⟨len, hlen⟩ : ∃ len, (heldL q fl N value n (x :: r) i j).length = len := ⟨_, rfl⟩
              obtain ⟨xs, hxs⟩ : ∃ xs, intsV (heldL q fl N value n (x :: r) i j) = xs := ⟨_, rfl⟩
              have HLEN : Hid ((heldL q fl N value n (x :: r) i (j + 1)).length = len + 1) := Lib.hid (by rw [HYES.out, List.length_append, hlen]; rfl)
              have HXS : Hid (intsV (heldL q fl N value n (x :: r) i (j + 1)) = xs ++ [.int .i64 hv]) := Lib.hid (by rw [HYES.out, hhv, ← hxs]; unfold intsV; rw [List.map_append]; rfl)
              rw [hlen, hxs] at HOWN
              rw [hlen] at hll
              obtain ⟨fsP, undP⟩ := undPath
              obtain ⟨fsC, undC⟩ := undCoun
              clear hlen hxs hhd hhv hPB hs
              go_wp2_with fail
              refine wp_region_stepsJ (by kernel_rfl) (by kernel_rfl) (fun dn vs w1 => AppJ W7 W1.heap.size 3 u11 len xs [.int .i64 hv] (dn 12) (dn 13) (dn 14) (vs 12) (vs 13) (vs 14) w1) (fun _ _ _ => True)
                (fun ix u _ _ => match ix with
                  | 0 => u = u11
                  | 1 => u = .func (.func 76) #[] #[.pointer (some ⟨kb, 0, none⟩), .pointer (some ⟨hb, 0, none⟩), .pointer (some ⟨vb, 0, none⟩)]
                  | 2 => u = .agg #[.int .i8 g0, .int .i8 g1, .int .i8 g2, .int .i64 ((k : Int) + 1)]
                  | 3 => u = .int .i64 j
                  | 4 => u = .agg PB
                  | 5 => u = .agg #[.int .i64 N, .int .i64 F, .slice Af nf cf, .map (some M)]
                  | 6 => u = .agg #[.int .i8 g0, .int .i8 g1, .int .i8 g2, .int .i64 ((k : Int) + 1)]
                  | 7 => u = .int .i64 value
                  | 8 => u = .int .i64 j
                  | 9 => u = .int .i64 hd
                  | 10 => u = .int .i64 i
                  | 11 => u = .int .i64 hv
                  | 12 => True
                  | 13 => True
                  | _ => True) (fun _ => AppJ.start _ _ _ _ _ _ _ _ _ _) (fun _ _ _ _ _ _ _ _ h _ => h) ?_ ?_
              · refine ⟨?_, ?_, ?_, ?_, ?_, ?_, ?_, ?_, ?_, ?_, ?_, ?_, ?_, ?_, ?_, trivial⟩
                · intro a w1 vs K dn Hd Hb HJ HK HD HN kk
                  have e11 := HK 11 (by decide)
                  go_simp; exact kk _ _ (by simp) HJ trivial rfl
                · intro a w1 vs K dn Hd Hb HJ HK HD HN kk
                  have e4 := HK 4 (by decide)
                  have d13 : dn 13 = false := by cases hq : dn 13 with | false => rfl | true => exact absurd (Hd 13 hq).2 (by decide)
                  have ca := HCH.out w1 (HJ.1 d13).1
                  go_simp; exact kk _ _ (by simp) HJ trivial rfl
                · intro a w1 vs K dn Hd Hb HJ HK HD HN kk
                  have e6 := HK 6 (by decide)
                  have d13 : dn 13 = false := by cases hq : dn 13 with | false => rfl | true => exact absurd (Hd 13 hq).2 (by decide)
                  
                  exact wpo_loadS 131 (.tmp 6) rfl pb 0 (by simpa [Act.eval] using e6) #[.int .i8 g0, .int .i8 g1, .int .i8 g2, .int .i64 ((k : Int) + 1)] _ (HPC.out w1 (HJ.1 d13).1) undP rfl infoPath (kk _ _ (by simp) HJ trivial rfl)
                · intro a w1 vs K dn Hd Hb HJ HK HD HN kk
                  have e12 := HK 12 (by decide)
                  go_simp; exact kk _ _ (by simp) HJ trivial rfl
                · intro a w1 vs K dn Hd Hb HJ HK HD HN kk
                  have e56 := (HD 2 _ 56 rfl rfl rfl).1.trans (HD 2 _ 56 rfl rfl rfl).2
                  have e57 := (HD 3 _ 57 rfl rfl rfl).1.trans (HD 3 _ 57 rfl rfl rfl).2
                  have d13 : dn 13 = false := by cases hq : dn 13 with | false => rfl | true => exact absurd (Hd 13 hq).2 (by decide)
                  have d12 : dn 12 = false := by cases hq : dn 12 with | false => rfl | true => exact absurd (Hd 12 hq).2 (by decide)
                  exact wpo_call 75 _ _ rfl #[.agg #[.int .i8 g0, .int .i8 g1, .int .i8 g2, .int .i64 ((k : Int) + 1)], .int .i64 j] (by simp [Act.eval, e56, e57]) (fun args w => by kernel_rfl)
                    ((HBE.out w1).mono fun e w' ⟨he, hb⟩ => ⟨_, he, kk _ _ (by simp) ⟨fun _ => ⟨(HJ.1 d13).1.trans (hb.mono (HJ.1 d13).1.size), fun h => absurd (show dn 12 = true from h) (by rw [d12]; decide)⟩, fun h => absurd (show dn 13 = true from h) (by rw [d13]; decide), HJ.2.2⟩ trivial rfl⟩)
                · intro a w1 vs K dn Hd Hb HJ HK HD HN kk
                  have e3 := HK 3 (by decide)
                  have d13 : dn 13 = false := by cases hq : dn 13 with | false => rfl | true => exact absurd (Hd 13 hq).2 (by decide)
                  
                  exact wpo_loadS 102 (.tmp 3) rfl kb 0 (by simpa [Act.eval] using e3) #[.int .i64 N, .int .i64 F, .slice Af nf cf, .map (some M)] _ (HCO.out w1 (HJ.1 d13).1) undC rfl infoCoun (kk _ _ (by simp) HJ trivial rfl)
                · intro a w1 vs K dn Hd Hb HJ HK HD HN kk
                  have e6 := HK 6 (by decide)
                  have d13 : dn 13 = false := by cases hq : dn 13 with | false => rfl | true => exact absurd (Hd 13 hq).2 (by decide)
                  
                  exact wpo_loadS 131 (.tmp 6) rfl pb 0 (by simpa [Act.eval] using e6) #[.int .i8 g0, .int .i8 g1, .int .i8 g2, .int .i64 ((k : Int) + 1)] _ (HPC.out w1 (HJ.1 d13).1) undP rfl infoPath (kk _ _ (by simp) HJ trivial rfl)
                · intro a w1 vs K dn Hd Hb HJ HK HD HN kk
                  have e5 := HK 5 (by decide)
                  have d13 : dn 13 = false := by cases hq : dn 13 with | false => rfl | true => exact absurd (Hd 13 hq).2 (by decide)
                  have ca := HCV.out w1 (HJ.1 d13).1
                  go_simp; exact kk _ _ (by simp) HJ trivial rfl
                · intro a w1 vs K dn Hd Hb HJ HK HD HN kk
                  have e12 := HK 12 (by decide)
                  go_simp; exact kk _ _ (by simp) HJ trivial rfl
                · intro a w1 vs K dn Hd Hb HJ HK HD HN kk
                  have e59 := (HD 5 _ 59 rfl rfl rfl).1.trans (HD 5 _ 59 rfl rfl rfl).2
                  have e60 := (HD 6 _ 60 rfl rfl rfl).1.trans (HD 6 _ 60 rfl rfl rfl).2
                  have e61 := (HD 7 _ 61 rfl rfl rfl).1.trans (HD 7 _ 61 rfl rfl rfl).2
                  have e62 := (HD 8 _ 62 rfl rfl rfl).1.trans (HD 8 _ 62 rfl rfl rfl).2
                  have d13 : dn 13 = false := by cases hq : dn 13 with | false => rfl | true => exact absurd (Hd 13 hq).2 (by decide)
                  have d12 : dn 12 = false := by cases hq : dn 12 with | false => rfl | true => exact absurd (Hd 12 hq).2 (by decide)
                  exact wpo_call 78 _ _ rfl #[.agg #[.int .i64 N, .int .i64 F, .slice Af nf cf, .map (some M)], .agg #[.int .i8 g0, .int .i8 g1, .int .i8 g2, .int .i64 ((k : Int) + 1)], .int .i64 value, .int .i64 j] (by simp [Act.eval, e59, e60, e61, e62]) (fun args w => by kernel_rfl)
                    ((HHE.out w1 (HJ.1 d13).1).mono fun e w' ⟨he, hb⟩ => ⟨_, he, kk _ _ (by simp) ⟨fun _ => ⟨(HJ.1 d13).1.trans (hb.mono (HJ.1 d13).1.size), fun h => absurd (show dn 12 = true from h) (by rw [d12]; decide)⟩, fun h => absurd (show dn 13 = true from h) (by rw [d13]; decide), HJ.2.2⟩ trivial rfl⟩)
                · intro a w1 vs K dn Hd Hb HJ HK HD HN kk
                  have e2 := HK 2 (by decide)
                  go_simp; exact kk _ _ (by simp) HJ trivial rfl
                · intro a w1 vs K dn Hd Hb HJ HK HD HN kk
                  have e55 := (HD 1 _ 55 rfl rfl rfl).1.trans (HD 1 _ 55 rfl rfl rfl).2
                  have e58 := (HD 4 _ 58 rfl rfl rfl).1.trans (HD 4 _ 58 rfl rfl rfl).2
                  have e63 := (HD 9 _ 63 rfl rfl rfl).1.trans (HD 9 _ 63 rfl rfl rfl).2
                  have e64 := (HD 10 _ 64 rfl rfl rfl).1.trans (HD 10 _ 64 rfl rfl rfl).2
                  have d13 : dn 13 = false := by cases hq : dn 13 with | false => rfl | true => exact absurd (Hd 13 hq).2 (by decide)
                  have d12 : dn 12 = false := by cases hq : dn 12 with | false => rfl | true => exact absurd (Hd 12 hq).2 (by decide)
                  exact wpo_callV 76 _ (.tmp 55) _ _ rfl (by simpa [Act.eval] using e55) #[.agg PB, .int .i64 hd, .int .i64 i] (by simp [Act.eval, e58, e63, e64]) (fun args w => by kernel_rfl) #[.agg PB, .int .i64 hd, .int .i64 i, .pointer (some ⟨kb, 0, none⟩), .pointer (some ⟨hb, 0, none⟩), .pointer (some ⟨vb, 0, none⟩)] (by simp)
                    ((HIH.out w1 (HJ.1 d13).1).mono fun e w' ⟨he, hb⟩ => ⟨_, he, kk _ _ (by simp) ⟨fun _ => ⟨(HJ.1 d13).1.trans (hb.mono (HJ.1 d13).1.size), fun h => absurd (show dn 12 = true from h) (by rw [d12]; decide)⟩, fun h => absurd (show dn 13 = true from h) (by rw [d13]; decide), HJ.2.2⟩ trivial rfl⟩)
                · intro a w1 vs K dn Hd Hb HJ HK HD HN kk
                  have e65 := (HD 11 _ 65 rfl rfl rfl).1.trans (HD 11 _ 65 rfl rfl rfl).2
                  have d13 : dn 13 = false := by cases hq : dn 13 with | false => rfl | true => exact absurd (Hd 13 hq).2 (by decide)
                  go_simp; exact kk _ _ (by simp) ⟨fun _ => ⟨(HJ.1 d13).1.alloc (HJ.1 d13).1.size _, fun _ => ⟨_, rfl, Bk.new _ _ _⟩⟩, fun h => absurd (show dn 13 = true from h) (by rw [d13]; decide), HJ.2.2⟩ trivial trivial
                · intro a w1 vs K dn Hd Hb HJ HK HD HN kk
                  have e54 := (HD 0 _ 54 rfl rfl rfl).1.trans (HD 0 _ 54 rfl rfl rfl).2
                  have d13 : dn 13 = false := by cases hq : dn 13 with | false => rfl | true => exact absurd rfl (Hd 13 hq).1
                  have d14 : dn 14 = false := by cases hq : dn 14 with | false => rfl | true => exact absurd (Hd 14 hq).2 (by decide)
                  have d12 : dn 12 = true := Hb 12 (by decide)
                  obtain ⟨hb, h16⟩ := HJ.1 d13
                  obtain ⟨g, y1, y2⟩ := h16 d12
                  have e66 := (HD 12 _ 66 rfl rfl rfl).1.trans y1
                  exact wp_append_own w1 (.tmp 54) (.tmp 66) 36 rfl W1.heap.size 3 i0 (.int .i64 0) 1 8 Try.underlying36 HI0.out.1 HI0.out.2.1 HI0.out.2.2.1 HI0.out.2.2.2 rfl (by decide) u11 len _ (by simpa [Act.eval] using e54) (World.ownsRow.of_below HOWN.out hb) ⟨g, 0, none⟩ 1 1 [.int .i64 hv] (by simpa [Act.eval] using e66) rfl (fun j u hj => by rw [Addr.add_lit, Nat.zero_add, y2.cell]; simpa using hj) (fun u hu => by simp at hu; subst hu; rfl) (by unfold maxLen; omega) (by omega) (by have := hb.size; have := HWS.out; omega) fun v' w' hown hg _ =>
                    kk _ _ (by simp) ⟨fun h => absurd (show true = false from h) (by decide), fun _ => ⟨w1, hb, hown, hg⟩, fun h => absurd (show dn 14 = true from h) (by rw [d14]; decide)⟩ trivial trivial
                · intro a w1 vs K dn Hd Hb HJ HK HD HN kk
                  have e67 := (HD 13 _ 67 rfl rfl rfl).1
                  go_simp; exact kk _ _ (by simp) ⟨HJ.1, HJ.2.1, fun _ => rfl⟩ trivial trivial
              · intro vs dn w8 hdn hjj _
                obtain ⟨_, hj2, hj3⟩ := hjj
                obtain ⟨w0, hb0, hown, hg⟩ := hj2 (hdn 13 (by decide))
                have e14 := hj3 (hdn 14 (by decide))
                obtain ⟨v', hv'⟩ : ∃ v', vs 13 = v' := ⟨_, rfl⟩
                rw [hv'] at hown e14
                have HB8 : Hid (Below W1.heap.size W1 w8) := Lib.hid ((HB7.out.trans (hb0.mono HB7.out.size)).grown hg (Nat.le_trans HB7.out.size hb0.size) fun g hg' => ((World.ownsRow.of_below HOWN.out hb0).lt g hg').1)
                have HO8 : Hid (w8.ownsRow W1.heap.size 3 1 v' (len + 1) (xs ++ [.int .i64 hv])) := Lib.hid hown
                clear hg hown hdn hj2 hj3 hb0 hv'
                simp only [putAll, Act.put, List.setIfInBounds_toArray, List.set_cons_zero, List.set_cons_succ]
                rw [e14]
                clear e14
                go_wp2_with fail
                go_roundw
                case rel => first | exact ⟨j + 1, by omega, by go_num, Lib.hid (by rw [HLEN.out, HXS.out]; exact ⟨HB8.out, HO8.out⟩)⟩ | ((repeat apply Exists.intro); exact ⟨⟨j + 1, by omega, by go_num, Lib.hid (by rw [HLEN.out, HXS.out]; exact ⟨HB8.out, HO8.out⟩)⟩, rfl⟩)
                case measure => simp [intOf]; omega)
end Go.Proofs.Ytnmccbjdfdbgpaa
/- What is proved: a contract of council.decide. Conditions: the council and what it knows lie in memory; it is valid. -/
namespace Go.Proofs.Ytnmccbjdfdbgpaa
open Go.RowKit Go.Maps Go.WideMaps BigFrame

/-- What each member decides. -/
def decP (q : Know) (fl : List Int) (N F : Nat) (value g : Int) (i : Nat) : Int := if hasB fl i = true then 0 else if (i : Int) = g then value else heldP q fl N value F [g] i
def outF (q : Know) (fl : List Int) (N F : Nat) (value g : Int) (k j : Nat) : Int := if j < k then decP q fl N F value g j else 0
theorem outF_set (q : Know) (fl : List Int) (N F : Nat) (value g : Int) {k : Nat} (hk : k < N) (v : Int) (hv : decP q fl N F value g k = v) : (intA N (outF q fl N F value g k)).setIfInBounds k (.int .i64 v) = intA N (outF q fl N F value g (k + 1)) := by
  rw [intA_set]
  unfold intA
  congr 1
  apply List.map_congr_left
  intro j _
  show Value.int .i64 (if j = k then v else outF q fl N F value g k j) = _
  by_cases e : j = k
  · subst e
    rw [if_pos rfl]
    unfold outF
    rw [if_pos (Nat.lt_succ_self _), hv]
  · rw [if_neg e]
    unfold outF
    have : (j < k) = (j < k + 1) := by apply propext; omega
    simp [this]
theorem HoldE.only {w w' : World} {kb hb vb M N F g : Nat} {Af : Option Addr} {cf : Nat} {fl : List Int} {q : Know} {value : Int} (h : HoldE w kb hb vb M N F Af cf fl q value) (ho : Only g w w') (h1 : g ≠ kb) (h2 : g ≠ hb) (h3 : g ≠ vb) (h4 : g ≠ M) (hf : IntsAt w' w'.heap.size Af fl) : HoldE w' kb hb vb M N F Af cf fl q value :=
  ⟨h.con.only ho (Ne.symm h1), h.hld.only ho (Ne.symm h2), h.val.only ho (Ne.symm h3), h.kno.keep (ho.block M (Ne.symm h4)), hf⟩
theorem outF_same (q : Know) (fl : List Int) (N F : Nat) (value g : Int) {k : Nat} (hv : decP q fl N F value g k = 0) : intA N (outF q fl N F value g k) = intA N (outF q fl N F value g (k + 1)) := by
  unfold intA
  congr 1
  apply List.map_congr_left
  intro j _
  unfold outF
  by_cases e : j = k
  · subst e; rw [if_neg (Nat.lt_irrefl _), if_pos (Nat.lt_succ_self _), hv]
  · have : (j < k) = (j < k + 1) := by apply propext; omega
    simp [this]
def DecPost (w : World) (N : Nat) (f : Nat → Int) (e : Ending) (w' : World) : Prop :=
  ∃ A c, e = .returned (.slice A N c) ∧ Cl w' w.heap.size 3 1 A N (fun i _ => .int .i64 (f i)) ∧ Below w.heap.size w w'
set_option maxRecDepth 100000 in
set_option maxHeartbeats 16000000 in
theorem decide_any (w : World) (M : Nat) (N F : Nat) (Af : Option Addr) (cf : Nat) (fl : List Int) (q : Know) (value : Int) (gn : Nat) (hq : KnowAt w M q) (hf : IntsAt w w.heap.size Af fl) (ho : Once q) (hN : N ≤ 7) (hF : F ≤ 2) (hg : gn < N) :
    Calls Try.prog 58 #[.agg (counA N F Af fl.length cf (.map (some M))), .int .i64 gn, .int .i64 value] w
      (DecPost w N (decP q fl N F value gn)) := by
  have KM : ∀ w : World, (Instr.makeSlice 36 (.int .i64 (N : Int)) (.int .i64 (N : Int))).run Try.prog w = .ok (.slice (some ⟨w.heap.size, 0, none⟩) N N) (w.alloc (.cells (intA N fun _ => 0) 3)) := fun w => by
    have hm := run_make_row' (P := Try.prog) 36 3 (.int .i64 0) 8 Try.underlying36 infoI rfl .i64 .i64 N (by omega) (by omega) w
    rw [hm, ← intA_zero 0 0 N, ← made_rep (.int .i64 0) (.int .i64 0) rfl N]
    rfl
  obtain ⟨nf, hnf⟩ : ∃ nf, fl.length = nf := ⟨_, rfl⟩
  have HNF := Lib.hid hnf
  obtain ⟨kb, hkb⟩ : ∃ kb, w.heap.size = kb := ⟨_, rfl⟩
  have HKB := Lib.hid hkb
  obtain ⟨W0, hW0⟩ : ∃ W0, (((w.alloc (.cells #[.int .i64 N, .int .i64 F, .slice Af nf cf, .map (some M)] 102)).alloc (.cells #[.int .i64 value] 3)).alloc (.cells (intA N fun _ => 0) 3)).alloc (.cells #[.nilFunc] 136) = W0 := ⟨_, rfl⟩
  obtain ⟨W1, hW1⟩ : ∃ W1, W0.setCell ⟨kb + 1 + 1 + 1, 0, none⟩ (.func (.func 76) #[] #[.pointer (some ⟨kb, 0, none⟩), .pointer (some ⟨kb + 1 + 1 + 1, 0, none⟩), .pointer (some ⟨kb + 1, 0, none⟩)]) = W1 := ⟨_, rfl⟩
  have hb0 : Below kb w W0 := by rw [← hW0, ← hkb]; exact ((((Below.refl _ _).alloc (Nat.le_refl _) _).alloc (by simp) _).alloc (by simp; omega) _).alloc (by simp; omega) _
  have k0 : Bk W0 kb 102 #[.int .i64 N, .int .i64 F, .slice Af nf cf, .map (some M)] := by rw [← hW0, ← hkb]; exact (((Bk.new _ _ _).alloc _).alloc _).alloc _
  have k1 : Bk W0 (kb + 1) 3 #[.int .i64 value] := by rw [← hW0, ← hkb]; exact ((Bk.newAt _ _ _ _ (by simp)).alloc _).alloc _
  have k2 : Bk W0 (kb + 1 + 1) 3 (intA N fun _ => 0) := by rw [← hW0, ← hkb]; exact (Bk.newAt _ _ _ _ (by simp)).alloc _
  have k3 : Bk W0 (kb + 1 + 1 + 1) 136 #[.nilFunc] := by rw [← hW0, ← hkb]; exact Bk.newAt _ _ _ _ (by simp)
  have ho1 : Only (kb + 1 + 1 + 1) W0 W1 := by rw [← hW1]; exact Only.setCell _ _ _ _
  have hb1 : Below kb w W1 := by rw [← hW1]; exact hb0.setCell (p := ⟨kb + 1 + 1 + 1, 0, none⟩) (by show kb ≤ kb + 1 + 1 + 1; omega) _
  have hMw := hq.lt
  have HFL := Lib.hid hf
  have HE1 : Hid (HoldE W1 kb (kb + 1 + 1 + 1) (kb + 1) M N F Af cf fl q value) := Lib.hid ⟨by rw [hnf]; exact k0.only ho1 (by omega), by rw [← hW1]; exact k3.set 0 _, k1.only ho1 (by omega), hq.below hb1 (by omega), Sl.mono (Sl.below hf (by rw [hkb]; exact hb1)) hb1.size⟩
  have HO1 : Hid (Bk W1 (kb + 1 + 1) 3 (intA N (outF q fl N F value gn 0))) := Lib.hid (by
    have e : (intA N fun _ => 0) = intA N (outF q fl N F value gn 0) := by unfold intA outF; simp
    rw [← e]; exact k2.only ho1 (by omega))
  have HB1 := Lib.hid hb1
  have z3 : W0.cell? ⟨kb + 1 + 1 + 1, 0, none⟩ = some .nilFunc := k3.cell 0
  have y3 := k3.free 0
  have KST : (store ⟨kb + 1 + 1 + 1, 0, none⟩ (.func (.func 76) #[] #[.pointer (some ⟨kb, 0, none⟩), .pointer (some ⟨kb + 1 + 1 + 1, 0, none⟩), .pointer (some ⟨kb + 1, 0, none⟩)])).run Try.prog W0 = .ok () W1 := by
    rw [run_store Try.prog W0 _ _ _ rfl, ← hW1]
    simp [z3, y3]
  obtain ⟨JP, hJP⟩ : ∃ JP, DecPost w N (decP q fl N F value gn) = JP := ⟨_, rfl⟩
  have HJP : Hid (∀ w', Bk w' (kb + 1 + 1) 3 (intA N (outF q fl N F value gn N)) → Below kb w w' → JP (.returned (.slice (some ⟨kb + 1 + 1, 0, none⟩) N N)) w') := Lib.hid fun w' h1 h2 => by
    rw [← hJP]
    unfold DecPost
    rw [hkb]
    exact ⟨_, _, rfl, ⟨by omega, fun _ => ⟨_, _, rfl, by omega, h1, fun i hi j hj => by
      obtain rfl : j = 0 := by omega
      rw [Nat.mul_one, Nat.add_zero, intA_get _ _ _ hi]
      unfold outF
      rw [if_pos hi]⟩⟩, h2⟩
  rw [hnf]
  rw [hJP]
  unfold counA
  have hsz1 : W1.heap.size = kb + 1 + 1 + 1 + 1 := by rw [ho1.size, ← hW0, ← hkb]; simp
  clear hJP k0 k1 k2 k3 ho1 hb0 hb1 hq hf hnf
  go_enter Try.func58, Try.ntmps58
  obtain ⟨n0, _, _, _⟩ : W1.cell? ⟨kb, 0, none⟩ = some (.int .i64 N) ∧ True ∧ True ∧ True := ⟨HE1.out.con.cell 0, trivial, trivial, trivial⟩
  go_wp2_with fail
  clear hW0 hW1 z3 y3 KM KST n0
  go_loopw [18] (fun iv wr => ∃ k : Nat, k ≤ N ∧ iv = .int .i64 k ∧ Hid (HoldE wr kb (kb + 1 + 1 + 1) (kb + 1) M N F Af cf fl q value ∧ Bk wr (kb + 1 + 1) 3 (intA N (outF q fl N F value gn k)) ∧ Below kb w wr)) (fun iv _ => N - (intOf iv).toNat)
  case atStart => exact ⟨0, Nat.zero_le _, rfl, Lib.hid ⟨HE1.out, HO1.out, HB1.out⟩⟩
  case round =>
    obtain ⟨k, hk, rfl, hs⟩ := hrel
    by_cases hlt : k < N
    · have hki : (k : Int) < (N : Int) := by omega
      have h0k : (0 : Int) ≤ (k : Int) := by omega
      have c0 : wr.cell? ⟨kb, 0, none⟩ = some (.int .i64 N) := hs.out.1.con.cell 0
      have c1 : wr.cell? ⟨kb, 1, none⟩ = some (.int .i64 F) := hs.out.1.con.cell 1
      have c2 : wr.cell? ⟨kb, 2, none⟩ = some (.slice Af nf cf) := by rw [hs.out.1.con.cell, ← HNF.out]; rfl
      have c3 : wr.cell? ⟨kb, 3, none⟩ = some (.map (some M)) := hs.out.1.con.cell 3
      have HFA := Lib.hid (faulty_any wr N F k Af cf fl (.map (some M)) hs.out.1.fls)
      have HFLS : Hid (∀ w5, Below kb w w5 → IntsAt w5 w5.heap.size Af fl) := Lib.hid fun w5 h5 => by
        have h6 := h5.size
        have h7 := Sl.below HFL.out (by rw [HKB.out]; exact h5)
        exact Sl.mono h7 h6
      rw [HNF.out] at HFA
      go_wp2_with fail
      refine HFA.out.mono ?_
      rintro e w5 ⟨rfl, hb5⟩
      have hsw : kb ≤ wr.heap.size := by have := hs.out.2.2.size; omega
      have HE5 := Lib.hid (hs.out.1.below hb5)
      have HO5 := Lib.hid (hs.out.2.1.below hb5 hs.out.2.1.lt)
      have HB5 := Lib.hid (hs.out.2.2.trans (hb5.mono hsw))
      clear hb5 c0 c1 c2 c3
      cases hh : hasB fl k with
      | true =>
        have HD := Lib.hid (outF_same q fl N F value gn (k := k) (by unfold decP; rw [if_pos hh]))
        clear hh
        go_wp2_with fail
        go_roundw
        case rel => exact ⟨k + 1, by omega, by go_num, Lib.hid ⟨HE5.out, by rw [← HD.out]; exact HO5.out, HB5.out⟩⟩
        case measure => simp [intOf]; omega
      | false =>
        have ov : w5.cell? ⟨kb + 1 + 1, k, none⟩ = some (.int .i64 (outF q fl N F value gn k k)) := by rw [HO5.out.cell, intA_get _ _ _ hlt]
        have of := HO5.out.free k
        have HST : Hid (∀ v w6, decP q fl N F value gn k = v → Below w5.heap.size w5 w6 → (HoldE (w6.setCell ⟨kb + 1 + 1, k, none⟩ (.int .i64 v)) kb (kb + 1 + 1 + 1) (kb + 1) M N F Af cf fl q value ∧ Bk (w6.setCell ⟨kb + 1 + 1, k, none⟩ (.int .i64 v)) (kb + 1 + 1) 3 (intA N (outF q fl N F value gn (k + 1))) ∧ Below kb w (w6.setCell ⟨kb + 1 + 1, k, none⟩ (.int .i64 v)))) := Lib.hid fun v w6 h1 h2 => by
          have h3 := HB5.out.trans (h2.mono (by have := HB5.out.size; omega))
          have h4 : Below kb w (w6.setCell ⟨kb + 1 + 1, k, none⟩ (.int .i64 v)) := h3.setCell (p := ⟨kb + 1 + 1, k, none⟩) (by show kb ≤ kb + 1 + 1; omega) _
          refine ⟨(HE5.out.below h2).only (Only.setCell _ _ _ _) (by omega) (by omega) (by omega) (by omega) (HFLS.out _ h4), ?_, h4⟩
          rw [← outF_set q fl N F value gn hlt v h1]
          exact (HO5.out.below h2 HO5.out.lt).set k _
        by_cases hg2 : (k : Int) = gn
        · have HD : Hid (decP q fl N F value gn k = value) := Lib.hid (by unfold decP; rw [hh, if_pos hg2]; rfl)
          have v0 : w5.cell? ⟨kb + 1, 0, none⟩ = some (.int .i64 value) := HE5.out.val.cell 0
          clear hh
          obtain rfl : k = gn := by omega
          clear hg2
          go_wp2_with fail
          go_roundw
          case rel => exact ⟨k + 1, by omega, by go_num, Lib.hid (HST.out value w5 HD.out (Below.refl _ _))⟩
          case measure => simp [intOf]; omega
        · obtain ⟨hv, hhv⟩ : ∃ hv, heldP q fl N value F [(gn : Int)] k = hv := ⟨_, rfl⟩
          have HD : Hid (decP q fl N F value gn k = hv) := Lib.hid (by unfold decP; rw [hh, if_neg hg2, hhv]; rfl)
          have hgb : ((k : Int) == (gn : Int)) = false := by simp [hg2]
          have HBE : Hid (∀ w1, Calls Try.prog 75 #[.agg #[.int .i8 0, .int .i8 0, .int .i8 0, .int .i64 0], .int .i64 gn] w1 fun e w' => e = .returned (.agg #[.int .i8 gn, .int .i8 0, .int .i8 0, .int .i64 1]) ∧ Below w1.heap.size w1 w') := Lib.hid fun w1 => behind0 w1 gn (by omega) (by omega)
          have HHO : Hid (∀ x : Ext w5, Calls Try.prog 76 #[.agg #[.int .i8 gn, .int .i8 0, .int .i8 0, .int .i64 1], .int .i64 value, .int .i64 k, .pointer (some ⟨kb, 0, none⟩), .pointer (some ⟨kb + 1 + 1 + 1, 0, none⟩), .pointer (some ⟨kb + 1, 0, none⟩)] x.w fun e w' => e = .returned (.int .i64 hv) ∧ Below x.w.heap.size x.w w') := Lib.hid fun x => by
            rw [← hhv]
            exact hold_any kb (kb + 1 + 1 + 1) (kb + 1) M N F Af cf fl q value ho hN hF k (by omega) (by omega) F x.w [] gn (HE5.out.below x.h) (by simp) (fun y hy => by simp only [List.mem_singleton] at hy; subst hy; omega)
          have x1 : ∀ x : Ext w5, x.w.cell? ⟨kb + 1, 0, none⟩ = some (.int .i64 value) := Ext.cell (HE5.out.val.cell 0)
          have x2 : ∀ x : Ext w5, x.w.cell? ⟨kb + 1 + 1 + 1, 0, none⟩ = some (.func (.func 76) #[] #[.pointer (some ⟨kb, 0, none⟩), .pointer (some ⟨kb + 1 + 1 + 1, 0, none⟩), .pointer (some ⟨kb + 1, 0, none⟩)]) := Ext.cell (HE5.out.hld.cell 0)
          clear hh hhv
          go_wp2_with fail
          refine wp_region_fin 10 _ rfl rfl (by kernel_rfl) (by kernel_rfl) (by kernel_rfl) (fun w2 => ∃ w6, Below w5.heap.size w5 w6 ∧ w2 = w6.setCell ⟨kb + 1 + 1, k, none⟩ (.int .i64 hv)) ?_
          simp only [List.take_succ_cons, List.take_zero]
          repeat (go_big_quiet_step (first | ((go_at_call 75; exact Ext.calls (HBE.out _))) | ((go_at_call 76; exact Ext.calls (HHO.out _)))))
          refine wpQuiet_nil ⟨?_, ?_⟩
          · intro w1 hb1 K hK
            have hK2 := hK _ ⟨w1, hb1, rfl⟩
            have ov1 : w1.cell? ⟨kb + 1 + 1, k, none⟩ = some (.int .i64 (outF q fl N F value gn k k)) := (hb1.cell (p := ⟨kb + 1 + 1, k, none⟩) HO5.out.lt).trans ov
            have of1 : w1.frozen? ⟨kb + 1 + 1, k, none⟩ = false := (hb1.frozen (p := ⟨kb + 1 + 1, k, none⟩) HO5.out.lt).trans of
            clear hK
            go_simp
            exact hK2
          · rintro w2 ⟨w6, hb6, rfl⟩
            go_wp2_with fail
            go_roundw
            case rel => exact ⟨k + 1, by omega, by go_num, Lib.hid (HST.out hv w6 HD.out hb6)⟩
            case measure => simp [intOf]; omega
    · obtain rfl : k = N := by omega
      go_wp2_with fail
      exact HJP.out _ hs.out.2.1 hs.out.2.2
end Go.Proofs.Ytnmccbjdfdbgpaa
/- What is proved: a contract of Agree. Conditions: the list of the faulty and the lies lie in memory. -/
namespace Go.Proofs.Ytnmccbjdfdbgpaa
open Go.RowKit Go.Maps Go.WideMaps

def agreeB (N F : Int) (fl : List Int) (g value : Int) (l : List LieD) : List Int × Int :=
  if (councilB N F fl && inB g 0 (N - 1)) = false then ([], 2)
  else if 1000 < l.length then ([], 3)
  else ((List.range N.toNat).map (decP (learnB N F 0 l) fl N.toNat F.toNat value g), 0)
def ListPost (w : World) (r : List Int × Int) (e : Ending) (w' : World) : Prop :=
  ∃ A c, e = .returned (.tuple #[.slice A r.1.length c, .int .i64 r.2]) ∧ Cl w' w.heap.size 3 1 A r.1.length (fun i _ => .int .i64 (getI r.1 i)) ∧ Below w.heap.size w w'
theorem council_ok {N F : Int} {fl : List Int} (h : councilB N F fl = true) : 1 ≤ N ∧ N ≤ 7 ∧ 0 ≤ F ∧ F ≤ 2 ∧ 3 * F < N ∧ (fl.length : Int) ≤ F ∧ ∀ k, k < fl.length → lastC fl k < getI fl k ∧ getI fl k < N := by
  unfold councilB at h
  simp only [Bool.and_eq_true, decide_eq_true_eq] at h
  obtain ⟨⟨⟨⟨h1, h2⟩, h3⟩, h4⟩, h5⟩ := h
  have a := inB_iff.1 h2
  have b := inB_iff.1 h3
  refine ⟨a.1, a.2, b.1, b.2, h4, h5, fun k hk => ?_⟩
  have := allN_iff.1 h1 k hk
  unfold okC at this
  simpa using this
theorem mapI_get (f : Nat → Int) {n i : Nat} (hi : i < n) : getI ((List.range n).map f) i = f i := by
  unfold getI; simp [List.getD_eq_getElem?_getD, hi]
set_option maxRecDepth 100000 in
set_option maxHeartbeats 16000000 in
theorem agree_any (w : World) (N F : Int) (Af : Option Addr) (cf : Nat) (fl : List Int) (g value : Int) (A : Option Addr) (c : Nat) (l : List LieD) (hf : IntsAt w w.heap.size Af fl) (hl : LiesAt w w.heap.size A l) :
    Calls Try.prog 25 #[.agg #[.int .i64 N, .int .i64 F, .slice Af fl.length cf], .int .i64 g, .int .i64 value, .slice A l.length c] w (ListPost w (agreeB N F fl g value l)) := by
  have HF := Lib.hid hf
  have HL := Lib.hid hl
  have hll := hl.len
  obtain ⟨n, hn⟩ : ∃ n, l.length = n := ⟨_, rfl⟩
  have HN := Lib.hid hn
  obtain ⟨nf, hnf⟩ : ∃ nf, fl.length = nf := ⟨_, rfl⟩
  have HNF := Lib.hid hnf
  obtain ⟨kb, hkb⟩ : ∃ kb, w.heap.size = kb := ⟨_, rfl⟩
  have HKB := Lib.hid hkb
  obtain ⟨W1, hW1⟩ : ∃ W1, (w.alloc (.cells #[.int .i64 N, .int .i64 F, .slice Af nf cf] 48)).alloc (.cells #[.int .i64 N, .int .i64 F, .slice Af nf cf, .map none] 102) = W1 := ⟨_, rfl⟩
  have HB1 : Hid (Below w.heap.size w W1) := Lib.hid (by rw [← hW1]; exact ((Below.refl _ _).alloc (Nat.le_refl _) _).alloc (by simp) _)
  have HK0 : Hid (Bk W1 kb 48 #[.int .i64 N, .int .i64 F, .slice Af nf cf]) := Lib.hid (by rw [← hW1, ← hkb]; exact (Bk.new _ _ _).alloc _)
  have HK1 : Hid (Bk W1 (kb + 1) 102 #[.int .i64 N, .int .i64 F, .slice Af nf cf, .map none]) := Lib.hid (by rw [← hW1, ← hkb]; exact Bk.newAt _ _ _ _ (by simp))
  have HC : Hid (Calls Try.prog 56 #[.agg #[.int .i64 N, .int .i64 F, .slice Af nf cf, .map none]] W1 fun e w' => e = .returned (.bool (councilB N F fl)) ∧ Below W1.heap.size W1 w') := Lib.hid (by
    rw [← hnf]; exact council_any W1 N F Af cf fl (.map none) (Sl.mono (Sl.below hf HB1.out) HB1.out.size))
  have HFIN : Hid (∀ A' c' er len w', (agreeB N F fl g value l).1.length = len → (agreeB N F fl g value l).2 = er → Cl w' kb 3 1 A' len (fun i _ => .int .i64 (getI (agreeB N F fl g value l).1 i)) → Below kb w w' → ListPost w (agreeB N F fl g value l) (.returned (.tuple #[.slice A' len c', .int .i64 er])) w') := Lib.hid fun A' c' er len w' h1 h2 h3 h4 => by
    subst h1 h2
    rw [← hkb] at h3 h4
    exact ⟨A', c', rfl, h3, h4⟩
  have HAG : Hid (agreeB N F fl g value l = if (councilB N F fl && inB g 0 (N - 1)) = false then ([], 2) else if 1000 < n then ([], 3) else ((List.range N.toNat).map (decP (learnB N F 0 l) fl N.toNat F.toNat value g), 0)) := Lib.hid (by rw [← hn]; rfl)
  obtain ⟨R, hR⟩ : ∃ R, agreeB N F fl g value l = R := ⟨_, rfl⟩
  obtain ⟨JP, hJP⟩ : ∃ JP, ListPost w R = JP := ⟨_, rfl⟩
  rw [hR] at HFIN HAG
  rw [hJP] at HFIN
  rw [hn] at hll ⊢
  rw [hnf, hR, hJP]
  clear hf hl hn hnf hR hJP
  have HNO : Hid (∀ w', (councilB N F fl && inB g 0 (N - 1)) = false → Below kb w w' → JP (.returned (.tuple #[.slice none 0 0, .int .i64 2])) w') := Lib.hid fun w' h1 h2 => by
    have := HAG.out
    rw [if_pos h1] at this
    exact HFIN.out none 0 2 0 w' (by rw [this]; rfl) (by rw [this]) (Cl.nil _ _ _ _ _ _) h2
  have HW1 := Lib.hid hW1
  clear hW1
  go_enter Try.func25, Try.ntmps25
  go_upto_region 2 with (fail)
  rw [HW1.out]
  have d0 : W1.cell? ⟨kb + 1, 0, none⟩ = some (.int .i64 N) := HK1.out.cell 0
  have d1 : W1.cell? ⟨kb + 1, 1, none⟩ = some (.int .i64 F) := HK1.out.cell 1
  have d2 : W1.cell? ⟨kb + 1, 2, none⟩ = some (.slice Af nf cf) := HK1.out.cell 2
  have d3 : W1.cell? ⟨kb + 1, 3, none⟩ = some (.map none) := HK1.out.cell 3
  go_wp2_with fail
  refine HC.out.mono ?_
  rintro e w5 ⟨rfl, hb5⟩
  have HB5 := Lib.hid (HB1.out.trans (hb5.mono HB1.out.size))
  have HK5 := Lib.hid (HK1.out.below hb5 HK1.out.lt)
  have HJ5 := Lib.hid (HK0.out.below hb5 HK0.out.lt)
  clear hb5 d0 d1 d2 d3
  cases hv : councilB N F fl with
  | false =>
    go_wp2_with fail
    exact HNO.out _ (by rw [hv]; rfl) (by rw [← HKB.out]; exact HB5.out)
  | true =>
    obtain ⟨hN1, hN2, hF1, hF2, hF3, hfl, hmem⟩ := council_ok hv
    have c0 : w5.cell? ⟨kb, 0, none⟩ = some (.int .i64 N) := HJ5.out.cell 0
    cases hg : inB g 0 (N - 1) with
    | false =>
      go_wp2_with fail
      refine (within_any _ _ _ _).mono ?_
      rintro e w' ⟨rfl, rfl⟩
      rw [hg]
      go_wp2_with fail
      exact HNO.out _ (by rw [hg, Bool.and_false]) (by rw [← HKB.out]; exact HB5.out)
    | true =>
      have hgi := inB_iff.1 hg
      have HVG : Hid ((councilB N F fl && inB g 0 (N - 1)) = true) := Lib.hid (by rw [hv, hg]; rfl)
      go_wp2_with fail
      refine (within_any _ _ _ _).mono ?_
      rintro e w' ⟨rfl, rfl⟩
      rw [hg]
      clear hv hg
      by_cases hlong : 1000 < n
      · have hlo : (1000 : Int) < (n : Int) := by omega
        go_wp2_with fail
        have := HAG.out
        rw [if_neg (by rw [HVG.out]; decide), if_pos hlong] at this
        exact HFIN.out none 0 3 0 _ (by rw [this]; rfl) (by rw [this]) (Cl.nil _ _ _ _ _ _) (by rw [← HKB.out]; exact HB5.out)
      · have hlo : ¬ (1000 : Int) < (n : Int) := by omega
        have HLE := Lib.hid (learn_any w5 (kb + 1) kb N F 0 Af nf cf (.map none) A c l HK5.out hN1 hN2 hF1 hF2 (by have := LiesAt.below HL.out HB5.out; rw [HKB.out] at this; exact this) (by omega))
        rw [HN.out] at HLE
        obtain ⟨q, hq⟩ : ∃ q, learnB N F 0 l = q := ⟨_, rfl⟩
        have HQO : Hid (Once q) := Lib.hid (by rw [← hq]; exact learnK_once _)
        rw [hq] at HLE HAG
        clear hq c0
        go_wp2_with fail
        refine HLE.out.mono ?_
        rintro e w6 ⟨rfl, hch, M, hM, hk6, hq6⟩
        have e0 : w6.cell? ⟨kb + 1, 0, none⟩ = some (.int .i64 N) := hk6.cell 0
        have e1 : w6.cell? ⟨kb + 1, 1, none⟩ = some (.int .i64 F) := hk6.cell 1
        have e2 : w6.cell? ⟨kb + 1, 2, none⟩ = some (.slice Af nf cf) := hk6.cell 2
        have e3 : w6.cell? ⟨kb + 1, 3, none⟩ = some (.map (some M)) := hk6.cell 3
        have hbk : kb ≤ w5.heap.size := by have := HB5.out.size; rw [HKB.out] at this; exact this
        have HB6 : Hid (Below kb w w6) := Lib.hid (by have := HB5.out; rw [HKB.out] at this; exact this.trans (hch.to_below (by omega) hbk))
        have hf6 : IntsAt w6 w6.heap.size Af fl := Sl.mono (Sl.below HF.out (by rw [HKB.out]; exact HB6.out)) (by have := HB6.out.size; exact this)
        obtain ⟨Nn, rfl⟩ : ∃ Nn : Nat, N = Nn := ⟨N.toNat, by omega⟩
        obtain ⟨Fn, rfl⟩ : ∃ Fn : Nat, F = Fn := ⟨F.toNat, by omega⟩
        obtain ⟨gn, rfl⟩ : ∃ gn : Nat, g = gn := ⟨g.toNat, by omega⟩
        have HDE := Lib.hid (decide_any w6 M Nn Fn Af cf fl q value gn hq6 hf6 HQO.out (by omega) (by omega) (by omega))
        rw [HNF.out] at HDE
        clear hch hk6 hq6 hf6 hM
        go_wp2_with fail
        refine HDE.out.mono ?_
        rintro e w7 ⟨Ao, co, rfl, hcl, hb7⟩
        have hR := HAG.out
        rw [if_neg (by rw [HVG.out]; decide), if_neg hlong] at hR
        simp only [Int.toNat_natCast] at hR
        have hk6 : kb ≤ w6.heap.size := by have := HB6.out.size; have := HKB.out; omega
        have HEND := Lib.hid (HFIN.out Ao co 0 Nn w7 (by rw [hR]; simp) (by rw [hR]) ⟨hcl.1, fun h0 => by
          obtain ⟨gg, cur, e, h1, h2, h3⟩ := hcl.2 h0
          exact ⟨gg, cur, e, Nat.le_trans hk6 h1, h2, fun i hi j hj => by
            rw [h3 i hi j hj, hR]
            show _ = some (Value.int .i64 (getI ((List.range Nn).map (decP q fl Nn Fn value gn)) i))
            rw [mapI_get _ hi]⟩⟩ (HB6.out.trans (hb7.mono hk6)))
        clear hcl hb7 hR e0 e1 e2 e3
        go_wp2_with fail
        exact HEND.out
end Go.Proofs.Ytnmccbjdfdbgpaa
/- What is proved: when strings cut, in plain words; contracts and lemmas for CutOff. Conditions: those that each lemma states. -/
namespace Go.Proofs.Ytnmccbjdfdbgpaa
open Go.RowKit Go.Maps Go.WideMaps

def rowAt (vs : List (List Int)) (k : Nat) : List Int := vs.getD k []
/-- How many of the first k generals' values member i decides to be 1. -/
def yesP (q : Know) (fl : List Int) (N F : Nat) (l : List Int) (k i : Nat) : Int := ((List.range k).filter fun g => decide (decP q fl N F (getI l g) g i = 1)).length
theorem yesP_succ (q : Know) (fl : List Int) (N F : Nat) (l : List Int) (k i : Nat) : yesP q fl N F l (k + 1) i = yesP q fl N F l k i + (if decP q fl N F (getI l k) k i = 1 then 1 else 0) := by
  unfold yesP
  rw [List.range_succ, List.filter_append]
  by_cases h : decP q fl N F (getI l k) k i = 1
  · rw [if_pos h]; simp [h]
  · rw [if_neg h]; simp [h]
theorem yesP_le (q : Know) (fl : List Int) (N F : Nat) (l : List Int) (k i : Nat) : 0 ≤ yesP q fl N F l k i ∧ yesP q fl N F l k i ≤ k := by
  unfold yesP
  have := List.length_filter_le (fun g => decide (decP q fl N F (getI l g) g i = 1)) (List.range k)
  rw [List.length_range] at this
  omega
def frameP (lies : List LieD) (fl : List Int) (N F : Nat) (l : List Int) (f : Nat) (old : Int) (i : Nat) : Int :=
  if old < 0 ∧ (F : Int) < yesP (learnB N F f lies) fl N F l N i ∧ hasB fl i = false then f else old
def cutP (lies : List LieD) (fl : List Int) (N F : Nat) (vs : List (List Int)) : Nat → Nat → Int
  | 0, _ => -1
  | k + 1, i => frameP lies fl N F (rowAt vs k) k (cutP lies fl N F vs k i) i
def rowOk (N : Int) (l : List Int) : Bool := decide ((l.length : Int) = N) && allN l.length fun i => inB (getI l i) 0 1
def cutB (N F : Int) (fl : List Int) (vs : List (List Int)) (lies : List LieD) : List Int × Int :=
  if councilB N F fl = false then ([], 2)
  else if 20 < vs.length ∨ 1000 < lies.length then ([], 3)
  else if (allN vs.length fun k => rowOk N (rowAt vs k)) = false then ([], 2)
  else ((List.range N.toNat).map (cutP lies fl N.toNat F.toNat vs vs.length), 0)
/-- Lists of numbers lie at A. -/
structure RowsAt (w : World) (B : Nat) (A : Option Addr) (vs : List (List Int)) : Prop where
  sl : ∃ (P : Nat → Option Addr) (c : Nat → Nat), Sl w B 1 A vs.length (fun i _ => .slice (P i) (rowAt vs i).length (c i)) ∧ ∀ i, i < vs.length → IntsAt w B (P i) (rowAt vs i)
theorem RowsAt.below {w w' : World} {B : Nat} {A : Option Addr} {vs : List (List Int)} (h : RowsAt w B A vs) (hb : Below B w w') : RowsAt w' B A vs :=
  ⟨by obtain ⟨P, c, h1, h2⟩ := h.sl; exact ⟨P, c, h1.below hb, fun i hi => (h2 i hi).below hb⟩⟩
theorem RowsAt.len {w : World} {B : Nat} {A : Option Addr} {vs : List (List Int)} (h : RowsAt w B A vs) : vs.length ≤ 9223372036854775807 := by obtain ⟨_, _, h1, _⟩ := h.sl; exact h1.1
set_option maxHeartbeats 400000 in
theorem bit_any (w : World) (x : Int) : Calls Try.prog 63 #[.int .i64 x] w fun e w' => e = .returned (.bool (!inB x 0 1)) ∧ Below w.heap.size w w' := by
  obtain ⟨b, hb⟩ : ∃ b, inB x 0 1 = b := ⟨_, rfl⟩
  have HI := Lib.hid fun w' => within_any x 0 1 w'
  rw [hb] at HI ⊢
  clear hb
  go_enter Try.func63, Try.ntmps63
  go_wp2_with fail
  refine (HI.out _).mono ?_
  rintro e w' ⟨rfl, rfl⟩
  go_wp2_with fail
  go_ret
  exact ⟨rfl, Below.refl _ _⟩
theorem badBits (w : World) (A : Option Addr) (c : Nat) (l : List Int) (h : IntsAt w w.heap.size A l) :
    Calls Try.prog 62 #[.slice A l.length c, .func (.func 63) #[] #[]] w fun e w' => e = .returned (.bool (!(allN l.length fun i => inB (getI l i) 0 1))) ∧ Below w.heap.size w w' := by
  have := conInt w A l.length c _ h 63 #[] (fun i => !inB (getI l i) 0 1) (fun args w => by kernel_rfl) fun w' _ i _ => bit_any w' _
  simpa using this
/-- What CutOff's boxes hold. -/
structure CutS (w : World) (kb ob : Nat) (N F : Nat) (Af : Option Addr) (nf cf : Nat) (Mv : Value) (fo : Nat → Int) (wr : World) : Prop where
  bel : Below kb w wr
  box : Bk wr kb 48 #[.int .i64 N, .int .i64 F, .slice Af nf cf]
  con : Bk wr (kb + 1) 102 (counA N F Af nf cf Mv)
  out : Bk wr ob 3 (intA N fo)
theorem CutS.below {w : World} {kb ob N F : Nat} {Af : Option Addr} {nf cf : Nat} {Mv : Value} {fo : Nat → Int} {wr w' : World} (h : CutS w kb ob N F Af nf cf Mv fo wr) (hb : Below wr.heap.size wr w') : CutS w kb ob N F Af nf cf Mv fo w' :=
  ⟨h.bel.trans (hb.mono (by have := h.box.lt; omega)), h.box.below hb h.box.lt, h.con.below hb h.con.lt, h.out.below hb h.out.lt⟩
theorem CutS.only {w : World} {kb ob N F g : Nat} {Af : Option Addr} {nf cf : Nat} {Mv : Value} {fo : Nat → Int} {wr w' : World} (h : CutS w kb ob N F Af nf cf Mv fo wr) (hb : Only g wr w') (h1 : kb + 1 < g) (h2 : g ≠ ob) : CutS w kb ob N F Af nf cf Mv fo w' :=
  ⟨h.bel.trans (hb.below (by omega)), h.box.only hb (by omega), h.con.only hb (by omega), h.out.only hb (Ne.symm h2)⟩
theorem CutS.put {w : World} {kb ob N F : Nat} {Af : Option Addr} {nf cf : Nat} {Mv : Value} {fo : Nat → Int} {wr : World} (h : CutS w kb ob N F Af nf cf Mv fo wr) (ho : kb + 1 < ob) (i : Nat) (v : Int) : CutS w kb ob N F Af nf cf Mv (fun k => if k = i then v else fo k) (wr.setCell ⟨ob, i, none⟩ (.int .i64 v)) :=
  ⟨h.bel.setCell (p := ⟨ob, i, none⟩) (by show kb ≤ ob; omega) _, h.box.only (Only.setCell _ _ _ _) (by omega), h.con.only (Only.setCell _ _ _ _) (by omega), by rw [← intA_set]; exact h.out.set i _⟩
theorem CutS.learn {w : World} {kb ob N F : Nat} {Af : Option Addr} {nf cf : Nat} {Mv : Value} {fo : Nat → Int} {wr w' : World} {q : Know} (h : CutS w kb ob N F Af nf cf Mv fo wr) (ho : kb + 1 < ob) (hl : LearnPost wr (kb + 1) N F Af nf cf q w') :
    ∃ M, ob < M ∧ CutS w kb ob N F Af nf cf (.map (some M)) fo w' ∧ KnowAt w' M q := by
  obtain ⟨hc, M, hM, hk, hq⟩ := hl
  have h0 := h.box.lt
  have h1 := h.out.lt
  exact ⟨M, by omega, ⟨h.bel.trans (hc.to_below (by omega) (by omega)), (hc.block kb (by omega) (by omega)).trans h.box, hk, (hc.block ob (by omega) (by omega)).trans h.out⟩, hq⟩
theorem intA_congr {n : Nat} {f g : Nat → Int} (h : ∀ i, i < n → f i = g i) : intA n f = intA n g := by
  unfold intA
  congr 1
  exact List.map_congr_left fun i hi => by rw [h i (List.mem_range.1 hi)]
theorem CutS.congr {w : World} {kb ob N F : Nat} {Af : Option Addr} {nf cf : Nat} {Mv : Value} {fo go : Nat → Int} {wr : World} (h : CutS w kb ob N F Af nf cf Mv fo wr) (e : ∀ i, i < N → fo i = go i) : CutS w kb ob N F Af nf cf Mv go wr :=
  ⟨h.bel, h.box, h.con, by rw [← intA_congr e]; exact h.out⟩
end Go.Proofs.Ytnmccbjdfdbgpaa
/- What is proved: a contract of CutOff. Conditions: the list of the faulty, the votes and the lies lie in memory. -/
namespace Go.Proofs.Ytnmccbjdfdbgpaa
open Go.RowKit Go.Maps Go.WideMaps

set_option maxRecDepth 100000 in
set_option maxHeartbeats 32000000 in
theorem cutOff_any (w : World) (N F : Int) (Af : Option Addr) (cf : Nat) (fl : List Int) (Av : Option Addr) (cv : Nat) (vs : List (List Int)) (A : Option Addr) (c : Nat) (l : List LieD) (hf : IntsAt w w.heap.size Af fl) (hvs : RowsAt w w.heap.size Av vs) (hl : LiesAt w w.heap.size A l) :
    Calls Try.prog 29 #[.agg #[.int .i64 N, .int .i64 F, .slice Af fl.length cf], .slice Av vs.length cv, .slice A l.length c] w (ListPost w (cutB N F fl vs l)) := by
  have HF := Lib.hid hf
  have HL := Lib.hid hl
  have HVS := Lib.hid hvs
  have hll := hl.len
  have hvl := hvs.len
  obtain ⟨n, hn⟩ : ∃ n, l.length = n := ⟨_, rfl⟩
  have HN := Lib.hid hn
  obtain ⟨nv, hnv⟩ : ∃ nv, vs.length = nv := ⟨_, rfl⟩
  have HNV := Lib.hid hnv
  obtain ⟨nf, hnf⟩ : ∃ nf, fl.length = nf := ⟨_, rfl⟩
  have HNF := Lib.hid hnf
  obtain ⟨kb, hkb⟩ : ∃ kb, w.heap.size = kb := ⟨_, rfl⟩
  have HKB := Lib.hid hkb
  obtain ⟨W1, hW1⟩ : ∃ W1, (w.alloc (.cells #[.int .i64 N, .int .i64 F, .slice Af nf cf] 48)).alloc (.cells #[.int .i64 N, .int .i64 F, .slice Af nf cf, .map none] 102) = W1 := ⟨_, rfl⟩
  have HB1 : Hid (Below w.heap.size w W1) := Lib.hid (by rw [← hW1]; exact ((Below.refl _ _).alloc (Nat.le_refl _) _).alloc (by simp) _)
  have HK0 : Hid (Bk W1 kb 48 #[.int .i64 N, .int .i64 F, .slice Af nf cf]) := Lib.hid (by rw [← hW1, ← hkb]; exact (Bk.new _ _ _).alloc _)
  have HK1 : Hid (Bk W1 (kb + 1) 102 #[.int .i64 N, .int .i64 F, .slice Af nf cf, .map none]) := Lib.hid (by rw [← hW1, ← hkb]; exact Bk.newAt _ _ _ _ (by simp))
  have HC : Hid (Calls Try.prog 56 #[.agg #[.int .i64 N, .int .i64 F, .slice Af nf cf, .map none]] W1 fun e w' => e = .returned (.bool (councilB N F fl)) ∧ Below W1.heap.size W1 w') := Lib.hid (by
    rw [← hnf]; exact council_any W1 N F Af cf fl (.map none) (Sl.mono (Sl.below hf HB1.out) HB1.out.size))
  have HFIN : Hid (∀ A' c' er len w', (cutB N F fl vs l).1.length = len → (cutB N F fl vs l).2 = er → Cl w' kb 3 1 A' len (fun i _ => .int .i64 (getI (cutB N F fl vs l).1 i)) → Below kb w w' → ListPost w (cutB N F fl vs l) (.returned (.tuple #[.slice A' len c', .int .i64 er])) w') := Lib.hid fun A' c' er len w' h1 h2 h3 h4 => by
    subst h1 h2
    rw [← hkb] at h3 h4
    exact ⟨A', c', rfl, h3, h4⟩
  have HAG : Hid (cutB N F fl vs l = if councilB N F fl = false then ([], 2) else if 20 < nv ∨ 1000 < n then ([], 3) else if (allN nv fun k => rowOk N (rowAt vs k)) = false then ([], 2) else ((List.range N.toNat).map (cutP l fl N.toNat F.toNat vs nv), 0)) := Lib.hid (by rw [← hn, ← hnv]; rfl)
  obtain ⟨R, hR⟩ : ∃ R, cutB N F fl vs l = R := ⟨_, rfl⟩
  obtain ⟨JP, hJP⟩ : ∃ JP, ListPost w R = JP := ⟨_, rfl⟩
  rw [hR] at HFIN HAG
  rw [hJP] at HFIN
  have HNO : Hid (∀ er w', R = ([], er) → Below kb w w' → JP (.returned (.tuple #[.slice none 0 0, .int .i64 er])) w') := Lib.hid fun er w' h1 h2 =>
    HFIN.out none 0 er 0 w' (by rw [h1]; rfl) (by rw [h1]) (Cl.nil _ _ _ _ _ _) h2
  rw [hn] at hll ⊢
  rw [hnv] at hvl ⊢
  rw [hnf, hR, hJP]
  have HW1 := Lib.hid hW1
  clear hf hl hn hnf hR hJP hvs hnv hW1
  go_enter Try.func29, Try.ntmps29
  go_upto_region 2 with (fail)
  rw [HW1.out]
  have d0 : W1.cell? ⟨kb + 1, 0, none⟩ = some (.int .i64 N) := HK1.out.cell 0
  have d1 : W1.cell? ⟨kb + 1, 1, none⟩ = some (.int .i64 F) := HK1.out.cell 1
  have d2 : W1.cell? ⟨kb + 1, 2, none⟩ = some (.slice Af nf cf) := HK1.out.cell 2
  have d3 : W1.cell? ⟨kb + 1, 3, none⟩ = some (.map none) := HK1.out.cell 3
  go_wp2_with fail
  refine HC.out.mono ?_
  rintro e w5 ⟨rfl, hb5⟩
  have HB5 : Hid (Below kb w w5) := Lib.hid (by rw [← hkb]; exact HB1.out.trans (hb5.mono HB1.out.size))
  have HK5 := Lib.hid (HK1.out.below hb5 HK1.out.lt)
  have HJ5 := Lib.hid (HK0.out.below hb5 HK0.out.lt)
  clear hb5 d0 d1 d2 d3
  cases hv : councilB N F fl with
  | false =>
    go_wp2_with fail
    exact HNO.out 2 _ (by rw [HAG.out, if_pos hv]) HB5.out
  | true =>
    obtain ⟨hN1, hN2, hF1, hF2, hF3, hfl, hmem⟩ := council_ok hv
    have HV := Lib.hid hv
    clear hv
    by_cases hlong : 20 < nv ∨ 1000 < n
    · have hRL : Hid (R = ([], 3)) := Lib.hid (by rw [HAG.out, if_neg (by rw [HV.out]; decide), if_pos hlong])
      by_cases h20 : 20 < nv
      · have h20i : (20 : Int) < (nv : Int) := by omega
        clear hlong
        go_wp2_with fail
        exact HNO.out 3 _ hRL.out HB5.out
      · have h20i : ¬ (20 : Int) < (nv : Int) := by omega
        have h1000 : 1000 < n := by omega
        have h1000i : (1000 : Int) < (n : Int) := by omega
        clear hlong
        go_wp2_with fail
        exact HNO.out 3 _ hRL.out HB5.out
    · have HRB : Hid (R = if (allN nv fun k => rowOk N (rowAt vs k)) = false then ([], 2) else ((List.range N.toNat).map (cutP l fl N.toNat F.toNat vs nv), 0)) := Lib.hid (by rw [HAG.out, if_neg (by rw [HV.out]; decide), if_neg hlong])
      have h20i : ¬ (20 : Int) < (nv : Int) := by omega
      have h1000i : ¬ (1000 : Int) < (n : Int) := by omega
      have hn20 : nv ≤ 20 := by omega
      have hn1000 : n ≤ 1000 := by omega
      clear hlong
      go_wp2_with fail
      go_loopw [38] (fun iv wr => ∃ k : Nat, k ≤ nv ∧ iv = .int .i64 k ∧ Hid (Below kb w wr ∧ Bk wr kb 48 #[.int .i64 N, .int .i64 F, .slice Af nf cf] ∧ Bk wr (kb + 1) 102 #[.int .i64 N, .int .i64 F, .slice Af nf cf, .map none] ∧ ∀ j, j < k → rowOk N (rowAt vs j) = true)) (fun iv _ => nv - (intOf iv).toNat)
      case atStart => exact ⟨0, Nat.zero_le _, rfl, Lib.hid ⟨HB5.out, HJ5.out, HK5.out, fun j hj => absurd hj (Nat.not_lt_zero j)⟩⟩
      case round =>
        obtain ⟨k, hk, rfl, hs⟩ := hrel
        by_cases hlt : k < nv
        · have hki : (k : Int) < (nv : Int) := by omega
          have h0k : (0 : Int) ≤ (k : Int) := by omega
          obtain ⟨P, cc, hsl, hpa⟩ := HVS.out.sl
          have hkl : k < vs.length := by rw [HNV.out]; exact hlt
          obtain ⟨bb, off, rfl, _, dr⟩ := Sl.at1 (Sl.below hsl (by rw [HKB.out]; exact hs.out.1)) hkl
          have hsz : kb ≤ wr.heap.size := by have := hs.out.1.size; omega
          have HPA := Lib.hid (Sl.mono (Sl.below (hpa k hkl) (by rw [HKB.out]; exact hs.out.1)) (by rw [HKB.out]; exact hsz) : IntsAt wr wr.heap.size (P k) (rowAt vs k))
          obtain ⟨row, hrow⟩ : ∃ row, rowAt vs k = row := ⟨_, rfl⟩
          have HROW := Lib.hid hrow
          obtain ⟨Ap, hAp⟩ : ∃ Ap, P k = Ap := ⟨_, rfl⟩
          obtain ⟨cp, hcp⟩ : ∃ cp, cc k = cp := ⟨_, rfl⟩
          try dsimp only at dr
          rw [hrow, hAp] at HPA dr
          rw [hcp] at dr
          obtain ⟨m, hm⟩ : ∃ m, row.length = m := ⟨_, rfl⟩
          have HM := Lib.hid hm
          have HBAD := Lib.hid (badBits wr Ap cp row HPA.out)
          rw [hm] at dr HBAD
          have b0 : wr.cell? ⟨kb, 0, none⟩ = some (.int .i64 N) := hs.out.2.1.cell 0
          have HROK : Hid (rowOk N (rowAt vs k) = (decide ((m : Int) = N) && allN m fun i => inB (getI row i) 0 1)) := Lib.hid (by rw [hrow, ← hm]; rfl)
          have HFL : Hid (rowOk N (rowAt vs k) = false → R = ([], 2)) := Lib.hid fun h => by
            rw [HRB.out, if_pos]
            cases ha : allN nv fun k => rowOk N (rowAt vs k) with
            | false => rfl
            | true => rw [allN_iff.1 ha k hlt] at h; cases h
          clear hsl hpa hrow hAp hcp hm
          by_cases hmn : (m : Int) = N
          · have hmb : ((m : Int) != N) = false := by simp [hmn]
            cases hall : allN m fun i => inB (getI row i) 0 1 with
            | true =>
              go_wp2_with fail
              refine HBAD.out.mono ?_
              rintro e w6 ⟨rfl, hb6⟩
              have HB6 := Lib.hid hb6
              rw [hall]
              clear b0 hb6
              go_wp2_with fail
              go_roundw
              case rel => exact ⟨k + 1, by omega, by go_num, Lib.hid ⟨hs.out.1.trans (HB6.out.mono hsz), hs.out.2.1.below HB6.out hs.out.2.1.lt, hs.out.2.2.1.below HB6.out hs.out.2.2.1.lt, fun j hj => by
                by_cases e : j = k
                · subst e; rw [HROK.out, hall, decide_eq_true hmn]; rfl
                · exact hs.out.2.2.2 j (by omega)⟩⟩
              case measure => simp [intOf]; omega
            | false =>
              go_wp2_with fail
              refine HBAD.out.mono ?_
              rintro e w6 ⟨rfl, hb6⟩
              have HB6 := Lib.hid hb6
              rw [hall]
              clear b0 hb6
              go_wp2_with fail
              exact HNO.out 2 _ (HFL.out (by rw [HROK.out, hall, Bool.and_false])) (hs.out.1.trans (HB6.out.mono hsz))
          · have hmb : ((m : Int) != N) = true := by simp [hmn]
            go_wp2_with fail
            exact HNO.out 2 _ (HFL.out (by rw [HROK.out, decide_eq_false hmn]; rfl)) hs.out.1
        · obtain rfl : k = nv := by omega
          have HRO : Hid (R = ((List.range N.toNat).map (cutP l fl N.toNat F.toNat vs k), 0)) := Lib.hid (by
            rw [HRB.out, if_neg]
            rw [allN_iff.2 fun i hi => hs.out.2.2.2 i hi]; decide)
          have HLENS : Hid (∀ j, j < k → ((rowAt vs j).length : Int) = N) := Lib.hid fun j hj => by
            have := hs.out.2.2.2 j hj
            unfold rowOk at this
            simp only [Bool.and_eq_true, decide_eq_true_eq] at this
            exact this.1
          obtain ⟨Nn, rfl⟩ : ∃ Nn : Nat, N = Nn := ⟨N.toNat, by omega⟩
          obtain ⟨Fn, rfl⟩ : ∃ Fn : Nat, F = Fn := ⟨F.toNat, by omega⟩
          simp only [Int.toNat_natCast] at HRO
          have hNn1 : 1 ≤ Nn := by omega
          have hNn7 : Nn ≤ 7 := by omega
          have hFn2 : Fn ≤ 2 := by omega
          obtain ⟨W6, hW6⟩ : ∃ W6, wr.alloc (.cells #[.int .i64 (-1)] 3) = W6 := ⟨_, rfl⟩
          have hb6 : Below wr.heap.size wr W6 := by rw [← hW6]; exact (Below.refl _ _).alloc (Nat.le_refl _) _
          have HRP := Lib.hid (repeatInt W6 wr.heap.size 0 1 (-1) (by rw [← hW6]; exact (Bk.new _ _ _).cell 0) Nn ⟨hNn1, by omega⟩)
          have b0 : W6.cell? ⟨kb, 0, none⟩ = some (.int .i64 Nn) := (hs.out.2.1.below hb6 hs.out.2.1.lt).cell 0
          obtain ⟨xb, hxb⟩ : ∃ xb, wr.heap.size = xb := ⟨_, rfl⟩
          have HS6 : Hid (Below kb w W6 ∧ Bk W6 kb 48 #[.int .i64 Nn, .int .i64 Fn, .slice Af nf cf] ∧ Bk W6 (kb + 1) 102 #[.int .i64 Nn, .int .i64 Fn, .slice Af nf cf, .map none] ∧ kb + 1 < W6.heap.size) := Lib.hid
            ⟨hs.out.1.trans (hb6.mono (by have := hs.out.1.size; omega)), hs.out.2.1.below hb6 hs.out.2.1.lt, hs.out.2.2.1.below hb6 hs.out.2.2.1.lt, Nat.lt_of_lt_of_le hs.out.2.2.1.lt hb6.size⟩
          rw [hxb] at HRP
          clear hb6
          go_wp2_with fail
          try rw [hxb]
          refine HRP.out.mono ?_
          rintro e w7 ⟨ob, rfl, hob, hko, hb7⟩
          have HOB : Hid (kb + 1 < ob) := Lib.hid (by have := HS6.out.2.2.2; omega)
          have HS7 : Hid (CutS w kb ob Nn Fn Af nf cf (.map none) (cutP l fl Nn Fn vs 0) w7) := Lib.hid
            ⟨HS6.out.1.trans (hb7.mono (by have := HS6.out.2.2.2; omega)), HS6.out.2.1.below hb7 HS6.out.2.1.lt, HS6.out.2.2.1.below hb7 HS6.out.2.2.1.lt, by have := hko; rw [intA_rep] at this; exact this⟩
          have hkob := HOB.out
          clear hb7 hko hob b0 hW6 hxb
          go_wp2_with fail
          go_loopw [58] (fun iv wr => ∃ j : Nat, j ≤ k ∧ iv = .int .i64 j ∧ Hid (∃ Mv, CutS w kb ob Nn Fn Af nf cf Mv (cutP l fl Nn Fn vs j) wr)) (fun iv _ => k - (intOf iv).toNat)
          case atStart => exact ⟨0, Nat.zero_le _, rfl, Lib.hid ⟨_, HS7.out⟩⟩
          case round =>
            clear hs
            obtain ⟨j, hj, rfl, hs⟩ := hrel
            by_cases hlt : j < k
            case neg =>
              obtain rfl : j = k := by omega
              obtain ⟨Mv, hS⟩ := hs.out
              have HEND := Lib.hid (HFIN.out (some ⟨ob, 0, none⟩) Nn 0 Nn wr (by rw [HRO.out]; simp) (by rw [HRO.out]) ⟨by omega, fun _ => ⟨ob, _, rfl, by omega, hS.out, fun i hi j' hj' => by
                obtain rfl : j' = 0 := by omega
                rw [Nat.mul_one, Nat.add_zero, intA_get _ _ _ hi, HRO.out]
                show _ = some (Value.int .i64 (getI ((List.range Nn).map (cutP l fl Nn Fn vs j)) i))
                rw [mapI_get _ hi]⟩⟩ hS.bel)
              clear hS
              go_wp2_with fail
              exact HEND.out
            case pos =>
              have hji : (j : Int) < (k : Int) := by omega
              have h0j : (0 : Int) ≤ (j : Int) := by omega
              obtain ⟨Mv, hS⟩ := hs.out
              have HS := Lib.hid hS
              obtain ⟨P, cc, hsl, hpa⟩ := HVS.out.sl
              have hkl : j < vs.length := by rw [HNV.out]; exact hlt
              obtain ⟨bb, off, rfl, _, dr⟩ := Sl.at1 (Sl.below hsl (by rw [HKB.out]; exact hS.bel)) hkl
              have HROW : Hid (∀ w', Below kb w w' → IntsAt w' kb (P j) (rowAt vs j)) := Lib.hid fun w' h' => by
                have := Sl.below (hpa j hkl) (by rw [HKB.out]; exact h')
                rw [HKB.out] at this; exact this
              obtain ⟨row, hrow⟩ : ∃ row, rowAt vs j = row := ⟨_, rfl⟩
              have HRW := Lib.hid hrow
              obtain ⟨Ap, hAp⟩ : ∃ Ap, P j = Ap := ⟨_, rfl⟩
              obtain ⟨cp, hcp⟩ : ∃ cp, cc j = cp := ⟨_, rfl⟩
              try dsimp only at dr
              rw [hrow, hAp] at HROW dr
              rw [hcp] at dr
              have hm : row.length = Nn := by have := HLENS.out j hlt; rw [hrow] at this; omega
              rw [hm] at dr
              have HMN := Lib.hid hm
              have HNXT : Hid (∀ i, cutP l fl Nn Fn vs (j + 1) i = frameP l fl Nn Fn row j (cutP l fl Nn Fn vs j i) i) := Lib.hid fun i => by rw [← hrow]; rfl
              have HLE := Lib.hid (learn_any wr (kb + 1) kb Nn Fn j Af nf cf Mv A c l hS.con hN1 hN2 hF1 hF2 (by have := LiesAt.below HL.out (by rw [HKB.out]; exact hS.bel); rw [HKB.out] at this; exact this) (by omega))
              rw [HN.out] at HLE
              obtain ⟨q, hq⟩ : ∃ q, learnB Nn Fn j l = q := ⟨_, rfl⟩
              have HQ := Lib.hid hq
              have HQO : Hid (Once q) := Lib.hid (by rw [← hq]; exact learnK_once _)
              rw [hq] at HLE
              clear hq hsl hpa hrow hAp hcp hm hS hs
              go_wp2_with fail
              refine HLE.out.mono ?_
              rintro e w8 ⟨rfl, hpost⟩
              obtain ⟨M, hM, hS8, hq8⟩ := HS.out.learn hkob hpost
              obtain ⟨W9, hW9⟩ : ∃ W9, w8.alloc (.cells (intA Nn fun _ => 0) 3) = W9 := ⟨_, rfl⟩
              have KM : (Instr.makeSlice 36 (.int .i64 (Nn : Int)) (.int .i64 (Nn : Int))).run Try.prog w8 = .ok (.slice (some ⟨w8.heap.size, 0, none⟩) Nn Nn) W9 := by
                have hm := run_make_row' (P := Try.prog) 36 3 (.int .i64 0) 8 Try.underlying36 infoI rfl .i64 .i64 Nn (by omega) (by omega) w8
                rw [hm, ← hW9, ← intA_zero 0 0 Nn, ← made_rep (.int .i64 0) (.int .i64 0) rfl Nn]
                rfl
              have hb9 : Below w8.heap.size w8 W9 := by rw [← hW9]; exact (Below.refl _ _).alloc (Nat.le_refl _) _
              obtain ⟨yb, hyb⟩ : ∃ yb, w8.heap.size = yb := ⟨_, rfl⟩
              have HYB : Hid (ob < yb ∧ M < yb) := Lib.hid (by have := hS8.out.lt; have := hq8.lt; omega)
              have HS9 := Lib.hid (hS8.below hb9)
              have HQ9 := Lib.hid (hq8.below hb9 hq8.lt)
              have HY9 : Hid (Bk W9 yb 3 (intA Nn (yesP q fl Nn Fn row 0))) := Lib.hid (by rw [← hW9, ← hyb]; exact Bk.new _ _ _)
              have b0 : w8.cell? ⟨kb, 0, none⟩ = some (.int .i64 Nn) := hS8.box.cell 0
              have hyo := HYB.out.1
              have hyM := HYB.out.2
              clear hb9 hpost hS8 hq8 hM dr hW9
              go_wp2_with fail
              clear KM b0 hyb
              go_loopw [71] (fun iv wr => ∃ g : Nat, g ≤ Nn ∧ iv = .int .i64 g ∧ Hid (CutS w kb ob Nn Fn Af nf cf (.map (some M)) (cutP l fl Nn Fn vs j) wr ∧ KnowAt wr M q ∧ Bk wr yb 3 (intA Nn (yesP q fl Nn Fn row g)))) (fun iv _ => Nn - (intOf iv).toNat)
              case atStart => exact ⟨0, Nat.zero_le _, rfl, Lib.hid ⟨HS9.out, HQ9.out, HY9.out⟩⟩
              case round =>
                obtain ⟨g, hg, rfl, hs⟩ := hrel
                by_cases hlg : g < Nn
                case pos =>
                  have hgi : (g : Int) < (Nn : Int) := by omega
                  have h0g : (0 : Int) ≤ (g : Int) := by omega
                  obtain ⟨b2, o2, rfl, _, dv⟩ := Sl.at1 (HROW.out wr hs.out.1.bel) (i := g) (by rw [HMN.out]; exact hlg)
                  obtain ⟨y, hy⟩ : ∃ y, getI row g = y := ⟨_, rfl⟩
                  have HYV := Lib.hid hy
                  try dsimp only at dv
                  rw [hy] at dv
                  have c0 : wr.cell? ⟨kb + 1, 0, none⟩ = some (.int .i64 Nn) := hs.out.1.con.cell 0
                  have c1 : wr.cell? ⟨kb + 1, 1, none⟩ = some (.int .i64 Fn) := hs.out.1.con.cell 1
                  have c2 : wr.cell? ⟨kb + 1, 2, none⟩ = some (.slice Af nf cf) := hs.out.1.con.cell 2
                  have c3 : wr.cell? ⟨kb + 1, 3, none⟩ = some (.map (some M)) := hs.out.1.con.cell 3
                  have hflw : IntsAt wr wr.heap.size Af fl := Sl.mono (Sl.below HF.out (by rw [HKB.out]; exact hs.out.1.bel)) (by have := hs.out.1.bel.size; exact this)
                  have HDE := Lib.hid (decide_any wr M Nn Fn Af cf fl q y g hs.out.2.1 hflw HQO.out hNn7 hFn2 hlg)
                  rw [HNF.out] at HDE
                  clear hflw hy
                  go_wp2_with fail
                  refine HDE.out.mono ?_
                  rintro e w10 ⟨Ad, cd, rfl, hcl, hb10⟩
                  obtain ⟨B2, hB2⟩ : ∃ B2, wr.heap.size = B2 := ⟨_, rfl⟩
                  rw [hB2] at hcl
                  have HYS : Hid (yb < B2) := Lib.hid (by rw [← hB2]; exact hs.out.2.2.lt)
                  have HS10 := Lib.hid (hs.out.1.below hb10)
                  have HQ10 := Lib.hid (hs.out.2.1.below hb10 hs.out.2.1.lt)
                  have HY10 : Hid (Bk w10 yb 3 (intA Nn fun i' => if i' < 0 then yesP q fl Nn Fn row (g + 1) i' else yesP q fl Nn Fn row g i')) := Lib.hid (by
                    have e : intA Nn (fun i' => if i' < 0 then yesP q fl Nn Fn row (g + 1) i' else yesP q fl Nn Fn row g i') = intA Nn (yesP q fl Nn Fn row g) := intA_congr fun i _ => if_neg (Nat.not_lt_zero i)
                    rw [e]; exact hs.out.2.2.below hb10 hs.out.2.2.lt)
                  have HCL := Lib.hid hcl
                  have hyB := HYS.out
                  clear hcl hb10 hB2 c0 c1 c2 c3 dv
                  go_wp2_with fail
                  go_loopw [81] (fun iv wr => ∃ i : Nat, i ≤ Nn ∧ iv = .int .i64 i ∧ Hid (CutS w kb ob Nn Fn Af nf cf (.map (some M)) (cutP l fl Nn Fn vs j) wr ∧ KnowAt wr M q ∧ Bk wr yb 3 (intA Nn fun i' => if i' < i then yesP q fl Nn Fn row (g + 1) i' else yesP q fl Nn Fn row g i') ∧ Cl wr B2 3 1 Ad Nn (fun i _ => .int .i64 (decP q fl Nn Fn y g i)))) (fun iv _ => Nn - (intOf iv).toNat)
                  case atStart => exact ⟨0, Nat.zero_le _, rfl, Lib.hid ⟨HS10.out, HQ10.out, HY10.out, HCL.out⟩⟩
                  case round =>
                    clear hs
                    obtain ⟨i, hi, rfl, hs⟩ := hrel
                    by_cases hli : i < Nn
                    case neg =>
                      obtain rfl : i = Nn := by omega
                      have HY2 : Hid (Bk wr yb 3 (intA i (yesP q fl i Fn row (g + 1)))) := Lib.hid (by
                        rw [← intA_congr (fun i' hi' => if_pos hi')]; exact hs.out.2.2.1)
                      go_wp2_with fail
                      go_roundw
                      case rel => first | exact ⟨g + 1, by omega, by go_num, Lib.hid ⟨hs.out.1, hs.out.2.1, HY2.out⟩⟩ | ((repeat apply Exists.intro); exact ⟨⟨g + 1, by omega, by go_num, Lib.hid ⟨hs.out.1, hs.out.2.1, HY2.out⟩⟩, rfl⟩)
                      case measure => simp [intOf]; omega
                    case pos =>
                      have hii : (i : Int) < (Nn : Int) := by omega
                      have h0i : (0 : Int) ≤ (i : Int) := by omega
                      obtain ⟨gd, cur, rfl, hgd, hbd, hcd⟩ := hs.out.2.2.2.2 (by omega)
                      have dd : wr.cell? ⟨gd, i, none⟩ = some (.int .i64 (decP q fl Nn Fn y g i)) := by
                        rw [hbd.cell]; have := hcd i hli 0 (by omega); rwa [Nat.mul_one, Nat.add_zero] at this
                      obtain ⟨dv, hdv⟩ : ∃ dv, decP q fl Nn Fn y g i = dv := ⟨_, rfl⟩
                      have HYN : Hid (yesP q fl Nn Fn row (g + 1) i = yesP q fl Nn Fn row g i + if dv = 1 then 1 else 0) := Lib.hid (by rw [yesP_succ, HYV.out, hdv])
                      rw [hdv] at dd
                      obtain ⟨yo, hyo2⟩ : ∃ yo, yesP q fl Nn Fn row g i = yo := ⟨_, rfl⟩
                      have hyle := yesP_le q fl Nn Fn row g i
                      rw [hyo2] at HYN hyle
                      obtain ⟨hy1, hy2⟩ := hyle
                      have yy : wr.cell? ⟨yb, i, none⟩ = some (.int .i64 yo) := by rw [hs.out.2.2.1.cell, intA_get _ _ _ hli, if_neg (Nat.lt_irrefl i), hyo2]
                      have yf := hs.out.2.2.1.free i
                      have HYO := Lib.hid hyo2
                      clear hdv hyo2
                      by_cases hd1 : dv = 1
                      case pos =>
                        subst hd1
                        have HST : Hid (∃ i'' : Nat, i'' ≤ Nn ∧ Value.int .i64 ((i : Int) + 1) = .int .i64 i'' ∧ Hid (CutS w kb ob Nn Fn Af nf cf (.map (some M)) (cutP l fl Nn Fn vs j) (wr.setCell ⟨yb, i, none⟩ (.int .i64 (yo + 1))) ∧ KnowAt (wr.setCell ⟨yb, i, none⟩ (.int .i64 (yo + 1))) M q ∧ Bk (wr.setCell ⟨yb, i, none⟩ (.int .i64 (yo + 1))) yb 3 (intA Nn fun i' => if i' < i'' then yesP q fl Nn Fn row (g + 1) i' else yesP q fl Nn Fn row g i') ∧ Cl (wr.setCell ⟨yb, i, none⟩ (.int .i64 (yo + 1))) B2 3 1 (some ⟨gd, 0, none⟩) Nn (fun i _ => .int .i64 (decP q fl Nn Fn y g i)))) := Lib.hid (by
                          have ho := Only.setCell wr yb i (.int .i64 (yo + 1))
                          refine ⟨i + 1, by omega, by go_num, Lib.hid ⟨hs.out.1.only ho (by omega) (by omega), hs.out.2.1.keep (ho.block M (by omega)), ?_, ⟨hs.out.2.2.2.1, fun _ => ⟨gd, cur, rfl, hgd, hbd.only ho (by omega), hcd⟩⟩⟩⟩
                          have e : intA Nn (fun i' => if i' < i + 1 then yesP q fl Nn Fn row (g + 1) i' else yesP q fl Nn Fn row g i') = (intA Nn fun i' => if i' < i then yesP q fl Nn Fn row (g + 1) i' else yesP q fl Nn Fn row g i').setIfInBounds i (.int .i64 (yo + 1)) := by
                            rw [intA_set]
                            refine intA_congr fun i' hi' => ?_
                            by_cases e1 : i' = i
                            · subst e1; rw [if_pos (Nat.lt_succ_self _), if_pos rfl, HYN.out, if_pos rfl]
                            · rw [if_neg e1]
                              by_cases e2 : i' < i
                              · rw [if_pos e2, if_pos (by omega)]
                              · rw [if_neg e2, if_neg (by omega)]
                          rw [e]
                          exact hs.out.2.2.1.set i _)
                        go_wp2_with fail
                        go_roundw
                        case rel => first | exact HST.out | ((repeat apply Exists.intro); exact ⟨HST.out, rfl⟩)
                        case measure => simp [intOf]; omega
                      case neg =>
                        have hdb : (dv == 1) = false := by simp [hd1]
                        have HST : Hid (∃ i'' : Nat, i'' ≤ Nn ∧ Value.int .i64 ((i : Int) + 1) = .int .i64 i'' ∧ Hid (CutS w kb ob Nn Fn Af nf cf (.map (some M)) (cutP l fl Nn Fn vs j) wr ∧ KnowAt wr M q ∧ Bk wr yb 3 (intA Nn fun i' => if i' < i'' then yesP q fl Nn Fn row (g + 1) i' else yesP q fl Nn Fn row g i') ∧ Cl wr B2 3 1 (some ⟨gd, 0, none⟩) Nn (fun i _ => .int .i64 (decP q fl Nn Fn y g i)))) := Lib.hid (by
                          refine ⟨i + 1, by omega, by go_num, Lib.hid ⟨hs.out.1, hs.out.2.1, ?_, ⟨hs.out.2.2.2.1, fun _ => ⟨gd, cur, rfl, hgd, hbd, hcd⟩⟩⟩⟩
                          have e : intA Nn (fun i' => if i' < i + 1 then yesP q fl Nn Fn row (g + 1) i' else yesP q fl Nn Fn row g i') = (intA Nn fun i' => if i' < i then yesP q fl Nn Fn row (g + 1) i' else yesP q fl Nn Fn row g i') := by
                            refine intA_congr fun i' hi' => ?_
                            by_cases e1 : i' = i
                            · subst e1; rw [if_pos (Nat.lt_succ_self _), if_neg (Nat.lt_irrefl _), HYN.out, if_neg hd1, HYO.out, Int.add_zero]
                            · by_cases e2 : i' < i
                              · rw [if_pos e2, if_pos (by omega)]
                              · rw [if_neg e2, if_neg (by omega)]
                          rw [e]
                          exact hs.out.2.2.1)
                        go_wp2_with fail
                        go_roundw
                        case rel => first | exact HST.out | ((repeat apply Exists.intro); exact ⟨HST.out, rfl⟩)
                        case measure => simp [intOf]; omega
                case neg =>
                  obtain rfl : Nn = g := by omega
                  have HS3 : Hid (CutS w kb ob Nn Fn Af nf cf (.map (some M)) (fun i' => if i' < 0 then cutP l fl Nn Fn vs (j + 1) i' else cutP l fl Nn Fn vs j i') wr) := Lib.hid (hs.out.1.congr fun i _ => (if_neg (Nat.not_lt_zero i)).symm)
                  have HY3 := Lib.hid hs.out.2.2
                  clear hs
                  go_wp2_with fail
                  go_loopw [98] (fun iv wr => ∃ i : Nat, i ≤ Nn ∧ iv = .int .i64 i ∧ Hid (CutS w kb ob Nn Fn Af nf cf (.map (some M)) (fun i' => if i' < i then cutP l fl Nn Fn vs (j + 1) i' else cutP l fl Nn Fn vs j i') wr ∧ Bk wr yb 3 (intA Nn (yesP q fl Nn Fn row Nn)))) (fun iv _ => Nn - (intOf iv).toNat)
                  case atStart => exact ⟨0, Nat.zero_le _, rfl, Lib.hid ⟨HS3.out, HY3.out⟩⟩
                  case round =>
                    obtain ⟨i, hi, rfl, hs⟩ := hrel
                    by_cases hli : i < Nn
                    case neg =>
                      obtain rfl : Nn = i := by omega
                      have HE : Hid (CutS w kb ob Nn Fn Af nf cf (.map (some M)) (cutP l fl Nn Fn vs (j + 1)) wr) := Lib.hid (hs.out.1.congr fun i' hi' => if_pos hi')
                      go_wp2_with fail
                      go_roundw
                      case rel => first | exact ⟨j + 1, by omega, by go_num, Lib.hid ⟨_, HE.out⟩⟩ | ((repeat apply Exists.intro); exact ⟨⟨j + 1, by omega, by go_num, Lib.hid ⟨_, HE.out⟩⟩, rfl⟩)
                      case measure => simp [intOf]; omega
                    case pos =>
                      have hii : (i : Int) < (Nn : Int) := by omega
                      have h0i : (0 : Int) ≤ (i : Int) := by omega
                      obtain ⟨old, hold⟩ : ∃ old, cutP l fl Nn Fn vs j i = old := ⟨_, rfl⟩
                      obtain ⟨ys, hys⟩ : ∃ ys, yesP q fl Nn Fn row Nn i = ys := ⟨_, rfl⟩
                      have HCN : Hid (cutP l fl Nn Fn vs (j + 1) i = if old < 0 ∧ (Fn : Int) < ys ∧ hasB fl i = false then (j : Int) else old) := Lib.hid (by
                        rw [HNXT.out, hold]
                        unfold frameP
                        rw [HQ.out, hys])
                      have HOLD := Lib.hid hold
                      have oo : wr.cell? ⟨ob, i, none⟩ = some (.int .i64 old) := by rw [hs.out.1.out.cell, intA_get _ _ _ hli, if_neg (Nat.lt_irrefl i), hold]
                      have yy : wr.cell? ⟨yb, i, none⟩ = some (.int .i64 ys) := by rw [hs.out.2.cell, intA_get _ _ _ hli, hys]
                      have b1 : wr.cell? ⟨kb, 1, none⟩ = some (.int .i64 Fn) := hs.out.1.box.cell 1
                      have c0 : wr.cell? ⟨kb + 1, 0, none⟩ = some (.int .i64 Nn) := hs.out.1.con.cell 0
                      have c1 : wr.cell? ⟨kb + 1, 1, none⟩ = some (.int .i64 Fn) := hs.out.1.con.cell 1
                      have c2 : wr.cell? ⟨kb + 1, 2, none⟩ = some (.slice Af nf cf) := hs.out.1.con.cell 2
                      have c3 : wr.cell? ⟨kb + 1, 3, none⟩ = some (.map (some M)) := hs.out.1.con.cell 3
                      have HFA := Lib.hid (faulty_any wr Nn Fn i Af cf fl (.map (some M)) (Sl.mono (Sl.below HF.out (by rw [HKB.out]; exact hs.out.1.bel)) (by have := hs.out.1.bel.size; exact this)))
                      rw [HNF.out] at HFA
                      have HST0 : Hid (∀ w', Below wr.heap.size wr w' → cutP l fl Nn Fn vs (j + 1) i = old → ∃ i'' : Nat, i'' ≤ Nn ∧ Value.int .i64 ((i : Int) + 1) = .int .i64 i'' ∧ Hid (CutS w kb ob Nn Fn Af nf cf (.map (some M)) (fun i' => if i' < i'' then cutP l fl Nn Fn vs (j + 1) i' else cutP l fl Nn Fn vs j i') w' ∧ Bk w' yb 3 (intA Nn (yesP q fl Nn Fn row Nn)))) := Lib.hid fun w' hb he => by
                        refine ⟨i + 1, by omega, by go_num, Lib.hid ⟨(hs.out.1.below hb).congr fun i' hi' => ?_, hs.out.2.below hb hs.out.2.lt⟩⟩
                        by_cases e1 : i' = i
                        · subst e1; rw [if_neg (Nat.lt_irrefl _), if_pos (Nat.lt_succ_self _), he, HOLD.out]
                        · by_cases e2 : i' < i
                          · rw [if_pos e2, if_pos (by omega)]
                          · rw [if_neg e2, if_neg (by omega)]
                      have HST1 : Hid (∀ w', Below wr.heap.size wr w' → cutP l fl Nn Fn vs (j + 1) i = j → ∃ i'' : Nat, i'' ≤ Nn ∧ Value.int .i64 ((i : Int) + 1) = .int .i64 i'' ∧ Hid (CutS w kb ob Nn Fn Af nf cf (.map (some M)) (fun i' => if i' < i'' then cutP l fl Nn Fn vs (j + 1) i' else cutP l fl Nn Fn vs j i') (w'.setCell ⟨ob, i, none⟩ (.int .i64 j)) ∧ Bk (w'.setCell ⟨ob, i, none⟩ (.int .i64 j)) yb 3 (intA Nn (yesP q fl Nn Fn row Nn)))) := Lib.hid fun w' hb he => by
                        refine ⟨i + 1, by omega, by go_num, Lib.hid ⟨((hs.out.1.below hb).put hkob i j).congr fun i' hi' => ?_, (hs.out.2.below hb hs.out.2.lt).far (p := ⟨ob, i, none⟩) (by show yb ≠ ob; omega) _⟩⟩
                        show (if i' = i then (j : Int) else if i' < i then cutP l fl Nn Fn vs (j + 1) i' else cutP l fl Nn Fn vs j i') = _
                        by_cases e1 : i' = i
                        · subst e1; rw [if_pos rfl, if_pos (Nat.lt_succ_self _), he]
                        · rw [if_neg e1]
                          by_cases e2 : i' < i
                          · rw [if_pos e2, if_pos (by omega)]
                          · rw [if_neg e2, if_neg (by omega)]
                      have HOB2 := Lib.hid hs.out.1.out
                      clear hold hys
                      by_cases h1 : old < 0
                      case neg =>
                        have h1d : decide (old < 0) = false := decide_eq_false h1
                        have HE := Lib.hid (HST0.out wr (Below.refl _ _) (by rw [HCN.out, if_neg (fun h => h1 h.1)]))
                        go_wp2_with fail
                        go_roundw
                        case rel => first | exact HE.out | ((repeat apply Exists.intro); exact ⟨HE.out, rfl⟩)
                        case measure => simp [intOf]; omega
                      case pos =>
                        have h1d : decide (old < 0) = true := decide_eq_true h1
                        by_cases h2 : (Fn : Int) < ys
                        case neg =>
                          have h2d : decide ((Fn : Int) < ys) = false := decide_eq_false h2
                          have HE := Lib.hid (HST0.out wr (Below.refl _ _) (by rw [HCN.out, if_neg (fun h => h2 h.2.1)]))
                          go_wp2_with fail
                          go_roundw
                          case rel => first | exact HE.out | ((repeat apply Exists.intro); exact ⟨HE.out, rfl⟩)
                          case measure => simp [intOf]; omega
                        case pos =>
                          have h2d : decide ((Fn : Int) < ys) = true := decide_eq_true h2
                          go_wp2_with fail
                          refine HFA.out.mono ?_
                          rintro e w11 ⟨rfl, hb11⟩
                          have HB11 := Lib.hid hb11
                          have oo11 : w11.cell? ⟨ob, i, none⟩ = some (.int .i64 old) := (hb11.cell (p := ⟨ob, i, none⟩) HOB2.out.lt).trans oo
                          have of11 : w11.frozen? ⟨ob, i, none⟩ = false := (hb11.frozen (p := ⟨ob, i, none⟩) HOB2.out.lt).trans (HOB2.out.free i)
                          clear hb11 c0 c1 c2 c3 b1 yy oo
                          cases hh : hasB fl i with
                          | true =>
                            have HE := Lib.hid (HST0.out w11 HB11.out (by rw [HCN.out, if_neg (fun h => by have := h.2.2; rw [hh] at this; cases this)]))
                            clear hh
                            go_wp2_with fail
                            go_roundw
                            case rel => first | exact HE.out | ((repeat apply Exists.intro); exact ⟨HE.out, rfl⟩)
                            case measure => simp [intOf]; omega
                          | false =>
                            have HE := Lib.hid (HST1.out w11 HB11.out (by rw [HCN.out, if_pos ⟨h1, h2, hh⟩]))
                            clear hh
                            go_wp2_with fail
                            go_roundw
                            case rel => first | exact HE.out | ((repeat apply Exists.intro); exact ⟨HE.out, rfl⟩)
                            case measure => simp [intOf]; omega
end Go.Proofs.Ytnmccbjdfdbgpaa
/- What is proved: a contract of readings. Conditions: the numbers lie in memory; they are few. -/
namespace Go.Proofs.Ytnmccbjdfdbgpaa
open Go.RowKit

theorem infoRd : (Try.prog.info? 30).map (fun i => (i.zero, i.size, i.bytes)) = some (some (.agg #[.int .i64 0, .bool false]), 2, 16) := by kernel_rfl
def thereL (l : List Int) : List RdD := l.map fun x => ⟨x, true⟩
theorem thereL_at (l : List Int) (i : Nat) (h : i < l.length) : (thereL l).getD i rd0 = ⟨getI l i, true⟩ := by
  unfold thereL getI
  simp [List.getD_eq_getElem?_getD, h]
def rowsT (l : List Int) (k : Nat) : List Value := rowsL k 2 fun i => rdC ((thereL l).getD i rd0)
theorem rowsT_succ (l : List Int) (k : Nat) (h : k < l.length) : rowsT l (k + 1) = rowsT l k ++ [.int .i64 (getI l k), .bool true] := by
  unfold rowsT
  rw [rowsL_succ _ _ (by omega), thereL_at l k h]
  rfl
set_option maxRecDepth 100000 in
set_option maxHeartbeats 8000000 in
theorem readings_any (w : World) (A : Option Addr) (c : Nat) (l : List Int) (h : IntsAt w w.heap.size A l) (hl : l.length ≤ 4096) :
    Calls Try.prog 43 #[.slice A l.length c] w fun e w' => ∃ A' c', e = .returned (.slice A' l.length c') ∧ Cl w' w.heap.size 30 2 A' l.length (fun i => rdC ((thereL l).getD i rd0)) ∧ Below w.heap.size w w' := by
  have HL := Lib.hid h
  have hll := h.1
  obtain ⟨n, hn⟩ : ∃ n, l.length = n := ⟨_, rfl⟩
  have HN := Lib.hid hn
  obtain ⟨i0, hi, hz0, hz1, hz2⟩ := info_parts infoRd
  obtain ⟨JP, hJP⟩ : ∃ JP, (fun (e : Ending) (w' : World) => ∃ A' c', e = Ending.returned (.slice A' l.length c') ∧ Cl w' w.heap.size 30 2 A' l.length (fun i => rdC ((thereL l).getD i rd0)) ∧ Below w.heap.size w w') = JP := ⟨_, rfl⟩
  have HFIN : Hid (∀ v w', w'.ownsRow w.heap.size 30 2 v n (rowsT l n) → Below w.heap.size w w' → JP (.returned v) w') := Lib.hid fun v w' h1 h2 => by
    rw [← hJP]
    rw [← hn] at h1
    obtain ⟨A', c', rfl, h3⟩ := Cl.of_own hl h1
    exact ⟨A', c', rfl, h3, h2⟩
  rw [hJP]
  rw [hn] at hll hl ⊢
  clear h hn hJP
  go_enter Try.func43, Try.ntmps43
  go_wp2_with fail
  go_loopw [3, 4] (fun v i wr => ∃ k : Nat, k ≤ n ∧ i = .int .i64 k ∧ Hid (Below w.heap.size w wr ∧ wr.ownsRow w.heap.size 30 2 v k (rowsT l k))) (fun _ i _ => n - (intOf i).toNat)
  case atStart => exact ⟨0, Nat.zero_le _, rfl, Lib.hid ⟨Below.refl _ _, World.ownsRow_nil _ _ _ _⟩⟩
  case round =>
    obtain ⟨k, hk, rfl, hs⟩ := hrel
    by_cases hlt : k < n
    · have hki : (k : Int) < (n : Int) := by omega
      have h0k : (0 : Int) ≤ (k : Int) := by omega
      have hlt' : k < l.length := by rw [HN.out]; exact hlt
      obtain ⟨b, off, rfl, _, d0⟩ := Sl.at1 (Sl.below HL.out hs.out.1) hlt'
      obtain ⟨x, hx⟩ : ∃ x, getI l k = x := ⟨_, rfl⟩
      have HSN : Hid (rowsT l (k + 1) = rowsT l k ++ [.int .i64 x, .bool true]) := Lib.hid (by rw [rowsT_succ l k hlt', hx])
      try dsimp only at d0
      rw [hx] at d0
      have hown := hs.out.2
      have hsz := hs.out.1.size
      clear hx
      go_wp2_with (at_builtin; refine wpList_append_own _ rfl _ _ 22 rfl w.heap.size 30 i0 (.agg #[.int .i64 0, .bool false]) 2 16 Try.underlying22 hi hz0 hz1 hz2 rfl (by decide) _ _ _ rfl (hown.alloc _) ⟨wr.heap.size, 0, none⟩ 1 1 [.int .i64 x, .bool true] rfl rfl ?qc2 ?qc3 ?qc4 ?qc5 ?qc6 ?_)
      case qc2 => intro j u hj; match j, hj with | 0, hj => simp at hj; subst hj; simp [Addr.add] | 1, hj => simp at hj; subst hj; simp [Addr.add]
      case qc3 => intro u hu; simp at hu; rcases hu with rfl | rfl <;> rfl
      case qc4 => unfold maxLen; omega
      case qc5 => omega
      case qc6 => simp; omega
      intro v' w2 hown' hgrow _
      have HB2 : Hid (Below w.heap.size w w2) := Lib.hid (by
        have h1 := hs.out.1.trans (((Below.refl _ wr).alloc (Nat.le_refl _) (.cells #[.int .i64 x, .bool true] 30)).mono hs.out.1.size)
        exact h1.grown hgrow h1.size fun g hg => ((hown.alloc (.cells #[] 0)).lt g hg).1)
      have HO2 : Hid (w2.ownsRow w.heap.size 30 2 v' (k + 1) (rowsT l (k + 1))) := Lib.hid (by rw [HSN.out]; exact hown')
      clear hgrow hown' hown d0
      go_wp2_with fail
      go_roundw
      case rel => exact ⟨k + 1, by omega, by go_num, Lib.hid ⟨HB2.out, HO2.out⟩⟩
      case measure => simp [intOf]; omega
    · obtain rfl : k = n := by omega
      go_wp2_with fail
      exact HFIN.out _ _ hs.out.2 hs.out.1
end Go.Proofs.Ytnmccbjdfdbgpaa
/- What is proved: closed facts: what a voter, schedules, an agreement, a cut-off and a midpoint are at the examples. Conditions: none. -/
namespace Go.Proofs.Ytnmccbjdfdbgpaa

def exR : List RdD := thereL [5, 6, 50]
def exV0 : VotD := newV 3 2 1
def exV1 : VotD := (voteB exV0 exR).2
def exV2 : VotD := (voteB exV1 exR).2
/-- A round, its value by counting. -/
def voteN (V : VotD) (l : List RdD) : (Int × Int) × VotD :=
  if ¬ l.length = V.n then ((0, 2), V)
  else if ¬ (allN l.length fun i => !rdBad (rdAt l i)) = true then ((0, 4), V)
  else if valsK V l l.length = [] then ((0, 7), V)
  else ((nthB (valsK V l l.length) (((valsK V l l.length).length - 1) / 2), 0), (dropK (cntK V l (nthB (valsK V l l.length) (((valsK V l l.length).length - 1) / 2)) l.length) (cntB V.live l.length) l.length).1)
theorem voteB_n (V : VotD) (l : List RdD) : voteB V l = voteN V l := by
  unfold voteB voteN
  by_cases h1 : ¬ l.length = V.n
  · rw [if_pos h1, if_pos h1]
  · rw [if_neg h1, if_neg h1]
    by_cases h2 : ¬ (allN l.length fun i => !rdBad (rdAt l i)) = true
    · rw [if_pos h2, if_pos h2]
    · rw [if_neg h2, if_neg h2]
      by_cases h : valsK V l l.length = []
      · rw [if_pos h, if_pos h]
      · rw [if_neg h, if_neg h]
        have hl : 0 < (valsK V l l.length).length := List.length_pos_iff.2 h
        have e : valueB V l = nthB (valsK V l l.length) (((valsK V l l.length).length - 1) / 2) := by
          unfold valueB
          exact (nthB_eq (by omega)).symm
        rw [e]
theorem ex_vote : (voteB exV0 exR).1 = (6, 0) := by rw [voteB_n]; kernel_rfl
theorem ex_v1 : exV1 = (voteN exV0 exR).2 := by unfold exV1; rw [voteB_n]
theorem ex_v2 : exV2 = (voteN (voteN exV0 exR).2 exR).2 := by unfold exV2; rw [voteB_n, ex_v1]
theorem ex_live : exV2.n = 3 ∧ exV2.live 1 = true ∧ exV2.live 2 = false := by rw [ex_v2]; exact ⟨by kernel_rfl, by kernel_rfl, by kernel_rfl⟩
def exM1 : List MsgD := [⟨⟨#[97]⟩, 1, 2, 2⟩, ⟨⟨#[98]⟩, 2, 4, 4⟩]
def exM2 : List MsgD := [⟨⟨#[97]⟩, 2, 2, 2⟩, ⟨⟨#[98]⟩, 1, 4, 4⟩]
theorem ex_sched1 : schedB exM1 = ([0, 1, 0, 1], (0, 0), 0) := by kernel_rfl
theorem ex_sched2 : schedB exM2 = ([], (0, 4), 7) := by kernel_rfl
def exL : List LieD := [⟨0, [0], 1, 7⟩, ⟨0, [0], 2, 7⟩, ⟨0, [0], 3, 9⟩]
theorem ex_agree : agreeB 4 1 [0] 0 0 exL = ([0, 7, 7, 7], 0) := by kernel_rfl
theorem ex_cut : cutB 4 1 [0] [[0, 1, 0, 0], [0, 1, 1, 0]] [] = ([-1, 1, 1, 1], 0) := by kernel_rfl
theorem ex_mid : midpB [5, 1, 9, 2] 1 = (3, 0) := by
  have e1 : getI (sortB [5, 1, 9, 2]) 1 = 2 := (nthB_eq (l := [5, 1, 9, 2]) (m := 1) (by decide)).symm.trans (by kernel_rfl)
  have e2 : getI (sortB [5, 1, 9, 2]) 2 = 5 := (nthB_eq (l := [5, 1, 9, 2]) (m := 2) (by decide)).symm.trans (by kernel_rfl)
  have e3 : midB [5, 1, 9, 2] 1 = 3 := by
    show (getI (sortB [5, 1, 9, 2]) 1 + getI (sortB [5, 1, 9, 2]) 2) / 2 = 3
    rw [e1, e2]; decide
  show (midB [5, 1, 9, 2] 1, (0 : Int)) = (3, 0)
  rw [e3]
end Go.Proofs.Ytnmccbjdfdbgpaa
/- What is proved: awake returns true, and makes only memory. Conditions: none. -/
namespace Go.Proofs.Ytnmccbjdfdbgpaa
open Go.RowKit

theorem cells2 : Try.prog.cellsOf 23 = 2 := by kernel_rfl
theorem keyLits2 (d : Nat) (a b : Int) (ha : wf64 a) (hb : wf64 b) : Try.prog.keyLits (d + 1 + 1) 23 [.int .i64 a, .int .i64 b] = some [.int .i64 a, .int .i64 b] := by
  unfold wf64 at ha hb
  conv => lhs; unfold Program.keyLits
  simp [cells2, cellsI64, List.range, List.range.loop, Program.keyLits, ha, hb]
theorem formed2 (a b : Int) : (Value.agg #[.int .i64 a, .int .i64 b]).formed Try.prog 23 = true := by
  unfold Value.formed
  rw [und2]
  simp [cells2]
theorem run_eq2 (a b c d : Int) (ha : wf64 a) (hb : wf64 b) (hc : wf64 c) (hd : wf64 d) (w : World) : (Op.equalIn 10000 23 (.agg #[.int .i64 a, .int .i64 b]) (.agg #[.int .i64 c, .int .i64 d])).run Try.prog w = .ok (decide (a = c ∧ b = d)) w := by
  obtain ⟨r, h1, h2⟩ := run_equalIn_deep (P := Try.prog) 9998 2 23 (by kernel_rfl) w 2 2 (.agg #[.int .i64 a, .int .i64 b]) (.agg #[.int .i64 c, .int .i64 d]) [.int .i64 a, .int .i64 b] [.int .i64 c, .int .i64 d] (formed2 a b) (formed2 c d) (keyLits2 0 a b ha hb) (keyLits2 0 c d hc hd)
  have e : (Op.equalIn 10000 23 (.agg #[.int .i64 a, .int .i64 b]) (.agg #[.int .i64 c, .int .i64 d])).run Try.prog w = .ok r w := h1
  rw [e]
  have : r = decide (a = c ∧ b = d) := by
    rw [Bool.eq_iff_iff, h2, decide_eq_true_eq]
    simp
  rw [this]
theorem ints_new (w : World) (l : List Int) (cs : Array Value) (h : cs = (l.map (Value.int .i64)).toArray) (hl : l.length ≤ 4096) : IntsAt (w.alloc (.cells cs 3)) (w.alloc (.cells cs 3)).heap.size (some ⟨w.heap.size, 0, none⟩) l := by
  subst h
  refine ⟨by omega, fun _ => ⟨w.heap.size, 0, rfl, by rw [World.size_alloc]; exact Nat.lt_succ_self _, fun i hi j hj => ?_⟩⟩
  obtain rfl : j = 0 := by omega
  rw [(Bk.new w 3 _).cell]
  simp [getI, hi, List.getD_eq_getElem?_getD]
theorem ChgV.to_below {X : VotX} {a b : World} {n₀ : Nat} (h : ChgV X a b) (h1 : n₀ ≤ X.lb) (h2 : n₀ ≤ X.cb) (h3 : n₀ ≤ a.heap.size) : Below n₀ a b := ⟨h.os, h.tape, h.output, h.size, fun k hk => h.block k (by omega) (by omega) (by omega)⟩
theorem Cl.rds {w : World} {B : Nat} {A : Option Addr} {l : List RdD} {n : Nat} (hn : l.length = n) (h : Cl w B 30 2 A n (fun i => rdC (l.getD i rd0))) : RdsAt w w.heap.size A l := by
  subst hn; exact h.sl
theorem Cl.off {w : World} {B : Nat} {X : VotX} {A : Option Addr} {l : List RdD} {n : Nat} (hn : 0 < n) (h : Cl w B 30 2 A n (fun i => rdC (l.getD i rd0))) (h1 : X.lb < B) (h2 : X.cb < B) : RdsOff X A := by
  intro b off e
  obtain ⟨g, cur, e2, hg, _⟩ := h.2 hn
  rw [e] at e2
  simp only [Option.some.injEq, Addr.mk.injEq] at e2
  omega
theorem below_al {n₀ : Nat} {a w : World} (h : Below n₀ a w) (hn : n₀ ≤ a.heap.size) (o : Obj) : Below n₀ a (w.alloc o) := h.alloc (Nat.le_trans hn h.size) o
theorem sl_new (w : World) (t : TypeId) (n k : Nat) (f : Nat → Nat → Value) (cs : Array Value) (h : cs = (rowsL n k f).toArray) (hn : n ≤ 4096) : Sl (w.alloc (.cells cs t)) (w.alloc (.cells cs t)).heap.size k (some ⟨w.heap.size, 0, none⟩) n f := by
  subst h
  refine ⟨by omega, fun _ => ⟨w.heap.size, 0, rfl, by rw [World.size_alloc]; exact Nat.lt_succ_self _, fun i hi j hj => ?_⟩⟩
  rw [Nat.zero_add, (Bk.new w t _).cell]
  have := rowsL_get n k f i j hi hj
  simpa using this
theorem sl_newAt (w : World) (t : TypeId) (n k : Nat) (f : Nat → Nat → Value) (cs : Array Value) (g : Nat) (hg : g = w.heap.size) (h : cs = (rowsL n k f).toArray) (hn : n ≤ 4096) : Sl (w.alloc (.cells cs t)) (w.alloc (.cells cs t)).heap.size k (some ⟨g, 0, none⟩) n f := by
  subst hg; exact sl_new w t n k f cs h hn
theorem ints_at (w : World) (l : List Int) (cs : Array Value) (g : Nat) (hg : g = w.heap.size) (h : cs = (l.map (Value.int .i64)).toArray) (hl : l.length ≤ 4096) : IntsAt (w.alloc (.cells cs 3)) (w.alloc (.cells cs 3)).heap.size (some ⟨g, 0, none⟩) l := by
  subst hg; exact ints_new w l cs h hl
theorem ints_bk {W : World} {b : Nat} {l : List Int} {cs : Array Value} (h : Bk W b 3 cs) (hc : cs = (l.map (Value.int .i64)).toArray) (hl : l.length ≤ 4096) : IntsAt W W.heap.size (some ⟨b, 0, none⟩) l := by
  subst hc
  refine ⟨by omega, fun _ => ⟨b, 0, rfl, h.lt, fun i hi j hj => ?_⟩⟩
  obtain rfl : j = 0 := by omega
  rw [h.cell]
  simp [getI, hi, List.getD_eq_getElem?_getD]
/-- The world ahead of Agree. -/
def exW (w : World) : World :=
  ((((((w.alloc (.cells #[.int .i64 0, .int .i64 4] 23)).alloc (.cells #[.int .i64 0] 3)).alloc (.cells #[.int .i64 4, .int .i64 1, .slice (some ⟨w.heap.size + 1, 0, none⟩) 1 1] 48)).alloc (.cells #[.int .i64 0] 3)).alloc (.cells #[.int .i64 0] 3)).alloc (.cells #[.int .i64 0] 3)).alloc
    (.cells #[.int .i64 0, .slice (some ⟨w.heap.size + 1 + 1 + 1, 0, none⟩) 1 1, .int .i64 1, .int .i64 7, .int .i64 0, .slice (some ⟨w.heap.size + 1 + 1 + 1 + 1, 0, none⟩) 1 1, .int .i64 2, .int .i64 7, .int .i64 0, .slice (some ⟨w.heap.size + 1 + 1 + 1 + 1 + 1, 0, none⟩) 1 1, .int .i64 3, .int .i64 9] 86)
theorem exW_below (w : World) : Below w.heap.size w (exW w) := below_al (below_al (below_al (below_al (below_al (below_al (below_al (Below.refl _ w) (Nat.le_refl _) _) (Nat.le_refl _) _) (Nat.le_refl _) _) (Nat.le_refl _) _) (Nat.le_refl _) _) (Nat.le_refl _) _) (Nat.le_refl _) _
theorem exW_0 (w : World) : Bk (exW w) w.heap.size 23 #[.int .i64 0, .int .i64 4] := ((((((Bk.new _ _ _).alloc _).alloc _).alloc _).alloc _).alloc _).alloc _
theorem exW_1 (w : World) : Bk (exW w) (w.heap.size + 1) 3 #[.int .i64 0] := (((((Bk.newAt _ _ _ _ (by simp)).alloc _).alloc _).alloc _).alloc _).alloc _
theorem exW_2 (w : World) : Bk (exW w) (w.heap.size + 1 + 1) 48 #[.int .i64 4, .int .i64 1, .slice (some ⟨w.heap.size + 1, 0, none⟩) 1 1] := ((((Bk.newAt _ _ _ _ (by simp)).alloc _).alloc _).alloc _).alloc _
theorem exW_3 (w : World) : Bk (exW w) (w.heap.size + 1 + 1 + 1) 3 #[.int .i64 0] := (((Bk.newAt _ _ _ _ (by simp)).alloc _).alloc _).alloc _
theorem exW_4 (w : World) : Bk (exW w) (w.heap.size + 1 + 1 + 1 + 1) 3 #[.int .i64 0] := ((Bk.newAt _ _ _ _ (by simp)).alloc _).alloc _
theorem exW_5 (w : World) : Bk (exW w) (w.heap.size + 1 + 1 + 1 + 1 + 1) 3 #[.int .i64 0] := (Bk.newAt _ _ _ _ (by simp)).alloc _
theorem exW_6 (w : World) : Bk (exW w) (w.heap.size + 1 + 1 + 1 + 1 + 1 + 1) 86 #[.int .i64 0, .slice (some ⟨w.heap.size + 1 + 1 + 1, 0, none⟩) 1 1, .int .i64 1, .int .i64 7, .int .i64 0, .slice (some ⟨w.heap.size + 1 + 1 + 1 + 1, 0, none⟩) 1 1, .int .i64 2, .int .i64 7, .int .i64 0, .slice (some ⟨w.heap.size + 1 + 1 + 1 + 1 + 1, 0, none⟩) 1 1, .int .i64 3, .int .i64 9] := Bk.newAt _ _ _ _ (by simp)
theorem exW_lies (w : World) : LiesAt (exW w) (exW w).heap.size (some ⟨w.heap.size + 1 + 1 + 1 + 1 + 1 + 1, 0, none⟩) exL := by
  refine ⟨⟨fun i => some ⟨w.heap.size + 1 + 1 + 1 + i, 0, none⟩, fun _ => 1, ⟨by decide, fun _ => ⟨_, 0, rfl, (exW_6 w).lt, fun i hi j hj => ?_⟩⟩, fun i hi => ?_⟩, fun i hi => ?_⟩
  · rw [(exW_6 w).cell]
    match i, hi, j, hj with
    | 0, _, 0, _ => rfl
    | 0, _, 1, _ => rfl
    | 0, _, 2, _ => rfl
    | 0, _, 3, _ => rfl
    | 1, _, 0, _ => rfl
    | 1, _, 1, _ => rfl
    | 1, _, 2, _ => rfl
    | 1, _, 3, _ => rfl
    | 2, _, 0, _ => rfl
    | 2, _, 1, _ => rfl
    | 2, _, 2, _ => rfl
    | 2, _, 3, _ => rfl
  · match i, hi with
    | 0, _ => exact ints_bk (l := [0]) (exW_3 w) rfl (by decide)
    | 1, _ => exact ints_bk (l := [0]) (exW_4 w) rfl (by decide)
    | 2, _ => exact ints_bk (l := [0]) (exW_5 w) rfl (by decide)
  · match i, hi with
    | 0, _ => exact wf64_of (by decide) (by decide)
    | 1, _ => exact wf64_of (by decide) (by decide)
    | 2, _ => exact wf64_of (by decide) (by decide)
/-- The world ahead of CutOff. -/
def exC (w : World) : World :=
  ((w.alloc (.cells #[.int .i64 0, .int .i64 1, .int .i64 0, .int .i64 0] 3)).alloc (.cells #[.int .i64 0, .int .i64 1, .int .i64 1, .int .i64 0] 3)).alloc (.cells #[.slice (some ⟨w.heap.size, 0, none⟩) 4 4, .slice (some ⟨w.heap.size + 1, 0, none⟩) 4 4] 36)
theorem exC_below (w : World) : Below w.heap.size w (exC w) := below_al (below_al (below_al (Below.refl _ w) (Nat.le_refl _) _) (Nat.le_refl _) _) (Nat.le_refl _) _
theorem exC_rows (w : World) : RowsAt (exC w) (exC w).heap.size (some ⟨w.heap.size + 1 + 1, 0, none⟩) [[0, 1, 0, 0], [0, 1, 1, 0]] := by
  have k0 : Bk (exC w) w.heap.size 3 #[.int .i64 0, .int .i64 1, .int .i64 0, .int .i64 0] := ((Bk.new _ _ _).alloc _).alloc _
  have k1 : Bk (exC w) (w.heap.size + 1) 3 #[.int .i64 0, .int .i64 1, .int .i64 1, .int .i64 0] := (Bk.newAt _ _ _ _ (by simp)).alloc _
  have k2 : Bk (exC w) (w.heap.size + 1 + 1) 36 #[.slice (some ⟨w.heap.size, 0, none⟩) 4 4, .slice (some ⟨w.heap.size + 1, 0, none⟩) 4 4] := Bk.newAt _ _ _ _ (by simp)
  refine ⟨⟨fun i => some ⟨w.heap.size + i, 0, none⟩, fun _ => 4, ⟨by decide, fun _ => ⟨_, 0, rfl, k2.lt, fun i hi j hj => ?_⟩⟩, fun i hi => ?_⟩⟩
  · obtain rfl : j = 0 := by omega
    rw [k2.cell]
    match i, hi with
    | 0, _ => rfl
    | 1, _ => rfl
  · match i, hi with
    | 0, _ => exact ints_bk (l := [0, 1, 0, 0]) k0 rfl (by decide)
    | 1, _ => exact ints_bk (l := [0, 1, 1, 0]) k1 rfl (by decide)
theorem no_lies (w : World) (B : Nat) : LiesAt w B none [] := ⟨⟨fun _ => none, fun _ => 0, Sl.nil _ _ _ _ _, fun i hi => absurd hi (Nat.not_lt_zero i)⟩, fun i hi => absurd hi (Nat.not_lt_zero i)⟩
set_option maxRecDepth 100000 in
set_option maxHeartbeats 32000000 in
theorem awake_any (w : World) : Calls Try.prog 16 #[] w fun e w' => e = .returned (.bool true) ∧ Below w.heap.size w w' := by
  have HNV := Lib.hid (newVoter_any w 3 2 1)
  go_enter Try.func16, Try.ntmps16
  go_wp2_with fail
  refine HNV.out.mono ?_
  rintro e w1 ⟨hb1, _, hx⟩
  obtain ⟨X, rfl, hv1⟩ := hx rfl
  have HV1 : Hid (VotAt w1 w.heap.size X exV0) := Lib.hid hv1
  have HB1 := Lib.hid hb1
  have hlo := hv1.lo
  have HLT : Hid (X.lb < w1.heap.size ∧ X.cb < w1.heap.size) := Lib.hid ⟨hv1.l.lt, hv1.c.lt⟩
  clear hb1 hx hv1
  go_wp2_with fail
  have hi1 := ints_new w1 [5, 6, 50] #[.int .i64 5, .int .i64 6, .int .i64 50] rfl (by decide)
  refine (readings_any _ _ _ [5, 6, 50] hi1 (by decide)).mono ?_
  rintro e w2 ⟨A2, c2, rfl, hcl2, hb2⟩
  have hb12 : Below w1.heap.size w1 w2 := ((Below.refl _ w1).alloc (Nat.le_refl _) _).trans (hb2.mono (by simp))
  have hv2 := HV1.out.later hb12
  have HV2 := Lib.hid (vote_any w2 w.heap.size X exV0 hv2 A2 c2 exR (Cl.rds (l := exR) rfl hcl2) (Cl.off (n := 3) (by decide) hcl2 (by have := HLT.out.1; simp; omega) (by have := HLT.out.2; simp; omega)))
  have HB2 := Lib.hid (HB1.out.trans (hb12.mono HB1.out.size))
  clear hcl2 hb2 hb12 hv2 hi1
  go_wp2_with fail
  refine HV2.out.mono ?_
  rintro e w3 ⟨rfl, hv3, hc3⟩
  rw [ex_vote]
  have HV3 : Hid (VotAt w3 w.heap.size X exV1) := Lib.hid hv3
  have HB3 := Lib.hid (HB2.out.trans (hc3.to_below hlo.2.1 hlo.2.2 HB2.out.size))
  have HLT3 : Hid (X.lb < w3.heap.size ∧ X.cb < w3.heap.size) := Lib.hid ⟨hv3.l.lt, hv3.c.lt⟩
  clear hv3 hc3
  go_wp2_with fail
  have hi3 := ints_new w3 [5, 6, 50] #[.int .i64 5, .int .i64 6, .int .i64 50] rfl (by decide)
  refine (readings_any _ _ _ [5, 6, 50] hi3 (by decide)).mono ?_
  rintro e w4 ⟨A4, c4, rfl, hcl4, hb4⟩
  have hb34 : Below w3.heap.size w3 w4 := ((Below.refl _ w3).alloc (Nat.le_refl _) _).trans (hb4.mono (by simp))
  have hv4 := HV3.out.later hb34
  have HV4 := Lib.hid (vote_any w4 w.heap.size X exV1 hv4 A4 c4 exR (Cl.rds (l := exR) rfl hcl4) (Cl.off (n := 3) (by decide) hcl4 (by have := HLT3.out.1; simp; omega) (by have := HLT3.out.2; simp; omega)))
  have HB4 := Lib.hid (HB3.out.trans (hb34.mono HB3.out.size))
  clear hcl4 hb4 hb34 hv4 hi3
  go_wp2_with fail
  refine HV4.out.mono ?_
  rintro e w5 ⟨rfl, hv5, hc5⟩
  have HLV := Lib.hid (live_any w5 w.heap.size X exV2 hv5)
  have HB5 := Lib.hid (HB4.out.trans (hc5.to_below hlo.2.1 hlo.2.2 HB4.out.size))
  clear hv5 hc5
  go_wp2_with fail
  refine HLV.out.mono ?_
  rintro e w6 ⟨A6, c6, rfl, hcl6, hb6⟩
  rw [ex_live.1] at hcl6 ⊢
  have HB6 := Lib.hid (HB5.out.trans (hb6.mono HB5.out.size))
  obtain ⟨lb, cur6, rfl, _, hlb, hcur6⟩ := hcl6.2 (by decide)
  have HLB := Lib.hid hlb
  have HL1 : Hid (cur6[1]? = some (.bool true)) := Lib.hid (by have := hcur6 1 (by decide) 0 (by decide); exact this.trans (by show some (Value.bool (exV2.live 1)) = _; rw [ex_live.2.1]))
  have HL2 : Hid (cur6[2]? = some (.bool false)) := Lib.hid (by have := hcur6 2 (by decide) 0 (by decide); exact this.trans (by show some (Value.bool (exV2.live 2)) = _; rw [ex_live.2.2]))
  clear hcl6 hb6 hlb hcur6
  go_wp2_with fail
  have hm7 : MsgsAt (w6.alloc (.cells #[.string ⟨#[97]⟩, .int .i64 1, .int .i64 2, .int .i64 2, .string ⟨#[98]⟩, .int .i64 2, .int .i64 4, .int .i64 4] 80)) _ _ exM1 := sl_new w6 80 2 4 _ _ rfl (by decide)
  refine (schedule_any _ _ _ exM1 hm7).mono ?_
  rintro e w8 ⟨A8, c8, T8, p8, er8, hs8, rfl, hcl8, hb8⟩
  rw [ex_sched1] at hs8
  cases hs8
  have hb68 : Below w6.heap.size w6 w8 := (below_al (Below.refl _ w6) (Nat.le_refl _) _).trans (hb8.mono (by simp))
  have HB8 := Lib.hid (HB6.out.trans (hb68.mono HB6.out.size))
  have HLB8 := Lib.hid (HLB.out.below hb68 HLB.out.lt)
  have HCL8 := Lib.hid hcl8
  clear hm7 hb8 hb68 hcl8
  go_wp2_with fail
  have hm9 : MsgsAt ((w8.alloc (.cells #[.int .i64 0, .int .i64 0] 23)).alloc (.cells #[.string ⟨#[97]⟩, .int .i64 2, .int .i64 2, .int .i64 2, .string ⟨#[98]⟩, .int .i64 1, .int .i64 4, .int .i64 4] 80)) _ (some ⟨w8.heap.size + 1, 0, none⟩) exM2 := sl_newAt _ 80 2 4 _ _ _ (by simp) rfl (by decide)
  refine (schedule_any _ _ _ exM2 hm9).mono ?_
  rintro e w10 ⟨A10, c10, T10, p10, er10, hs10, rfl, hcl10, hb10⟩
  rw [ex_sched2] at hs10
  cases hs10
  have hb810 : Below w8.heap.size w8 w10 := (below_al (below_al (Below.refl _ w8) (Nat.le_refl _) _) (Nat.le_refl _) _).trans (hb10.mono (by simp; omega))
  have HB10 := Lib.hid (HB8.out.trans (hb810.mono HB8.out.size))
  have HLB10 := Lib.hid (HLB8.out.below hb810 HLB8.out.lt)
  have HCL10 := Lib.hid (HCL8.out.below hb810)
  clear hm9 hb10 hb810 hcl10
  go_wp2_with fail
  obtain ⟨W11, hW11⟩ : ∃ W11, exW w10 = W11 := ⟨_, rfl⟩
  have HB11 : Hid (Below w10.heap.size w10 W11) := Lib.hid (by rw [← hW11]; exact exW_below w10)
  have HWI : Hid (Bk W11 w10.heap.size 23 #[.int .i64 0, .int .i64 4]) := Lib.hid (by rw [← hW11]; exact exW_0 w10)
  have HCO : Hid (Bk W11 (w10.heap.size + 1 + 1) 48 #[.int .i64 4, .int .i64 1, .slice (some ⟨w10.heap.size + 1, 0, none⟩) 1 1]) := Lib.hid (by rw [← hW11]; exact exW_2 w10)
  have HFA : Hid (Bk W11 (w10.heap.size + 1) 3 #[.int .i64 0]) := Lib.hid (by rw [← hW11]; exact exW_1 w10)
  have HAG := Lib.hid (agree_any W11 4 1 (some ⟨w10.heap.size + 1, 0, none⟩) 1 [0] 0 0 (some ⟨w10.heap.size + 1 + 1 + 1 + 1 + 1 + 1, 0, none⟩) 3 exL (ints_bk (l := [0]) HFA.out rfl (by decide)) (by rw [← hW11]; exact exW_lies w10))
  obtain ⟨s, hs⟩ : ∃ s, w10.heap.size = s := ⟨_, rfl⟩
  have HSZ := Lib.hid hs
  unfold exW at hW11
  rw [hW11]
  rw [hs] at HWI HCO HFA HAG ⊢
  clear hW11 hs
  refine HAG.out.mono ?_
  rintro e w12 ⟨A12, c12, rfl, hcl12, hb12⟩
  rw [ex_agree] at hcl12 ⊢
  have HB12 := Lib.hid hb12
  have HCL12 := Lib.hid hcl12
  have HCO12 := Lib.hid (HCO.out.below hb12 HCO.out.lt)
  have HFA12 := Lib.hid (HFA.out.below hb12 HFA.out.lt)
  have k0 : w12.cell? ⟨s + 1 + 1, 0, none⟩ = some (.int .i64 4) := HCO12.out.cell 0
  have k1 : w12.cell? ⟨s + 1 + 1, 1, none⟩ = some (.int .i64 1) := HCO12.out.cell 1
  have k2 : w12.cell? ⟨s + 1 + 1, 2, none⟩ = some (.slice (some ⟨s + 1, 0, none⟩) 1 1) := HCO12.out.cell 2
  clear hb12 hcl12
  go_wp2_with fail
  obtain ⟨W13, hW13⟩ : ∃ W13, exC w12 = W13 := ⟨_, rfl⟩
  have HB13 : Hid (Below w12.heap.size w12 W13) := Lib.hid (by rw [← hW13]; exact exC_below w12)
  have HCU := Lib.hid (cutOff_any W13 4 1 (some ⟨s + 1, 0, none⟩) 1 [0] (some ⟨w12.heap.size + 1 + 1, 0, none⟩) 2 [[0, 1, 0, 0], [0, 1, 1, 0]] none 0 [] (ints_bk (l := [0]) (HFA12.out.below HB13.out HFA12.out.lt) rfl (by decide)) (by rw [← hW13]; exact exC_rows w12) (no_lies _ _))
  unfold exC at hW13
  rw [hW13]
  clear hW13 k0 k1 k2
  refine HCU.out.mono ?_
  rintro e w14 ⟨A14, c14, rfl, hcl14, hb14⟩
  rw [ex_cut] at hcl14 ⊢
  have HB14 := Lib.hid (HB13.out.trans (hb14.mono HB13.out.size))
  have HCL14 := Lib.hid hcl14
  clear hb14 hcl14
  go_wp2_with fail
  have hi15 : IntsAt (w14.alloc (.cells #[.int .i64 5, .int .i64 1, .int .i64 9, .int .i64 2] 3)) _ _ [5, 1, 9, 2] := ints_new w14 [5, 1, 9, 2] _ rfl (by decide)
  refine (mid_any _ _ _ [5, 1, 9, 2] 1 hi15).mono ?_
  rintro e w16 ⟨rfl, hb16⟩
  rw [ex_mid]
  have HB16 : Hid (Below w14.heap.size w14 w16) := Lib.hid ((below_al (Below.refl _ w14) (Nat.le_refl _) _).trans (hb16.mono (by simp)))
  have HC16 : Hid (Below w12.heap.size w12 w16) := Lib.hid (HB14.out.trans (HB16.out.mono HB14.out.size))
  have HD16 : Hid (Below W11.heap.size W11 w16) := Lib.hid (HB12.out.trans (HC16.out.mono HB12.out.size))
  have HE16 : Hid (Below w10.heap.size w10 w16) := Lib.hid (HB11.out.trans (HD16.out.mono HB11.out.size))
  have l1 : w16.cell? ⟨lb, 1, none⟩ = some (.bool true) := by rw [(HLB10.out.below HE16.out HLB10.out.lt).cell]; exact HL1.out
  have l2 : w16.cell? ⟨lb, 2, none⟩ = some (.bool false) := by rw [(HLB10.out.below HE16.out HLB10.out.lt).cell]; exact HL2.out
  clear hi15 hb16
  go_wp2_with fail
  have hs16 := HE16.out.size
  have ht := (HCL10.out.below HE16.out).sl
  have hb17 : Below w16.heap.size w16 (w16.alloc (.cells #[.int .i64 0, .int .i64 1, .int .i64 0, .int .i64 1] 3)) := below_al (Below.refl _ w16) (Nat.le_refl _) _
  refine (ints_any _ A8 (some ⟨w16.heap.size, 0, none⟩) c8 4 [0, 1, 0, 1] [0, 1, 0, 1] (Sl.mono (Sl.below ht hb17) hb17.size) (ints_new w16 [0, 1, 0, 1] _ rfl (by decide))).mono ?_
  rintro e w18 ⟨rfl, hb18⟩
  rw [show intsB [0, 1, 0, 1] [0, 1, 0, 1] = true from by kernel_rfl]
  have HB18 : Hid (Below w16.heap.size w16 w18) := Lib.hid (hb17.trans (hb18.mono hb17.size))
  have HC18 : Hid (Below w12.heap.size w12 w18) := Lib.hid (HC16.out.trans (HB18.out.mono HC16.out.size))
  have HD18 : Hid (Below W11.heap.size W11 w18) := Lib.hid (HD16.out.trans (HB18.out.mono HD16.out.size))
  have hwi := HWI.out.below HD18.out HWI.out.lt
  have i0 : w18.cell? ⟨s, 0, none⟩ = some (.int .i64 0) := hwi.cell 0
  have i1 : w18.cell? ⟨s, 1, none⟩ = some (.int .i64 4) := hwi.cell 1
  have heq := run_eq2 0 4 0 4 (wf64_of (by decide) (by decide)) (wf64_of (by decide) (by decide)) (wf64_of (by decide) (by decide)) (wf64_of (by decide) (by decide)) w18
  rw [show decide ((0 : Int) = 0 ∧ (4 : Int) = 4) = true from by decide] at heq
  clear hb17 hb18 ht hwi l1 l2
  go_wp2_with fail
  have ht := (HCL12.out.below HC18.out).sl
  have hb19 : Below w18.heap.size w18 (w18.alloc (.cells #[.int .i64 0, .int .i64 7, .int .i64 7, .int .i64 7] 3)) := below_al (Below.refl _ w18) (Nat.le_refl _) _
  refine (ints_any _ A12 (some ⟨w18.heap.size, 0, none⟩) c12 4 [0, 7, 7, 7] [0, 7, 7, 7] (Sl.mono (Sl.below ht hb19) hb19.size) (ints_new w18 [0, 7, 7, 7] _ rfl (by decide))).mono ?_
  rintro e w20 ⟨rfl, hb20⟩
  rw [show intsB [0, 7, 7, 7] [0, 7, 7, 7] = true from by kernel_rfl]
  have HB20 : Hid (Below w18.heap.size w18 w20) := Lib.hid (hb19.trans (hb20.mono hb19.size))
  have HC20 : Hid (Below w14.heap.size w14 w20) := Lib.hid (HB16.out.trans ((HB18.out.trans (HB20.out.mono HB18.out.size)).mono HB16.out.size))
  clear hb19 hb20 ht i0 i1 heq
  go_wp2_with fail
  have ht := (HCL14.out.below HC20.out).sl
  have hb21 : Below w20.heap.size w20 (w20.alloc (.cells #[.int .i64 (-1), .int .i64 1, .int .i64 1, .int .i64 1] 3)) := below_al (Below.refl _ w20) (Nat.le_refl _) _
  refine (ints_any _ A14 (some ⟨w20.heap.size, 0, none⟩) c14 4 [-1, 1, 1, 1] [-1, 1, 1, 1] (Sl.mono (Sl.below ht hb21) hb21.size) (ints_new w20 [-1, 1, 1, 1] _ rfl (by decide))).mono ?_
  rintro e w22 ⟨rfl, hb22⟩
  rw [show intsB [-1, 1, 1, 1] [-1, 1, 1, 1] = true from by kernel_rfl]
  have HEND : Hid (Below w.heap.size w w22) := Lib.hid (by
    have h1 := HB10.out.trans (HE16.out.mono HB10.out.size)
    have h2 := h1.trans (HB18.out.mono h1.size)
    have h3 := h2.trans (HB20.out.mono h2.size)
    exact h3.trans ((hb21.trans (hb22.mono hb21.size)).mono h3.size))
  clear hb21 hb22 ht
  go_wp2_with fail
  go_ret
  exact ⟨rfl, HEND.out⟩
end Go.Proofs.Ytnmccbjdfdbgpaa
