/- What is proved: the texts Cf, one behind the other; each says at its head what it proves, and under which conditions. -/
import Derived.Outline
import Derived.Test.Ytnmccbjdfdbgpaan15
/- What is proved: a contract of the document's Vote. Conditions: the voter's lists and the readings lie in memory. -/
namespace Go.Proofs.Ytnmccbjdfdbgpaa
open Go.RowKit

/-- The world of the document's Vote: its box and its result cell. -/
structure RvA (w : World) (qb rb : Nat) (box : Array Value) (wr : World) : Prop where
  bel : Below qb w wr
  box : Bk wr qb 63 box
  res : Bk wr rb 63 #[.int .i64 0, .int .i64 0, .slice none 0 0, .slice none 0 0]
theorem RvA.below {w : World} {qb rb : Nat} {box : Array Value} {wr w' : World} (h : RvA w qb rb box wr) (hb : Below wr.heap.size wr w') : RvA w qb rb box w' :=
  ⟨h.bel.trans (hb.mono (Nat.le_of_lt h.box.lt)), h.box.below hb h.box.lt, h.res.below hb h.res.lt⟩
/-- The cells of the two blocks. -/
theorem RvA.cells {w : World} {qb rb : Nat} {x0 x1 x2 x3 : Value} {wr : World} (h : RvA w qb rb #[x0, x1, x2, x3] wr) :
    (wr.cell? ⟨qb, 0, none⟩ = some x0 ∧ wr.cell? ⟨qb, 1, none⟩ = some x1 ∧ wr.cell? ⟨qb, 2, none⟩ = some x2 ∧ wr.cell? ⟨qb, 3, none⟩ = some x3) ∧
    (wr.cell? ⟨rb, 0, none⟩ = some (.int .i64 0) ∧ wr.cell? ⟨rb, 1, none⟩ = some (.int .i64 0) ∧ wr.cell? ⟨rb, 2, none⟩ = some (.slice none 0 0) ∧ wr.cell? ⟨rb, 3, none⟩ = some (.slice none 0 0)) :=
  ⟨⟨h.box.cell 0, h.box.cell 1, h.box.cell 2, h.box.cell 3⟩, h.res.cell 0, h.res.cell 1, h.res.cell 2, h.res.cell 3⟩
theorem RvA.fin {w : World} {V : VotD} {l : List RdD} {Al Ac : Option Addr} {cl cc qb rb : Nat} {wr : World} (h : RvA w qb rb (rvA V Al cl Ac cc) wr) (hq : w.heap.size = qb) (hr : qb < rb) (hV : RVot w V Al Ac) (x0 x1 x2 x3 : Value) (x er : Int) (hv : voteB V l = ((x, er), V)) :
    RVotePost w V l Al Ac (.returned (.tuple #[.agg (rvA V Al cl Ac cc), .int .i64 x, .int .i64 er])) ((((wr.setCell ⟨rb, 0, none⟩ x0).setCell ⟨rb, 1, none⟩ x1).setCell ⟨rb, 2, none⟩ x2).setCell ⟨rb, 3, none⟩ x3) := by
  have hb : Below w.heap.size w ((((wr.setCell ⟨rb, 0, none⟩ x0).setCell ⟨rb, 1, none⟩ x1).setCell ⟨rb, 2, none⟩ x2).setCell ⟨rb, 3, none⟩ x3) := by
    rw [hq]
    exact (((h.bel.setCell (p := ⟨rb, 0, none⟩) (Nat.le_of_lt hr) _).setCell (p := ⟨rb, 1, none⟩) (Nat.le_of_lt hr) _).setCell (p := ⟨rb, 2, none⟩) (Nat.le_of_lt hr) _).setCell (p := ⟨rb, 3, none⟩) (Nat.le_of_lt hr) _
  refine ⟨Al, cl, Ac, cc, ?_, ?_, hb, Or.inl rfl, Or.inl rfl⟩
  · rw [hv]
  · rw [hv]; exact hV.later hb
theorem RvW.a {w : World} {qb rb cb lb n : Nat} {box : Array Value} {L : Nat → Bool} {C : Nat → Int} {wr : World} (h : RvW w qb rb cb lb n box L C wr) : RvA w qb rb box wr := ⟨h.bel, h.box, h.res⟩
theorem RvW.fin {w : World} {V U : VotD} {l : List RdD} {Al0 Ac0 : Option Addr} {cl cc qb rb cb lb : Nat} {wr : World} {x0 x1 x2 x3 y2 y3 : Value} {L : Nat → Bool} {C : Nat → Int} {box : Array Value} (h : RvW w qb rb cb lb U.n box L C wr) (hL : L = U.live) (hC : C = U.cnt) (hq : w.heap.size = qb) (hr : qb < rb) (hn : U.n ≤ 8) (x : Int) (hv : voteB V l = ((x, 0), U)) :
    RVotePost w V l Al0 Ac0 (.returned (.tuple #[.agg (rvA U (some ⟨lb, 0, none⟩) cl (some ⟨cb, 0, none⟩) cc), .int .i64 x, .int .i64 0])) ((((((wr.setCell ⟨qb, 3, none⟩ y2).setCell ⟨qb, 2, none⟩ y3).setCell ⟨rb, 0, none⟩ x0).setCell ⟨rb, 1, none⟩ x1).setCell ⟨rb, 2, none⟩ x2).setCell ⟨rb, 3, none⟩ x3) := by
  have hb : Below w.heap.size w ((((((wr.setCell ⟨qb, 3, none⟩ y2).setCell ⟨qb, 2, none⟩ y3).setCell ⟨rb, 0, none⟩ x0).setCell ⟨rb, 1, none⟩ x1).setCell ⟨rb, 2, none⟩ x2).setCell ⟨rb, 3, none⟩ x3) := by
    rw [hq]
    exact (((((h.bel.setCell (p := ⟨qb, 3, none⟩) (Nat.le_refl _) _).setCell (p := ⟨qb, 2, none⟩) (Nat.le_refl _) _).setCell (p := ⟨rb, 0, none⟩) (Nat.le_of_lt hr) _).setCell (p := ⟨rb, 1, none⟩) (Nat.le_of_lt hr) _).setCell (p := ⟨rb, 2, none⟩) (Nat.le_of_lt hr) _).setCell (p := ⟨rb, 3, none⟩) (Nat.le_of_lt hr) _
  refine ⟨some ⟨lb, 0, none⟩, cl, some ⟨cb, 0, none⟩, cc, ?_, ?_, hb, Or.inr fun b off e => by cases e; rw [hq]; exact h.lo.2, Or.inr fun b off e => by cases e; rw [hq]; exact h.lo.1⟩
  · rw [hv]
  · rw [hv]
    have o1 : Only qb wr ((wr.setCell ⟨qb, 3, none⟩ y2).setCell ⟨qb, 2, none⟩ y3) := (Only.setCell _ _ _ _).trans (Only.setCell _ _ _ _)
    have o2 := Only.set4 ((wr.setCell ⟨qb, 3, none⟩ y2).setCell ⟨qb, 2, none⟩ y3) rb x0 x1 x2 x3
    subst hL hC
    have hl5 := (h.liv.only o1 (h.liv.ne h.box (by decide))).only o2 (h.liv.ne h.res (by decide))
    have hc5 := (h.cnt.only o1 (h.cnt.ne h.box (by decide))).only o2 (h.cnt.ne h.res (by decide))
    exact ⟨hl5.sl (by omega), hc5.sl (by omega), fun b off e => by cases e; obtain ⟨cs, h6, _⟩ := hl5; exact ⟨cs, h6⟩, fun b off e => by cases e; obtain ⟨cs, h6, _⟩ := hc5; exact ⟨cs, h6⟩⟩

theorem Sl.row1 {w : World} {n : Nat} {ad : Addr} {f : Nat → Nat → Value} (h : Sl w w.heap.size 1 (some ad) n f) (hn : 0 < n) (ob : Obj) : ∀ j u, (rowsL n 1 f)[j]? = some u → (w.alloc ob).cell? (ad.add j) = some u := fun j u hj => by
  obtain ⟨b, off, e, _, hc⟩ := h.2 hn
  cases e
  rw [Addr.add_lit]
  exact Lib.cell?_alloc_some _ (rowsL_cell hc j u hj)
theorem RvW.congr {w : World} {qb rb cb lb n : Nat} {box : Array Value} {L L' : Nat → Bool} {C C' : Nat → Int} {wr : World} (h : RvW w qb rb cb lb n box L C wr) (hL : ∀ i, i < n → L' i = L i) (hC : ∀ i, i < n → C' i = C i) : RvW w qb rb cb lb n box L' C' wr := by
  obtain ⟨c, h1, h2⟩ := h.cnt
  obtain ⟨c', h3, h4⟩ := h.liv
  exact ⟨h.bel, h.box, h.res, ⟨c, h1, fun i hi => by rw [h2 i hi, hC i hi]⟩, ⟨c', h3, fun i hi => by rw [h4 i hi, hL i hi]⟩, h.lo⟩

set_option maxRecDepth 100000 in
set_option maxHeartbeats 16000000 in
theorem refVote_any (w : World) (V : VotD) (Al : Option Addr) (cl : Nat) (Ac : Option Addr) (cc : Nat) (hn : 1 ≤ V.n ∧ V.n ≤ 8) (ht : 0 ≤ V.tol ∧ V.tol ≤ 1073741824) (hV : RVot w V Al Ac) (A : Option Addr) (c : Nat) (l : List RdD) (hl : RdsAt w w.heap.size A l) :
    Calls Try.prog 34 #[.agg (rvA V Al cl Ac cc), .slice A l.length c] w (RVotePost w V l Al Ac) := by
  have HV := Lib.hid hV
  have HL := Lib.hid hl
  have hll := hl.1
  obtain ⟨qb, hqb⟩ : ∃ qb, w.heap.size = qb := ⟨_, rfl⟩
  have HQB := Lib.hid hqb
  have hrv : rvA V Al cl Ac cc = #[.int .i64 V.tol, .int .i64 V.pat, .slice Al V.n cl, .slice Ac V.n cc] := rfl
  obtain ⟨W00, hW00⟩ : ∃ W0, w.alloc (.cells #[.int .i64 V.tol, .int .i64 V.pat, .slice Al V.n cl, .slice Ac V.n cc] 63) = W0 := ⟨_, rfl⟩
  obtain ⟨rb, hrb⟩ : ∃ rb, W00.heap.size = rb := ⟨_, rfl⟩
  obtain ⟨W0, hW0⟩ : ∃ W0, W00.alloc (.cells #[.int .i64 0, .int .i64 0, .slice none 0 0, .slice none 0 0] 63) = W0 := ⟨_, rfl⟩
  have HRB : Hid (qb < rb) := Lib.hid (by rw [← hrb, ← hW00, ← hqb]; simp)
  have HA0 : Hid (RvA w qb rb (rvA V Al cl Ac cc) W0) := Lib.hid (by
    refine ⟨?_, ?_, ?_⟩
    · rw [← hW0, ← hW00]; exact ((Below.refl qb w).alloc (Nat.le_of_eq hqb.symm) _).alloc (by simp; omega) _
    · rw [← hW0, ← hW00, ← hqb]; exact (Bk.new _ _ _).alloc _
    · rw [← hW0, ← hrb]; exact Bk.new _ _ _)
  have HIN := Lib.hid fun x a b w' => in_any x a b w'
  have HFIN := Lib.hid fun (wr : World) (h : RvA w qb rb (rvA V Al cl Ac cc) wr) => h.fin (l := l) hqb HRB.out hV
  have HFIW := Lib.hid fun (U : VotD) (cl cc cb lb : Nat) (wr : World) (x0 x1 x2 x3 y2 y3 : Value) (L : Nat → Bool) (C : Nat → Int) (box : Array Value) (h : RvW w qb rb cb lb U.n box L C wr) (hL : L = U.live) (hC : C = U.cnt) => h.fin (V := V) (l := l) (Al0 := Al) (Ac0 := Ac) (cl := cl) (cc := cc) (x0 := x0) (x1 := x1) (x2 := x2) (x3 := x3) (y2 := y2) (y3 := y3) hL hC hqb HRB.out
  rw [hrv] at HA0 HFIN ⊢
  clear hrv
  obtain ⟨JP, hJP⟩ : ∃ Q, RVotePost w V l Al Ac = Q := ⟨_, rfl⟩
  rw [hJP] at HFIN HFIW ⊢
  obtain ⟨n, hnn⟩ : ∃ n, V.n = n := ⟨_, rfl⟩
  have HN := Lib.hid hnn
  obtain ⟨tol, htl⟩ : ∃ n, V.tol = n := ⟨_, rfl⟩
  have HTL := Lib.hid htl
  obtain ⟨pat, hpt⟩ : ∃ n, V.pat = n := ⟨_, rfl⟩
  have HPT := Lib.hid hpt
  obtain ⟨ln, hln⟩ : ∃ ln, l.length = ln := ⟨_, rfl⟩
  have HLN := Lib.hid hln
  have HT := Lib.hid ht
  rw [hnn] at hn
  rw [htl] at HT
  rw [hnn, htl, hpt] at HA0 HFIN hW00 ⊢
  rw [hln] at hll ⊢
  clear hV hl hnn htl hpt hln hJP ht
  go_enter Try.func34, Try.ntmps34
  go_upto_region 1 with (fail)
  clear hW0 hW00 hrb hqb
  have ⟨⟨q0, q1, q2, q3⟩, z0, z1, z2, z3⟩ := HA0.out.cells
  have zf := HA0.out.res.free
  by_cases hne : ln = n
  case neg =>
    have hni : ¬ ((ln : Int) = (n : Int)) := by omega
    have HVO : Hid (voteB V l = ((0, 2), V)) := Lib.hid (by unfold voteB; rw [if_pos (by rw [HLN.out, HN.out]; exact hne)])
    clear hne
    go_wp2_with fail
    exact bodyPost_ret (results_f34 _ _ rb _ _ _ rfl rfl rfl (Bk.set4 HA0.out.res _ _ _ _) rfl) rfl (HFIN.out _ HA0.out _ _ _ _ _ _ HVO.out)
  subst hne
  clear z0 z1 z2 z3 zf
  obtain ⟨i0, hi, hz0, hz1, hz2⟩ := info_parts infoR_Int
  go_wp2_with fail
  clear q0 q1 q2 q3
  go_loopw [7, 8] (fun v i wr => ∃ k : Nat, k ≤ ln ∧ i = .int .i64 k ∧ Hid (RvA w qb rb #[.int .i64 tol, .int .i64 pat, .slice Al ln cl, .slice Ac ln cc] wr ∧ wr.ownsRow W0.heap.size 3 1 v (valsK V l k).length ((valsK V l k).map (Value.int .i64)) ∧ Below W0.heap.size W0 wr ∧ ∀ j, j < k → rdBad (rdAt l j) = false)) (fun _ i _ => ln - (intOf i).toNat)
  case atStart => exact ⟨0, Nat.zero_le _, rfl, Lib.hid ⟨HA0.out, World.ownsRow_nil _ _ _ _, Below.refl _ _, fun j hj => absurd hj (Nat.not_lt_zero _)⟩⟩
  case round =>
    obtain ⟨k, hk, rfl, hs⟩ := hrel
    by_cases hlt : k < ln
    · have hki : (k : Int) < (ln : Int) := by omega
      have h0k : (0 : Int) ≤ (k : Int) := by omega
      have hlt' : k < l.length := by rw [HLN.out]; exact hlt
      have hbw : Below w.heap.size w wr := by rw [HQB.out]; exact hs.out.1.bel
      obtain ⟨b, off, rfl, _, d0, d1⟩ := Sl.at2 (HL.out.later hbw) hlt'
      obtain ⟨⟨rv, rt⟩, hr⟩ : ∃ r, l.getD k rd0 = r := ⟨_, rfl⟩
      have HR : Hid (rdAt l k = ⟨rv, rt⟩) := Lib.hid hr
      rw [hr] at d0 d1
      simp only [rdC] at d0 d1
      obtain ⟨b2, o2, rfl, _, d2⟩ := Sl.at1 (HV.out.later hbw).l (i := k) (by rw [HN.out]; exact hlt)
      obtain ⟨lv, hlv⟩ : ∃ lv, V.live k = lv := ⟨_, rfl⟩
      try dsimp only at d2
      rw [hlv] at d2
      have HVK : Hid (valsK V l (k + 1) = if rt && lv then valsK V l k ++ [rv] else valsK V l k) := Lib.hid (by rw [valsK_succ, HR.out, hlv])
      have ⟨⟨q0, q1, q2, q3⟩, z0, z1, z2, z3⟩ := hs.out.1.cells
      have zf := hs.out.1.res.free
      obtain ⟨ib, hib⟩ : ∃ ib, inB rv (-1073741824) 1073741824 = ib := ⟨_, rfl⟩
      have HI := HIN.out rv (-1073741824) 1073741824 wr
      rw [hib] at HI
      have HIB := Lib.hid hib
      have HBD : Hid (rdBad (rdAt l k) = (rt && !ib)) := Lib.hid (by rw [HR.out, ← hib]; rfl)
      clear hr hlv hbw hib
      cases rt with
      | false =>
        have HE : Hid (valsK V l (k + 1) = valsK V l k) := Lib.hid (by rw [HVK.out]; rfl)
        go_wp2_with fail
        go_roundw
        case rel => exact ⟨k + 1, by omega, by go_num, Lib.hid (by rw [HE.out]; exact ⟨hs.out.1, hs.out.2.1, hs.out.2.2.1, fun j hj => by
          by_cases e : j = k
          · rw [e, HBD.out]; rfl
          · exact hs.out.2.2.2 j (by omega)⟩)⟩
        case measure => simp [intOf]; omega
      | true =>
        cases ib with
        | false =>
          have HVO : Hid (voteB V l = ((0, 4), V)) := Lib.hid (by
            unfold voteB
            rw [if_neg (by rw [HLN.out, HN.out]; exact fun h => h rfl), if_pos]
            intro h
            have := (allN_iff.1 h) k hlt'
            rw [HBD.out] at this
            exact absurd this (by decide))
          go_wp2_with fail
          refine HI.mono ?_
          rintro e w1 ⟨rfl, hw⟩
          rw [← hw]
          clear hw
          go_wp2_with fail
          exact bodyPost_ret (results_f34 _ _ rb _ _ _ rfl rfl rfl (Bk.set4 hs.out.1.res _ _ _ _) rfl) rfl (HFIN.out _ hs.out.1 _ _ _ _ _ _ HVO.out)
        | true =>
          clear z0 z1 z2 z3 zf
          cases lv with
          | false =>
            have HE : Hid (valsK V l (k + 1) = valsK V l k) := Lib.hid (by rw [HVK.out]; rfl)
            go_wp2_with fail
            refine HI.mono ?_
            rintro e w1 ⟨rfl, hw⟩
            rw [← hw]
            clear hw
            go_wp2_with fail
            go_roundw
            case rel => exact ⟨k + 1, by omega, by go_num, Lib.hid (by rw [HE.out]; exact ⟨hs.out.1, hs.out.2.1, hs.out.2.2.1, fun j hj => by
              by_cases e : j = k
              · rw [e, HBD.out]; rfl
              · exact hs.out.2.2.2 j (by omega)⟩)⟩
            case measure => simp [intOf]; omega
          | true =>
            have HE : Hid (valsK V l (k + 1) = valsK V l k ++ [rv]) := Lib.hid (by rw [HVK.out]; rfl)
            have hvl := valsK_len V l k
            have HOW := Lib.hid hs.out.2.1
            obtain ⟨xs, hxs⟩ : ∃ xs, valsK V l k = xs := ⟨_, rfl⟩
            rw [hxs] at hvl HOW HE
            have HA := Lib.hid hs.out.1
            have HB := Lib.hid hs.out.2.2.1
            have HOK : Hid (∀ j, j < k + 1 → rdBad (rdAt l j) = false) := Lib.hid fun j hj => by
              by_cases e : j = k
              · rw [e, HBD.out]; rfl
              · exact hs.out.2.2.2 j (by omega)
            clear hxs hs
            go_wp2_with fail
            refine HI.mono ?_
            rintro e w1 ⟨rfl, hw⟩
            rw [← hw]
            clear hw
            have hsz : W0.heap.size ≤ wr.heap.size := HB.out.size
            go_wp2_with (at_builtin; refine wpList_append_own _ rfl _ _ 36 rfl W0.heap.size 3 i0 (.int .i64 0) 1 8 Try.underlying36 hi hz0 hz1 hz2 rfl (by decide) _ _ _ rfl (HOW.out.alloc _) ⟨wr.heap.size, 0, none⟩ 1 1 [.int .i64 rv] rfl rfl ?qc2 ?qc3 ?qc4 ?qc5 ?qc6 ?_)
            case qc2 => intro j u hj; match j, hj with | 0, hj => simp at hj; subst hj; simp [Addr.add]
            case qc3 => intro u hu; simp at hu; subst hu; rfl
            case qc4 => unfold maxLen; omega
            case qc5 => omega
            case qc6 => simp; omega
            intro v' w2 hown' hgrow _
            have hkt := KT.grown (HOW.out.alloc (.cells #[.int .i64 rv] 3)) hgrow
            have hb2 : Below W0.heap.size W0 w2 := by
              have h1 := HB.out.alloc hsz (.cells #[.int .i64 rv] 3)
              exact h1.grown hgrow h1.size fun g hg => ((HOW.out.alloc (.cells #[] 0)).lt g hg).1
            have HNX : Hid (RvA w qb rb #[.int .i64 tol, .int .i64 pat, .slice (some ⟨b2, o2, none⟩) ln cl, .slice Ac ln cc] w2 ∧ Below W0.heap.size W0 w2) := Lib.hid ⟨⟨HA0.out.bel.trans (hb2.mono (Nat.le_of_lt HA0.out.box.lt)), hkt.2 _ _ _ (by decide) (HA.out.box.alloc _), hkt.2 _ _ _ (by decide) (HA.out.res.alloc _)⟩, hb2⟩
            have HO2 := Lib.hid hown'
            clear hgrow hown' hkt hb2
            go_wp2_with fail
            go_roundw
            case rel => exact ⟨k + 1, by omega, by go_num, Lib.hid (by rw [HE.out]; refine ⟨HNX.out.1, ?_, HNX.out.2, HOK.out⟩; rw [List.length_append, List.map_append]; exact HO2.out)⟩
            case measure => simp [intOf]; omega
    · obtain rfl : k = ln := by omega
      clear HA0
      have hvl := valsK_len V l k
      obtain ⟨A2, c2, rfl, hint⟩ := vals_row hs.out.2.1 (by omega)
      have HA := Lib.hid hs.out.1
      have HOK := Lib.hid hs.out.2.2.2
      obtain ⟨xs, hxs⟩ : ∃ xs, valsK V l k = xs := ⟨_, rfl⟩
      have HXS := Lib.hid hxs
      rw [hxs] at hint hvl ⊢
      obtain ⟨m, hm⟩ : ∃ m, xs.length = m := ⟨_, rfl⟩
      have HM := Lib.hid hm
      have HALL : Hid ((allN l.length fun i => !rdBad (rdAt l i)) = true) := Lib.hid (allN_iff.2 fun i hi => by rw [HOK.out i (by rw [← HLN.out]; exact hi)]; rfl)
      have ⟨⟨q0, q1, q2, q3⟩, z0, z1, z2, z3⟩ := HA.out.cells
      have zf := HA.out.res.free
      rcases Nat.eq_zero_or_pos m with hm0 | hm0
      · have hnil : xs = [] := List.length_eq_zero_iff.1 (by rw [HM.out]; exact hm0)
        have HVO : Hid (voteB V l = ((0, 7), V)) := Lib.hid (by
          unfold voteB
          rw [if_neg (by rw [HLN.out, HN.out]; exact fun h => h rfl), if_neg (by rw [HALL.out]; exact fun h => h rfl), HLN.out, HXS.out, if_pos hnil])
        rw [hm]
        clear hint hxs hm hs hnil
        subst hm0
        go_wp2_with fail
        exact bodyPost_ret (results_f34 _ _ rb _ _ _ rfl rfl rfl (Bk.set4 HA.out.res _ _ _ _) rfl) rfl (HFIN.out _ HA.out _ _ _ _ _ _ HVO.out)
      have HNE : Hid (xs ≠ []) := Lib.hid fun e => by have := HM.out; rw [e] at this; simp at this; omega
      obtain ⟨x, hx⟩ : ∃ x, valueB V l = x := ⟨_, rfl⟩
      have hxr := valueB_range (V := V) (l := l) (fun i hi => HOK.out i (by rw [← HLN.out]; exact hi)) (by rw [HLN.out, HXS.out]; exact HNE.out)
      rw [hx] at hxr
      have HVO : Hid (voteB V l = ((x, 0), (dropK (cntK V l x k) (cntB V.live k) k).1)) := Lib.hid (by
        unfold voteB
        rw [if_neg (by rw [HLN.out, HN.out]; exact fun h => h rfl), if_neg (by rw [HALL.out]; exact fun h => h rfl), HLN.out, HXS.out, if_neg HNE.out, hx])
      have HTH := Lib.hid (nth_any wr A2 c2 xs ((m - 1) / 2) hint (by rw [hm]; omega))
      rw [show getI (sortB xs) ((m - 1) / 2) = x from by rw [← hm, ← hxs, ← hx, ← HLN.out]; rfl] at HTH
      have hmi : ¬ ((m : Int) = 0) := by omega
      have hmm : ((m : Int) - 1) / 2 = (((m - 1) / 2 : Nat) : Int) := by omega
      rw [hm] at hvl HTH ⊢
      clear hint hxs hm hs hx z0 z1 z2 z3 zf q0 q1 q2 q3
      go_wp2_with fail
      refine HTH.out.mono ?_
      rintro e w2 ⟨rfl, hb2⟩
      have HA2 := Lib.hid (HA.out.below hb2)
      clear hb2 hmm hmi HTH
      have HBW2 : Hid (Below w.heap.size w w2) := Lib.hid (by rw [HQB.out]; exact HA2.out.bel)
      have HV2 := Lib.hid (HV.out.later HBW2.out)
      obtain ⟨al, rfl⟩ : ∃ ad, Al = some ad := by
        obtain ⟨b, off, e, _⟩ := HV.out.l.2 (by rw [HN.out]; omega)
        exact ⟨_, e⟩
      obtain ⟨ac, rfl⟩ : ∃ ad, Ac = some ad := by
        obtain ⟨b, off, e, _⟩ := HV.out.c.2 (by rw [HN.out]; omega)
        exact ⟨_, e⟩
      have ⟨⟨q0, q1, q2, q3⟩, _⟩ := HA2.out.cells
      have p3 : (w2.alloc (.cells #[] 3)).cell? ⟨qb, 3, none⟩ = some (.slice (some ac) k cc) := (HA2.out.box.alloc _).cell 3
      go_wp2_with (at_builtin; refine wpList_append_own _ rfl _ _ 36 rfl w2.heap.size 3 i0 (.int .i64 0) 1 8 Try.underlying36 hi hz0 hz1 hz2 rfl (by decide) _ _ _ rfl (World.ownsRow_made w2 #[] 0 (Nat.le_refl _) (Nat.zero_le _) rfl) ac k cc (rowsL k 1 fun i _ => .int .i64 (V.cnt i)) rfl ?qc1 ?qc2 ?qc3 ?qc4 ?qc5 ?qc6 ?_)
      case qc1 => exact rowsL_len _ _ _
      case qc2 => exact Sl.row1 (by have := HV2.out.c; rw [HN.out] at this; exact this) hn.1 _
      case qc3 => exact rowsL_one fun _ _ => rfl
      case qc4 => unfold maxLen; omega
      case qc5 => omega
      case qc6 => simp
      intro v' w3 hown hgrow _
      obtain ⟨A3, cC, rfl, hcl⟩ := Cl.of_own (by omega) hown
      have hb3 : Below w2.heap.size w2 w3 := ((Below.refl _ w2).alloc (Nat.le_refl _) _).grown hgrow (by simp) (by intro k hk; simp [Value.ownBlock] at hk; omega)
      obtain ⟨cb, rfl, hcb, hcur⟩ := Cl.curN hcl hn.1
      have HCUR := Lib.hid hcur
      have HCB : Hid (qb ≤ cb) := Lib.hid (by have := HA2.out.bel.size; have := HA2.out.box.lt; omega)
      have HA3 := Lib.hid (HA2.out.below hb3)
      have HV3 := Lib.hid (HV2.out.later hb3)
      clear hown hgrow hcl hb3 hcb hcur q0 q1 q2 q3 p3
      have ⟨⟨q0, q1, q2, q3⟩, _⟩ := HA3.out.cells
      have p2 : (w3.alloc (.cells #[] 4)).cell? ⟨qb, 2, none⟩ = some (.slice (some al) k cl) := (HA3.out.box.alloc _).cell 2
      obtain ⟨i1, hi1, hy0, hy1, hy2⟩ := info_parts infoC_Bool
      go_wp2_with (at_builtin; refine wpList_append_own _ rfl _ _ 38 rfl w3.heap.size 4 i1 (.bool false) 1 1 Try.underlying38 hi1 hy0 hy1 hy2 rfl (by decide) _ _ _ rfl (World.ownsRow_made w3 #[] 0 (Nat.le_refl _) (Nat.zero_le _) rfl) al k cl (rowsL k 1 fun i _ => .bool (V.live i)) rfl ?qd1 ?qd2 ?qd3 ?qd4 ?qd5 ?qd6 ?_)
      case qd1 => exact rowsL_len _ _ _
      case qd2 => exact Sl.row1 (by have := HV3.out.l; rw [HN.out] at this; exact this) hn.1 _
      case qd3 => exact rowsL_one fun _ _ => rfl
      case qd4 => unfold maxLen; omega
      case qd5 => omega
      case qd6 => simp
      intro v' w4 hown hgrow _
      obtain ⟨A4, cL, rfl, hcl⟩ := Cl.of_own (by omega) hown
      have hb4 : Below w3.heap.size w3 w4 := ((Below.refl _ w3).alloc (Nat.le_refl _) _).grown hgrow (by simp) (by intro k hk; simp [Value.ownBlock] at hk; omega)
      obtain ⟨lb, rfl, hlb, hcur⟩ := Cl.curT hcl hn.1
      have HRW : Hid (RvW w qb rb cb lb k #[.int .i64 tol, .int .i64 pat, .slice (some al) k cl, .slice (some ac) k cc] V.live (cntK V l x 0).cnt w4) := Lib.hid (by
        have hA4 := HA3.out.below hb4
        refine ⟨hA4.bel, hA4.box, hA4.res, ?_, hcur, HCB.out, ?_⟩
        · obtain ⟨cu, h1, h2⟩ := HCUR.out.below hb4
          exact ⟨cu, h1, fun i hi => by
            have e : (cntK V l x 0).cnt i = V.cnt i := by show (if i < 0 then cntV V l x i else V.cnt i) = _; exact if_neg (Nat.not_lt_zero i)
            rw [h2 i hi, e]⟩
        · have := HA3.out.bel.size; have := HA3.out.box.lt; omega)
      clear hown hgrow hcl hb4 hlb hcur q0 q1 q2 q3 p2 HCUR HCB HA3 HA2 HA HV3 HV2
      go_wp2_with fail
      go_loopw [12, 13] (fun mm i wr => ∃ q : Nat, q ≤ k ∧ mm = .int .i64 (cntB V.live q) ∧ i = .int .i64 q ∧ Hid (RvW w qb rb cb lb k #[.int .i64 tol, .int .i64 pat, .slice (some al) k cl, .slice (some ac) k cc] V.live (cntK V l x q).cnt wr)) (fun _ i _ => k - (intOf i).toNat)
      case atStart => exact ⟨0, Nat.zero_le _, rfl, rfl, HRW⟩
      case round =>
        clear HRW
        obtain ⟨q, hq, rfl, rfl, hs⟩ := hrel
        have HCL := cntB_le V.live q
        obtain ⟨mq, hmq⟩ : ∃ mq, cntB V.live q = mq := ⟨_, rfl⟩
        have HMQ := Lib.hid hmq
        rw [hmq] at HCL ⊢
        clear hmq
        by_cases hlt : q < k
        · have hki : (q : Int) < (k : Int) := by omega
          have h0k : (0 : Int) ≤ (q : Int) := by omega
          have hlt' : q < l.length := by rw [HLN.out]; exact hlt
          have cl1 := (hs.out.liv.cell hlt).1
          obtain ⟨cn, cnf⟩ := hs.out.cnt.cell hlt
          rw [show (cntK V l x q).cnt q = V.cnt q from if_neg (Nat.lt_irrefl q)] at cn
          obtain ⟨lv, hlv⟩ : ∃ lv, V.live q = lv := ⟨_, rfl⟩
          have HLV := Lib.hid hlv
          rw [hlv] at cl1
          clear hlv
          cases lv with
          | false =>
            have HNX : Hid (RvW w qb rb cb lb k #[.int .i64 tol, .int .i64 pat, .slice (some al) k cl, .slice (some ac) k cc] V.live (cntK V l x (q + 1)).cnt wr) := Lib.hid (hs.out.congr (fun _ _ => rfl) fun i _ => by
              show (if i < q + 1 then cntV V l x i else V.cnt i) = if i < q then cntV V l x i else V.cnt i
              by_cases e : i = q
              · subst e
                rw [if_pos (Nat.lt_succ_self i), if_neg (Nat.lt_irrefl i)]
                unfold cntV; rw [HLV.out]; rfl
              · have : (i < q + 1) = (i < q) := by simp; omega
                simp only [this])
            have hmn : Hid (cntB V.live (q + 1) = mq) := Lib.hid (by rw [cntB_succ, HLV.out, HMQ.out]; rfl)
            go_wp2_with fail
            go_roundw
            case rel => exact ⟨q + 1, by omega, by rw [hmn.out], by go_num, HNX⟩
            case measure => simp [intOf]; omega
          | true =>
            have hmn : Hid (cntB V.live (q + 1) = mq + 1) := Lib.hid (by rw [cntB_succ, HLV.out, HMQ.out]; rfl)
            go_upto_region 23 with (fail)
            clear cl1 cn cnf
            obtain ⟨w3x, hw3⟩ : ∃ w3, wr.setCell ⟨cb, q, none⟩ (.int .i64 (wrap64 (V.cnt q + 1))) = w3 := ⟨_, rfl⟩
            have H3 : Hid (RvW w qb rb cb lb k #[.int .i64 tol, .int .i64 pat, .slice (some al) k cl, .slice (some ac) k cc] V.live (fun i => if i = q then wrap64 (V.cnt q + 1) else (cntK V l x q).cnt i) w3x) := Lib.hid (by rw [← hw3]; exact hs.out.setC hlt _ fun _ _ => rfl)
            obtain ⟨⟨rv, rt⟩, hr⟩ : ∃ r, l.getD q rd0 = r := ⟨_, rfl⟩
            have HR : Hid (rdAt l q = ⟨rv, rt⟩) := Lib.hid hr
            obtain ⟨b, off, rfl, _, _⟩ := Sl.at2 HL.out hlt'
            have HC3 : Hid (∀ w1, Below w3x.heap.size w3x w1 → w1.cell? ⟨b, off + q * 2, none⟩ = some (.int .i64 rv) ∧ w1.cell? ⟨b, off + q * 2 + 1, none⟩ = some (.bool rt) ∧ w1.cell? ⟨qb, 0, none⟩ = some (.int .i64 tol)) := Lib.hid fun w1 h1 => by
              have h2 := H3.out.a.below h1
              obtain ⟨b', off', e, _, d0, d1⟩ := Sl.at2 (HL.out.later (by rw [HQB.out]; exact h2.bel)) hlt'
              cases e
              rw [hr] at d0 d1
              exact ⟨d0, d1, h2.box.cell 0⟩
            have HOK2 : Hid (rt = true → -1073741824 ≤ rv ∧ rv ≤ 1073741824) := Lib.hid fun e => by
              have := HOK.out q hlt
              rw [HR.out, e] at this
              have h5 : (true && !inB rv (-1073741824) 1073741824) = false := this
              simp only [Bool.true_and, Bool.not_eq_false'] at h5
              exact inB_iff.1 h5
            obtain ⟨gb, hgb⟩ : ∃ gb, (rt && inB (rv - x) (-tol) tol) = gb := ⟨_, rfl⟩
            have HGB := Lib.hid hgb
            have HCN : Hid (cntV V l x q = if gb then 0 else wrap64 (V.cnt q + 1)) := Lib.hid (by unfold cntV; rw [HLV.out, HR.out, HTL.out, ← hgb]; rfl)
            have HNX : Hid (∀ w4, Below w3x.heap.size w3x w4 → gb = false → RvW w qb rb cb lb k #[.int .i64 tol, .int .i64 pat, .slice (some al) k cl, .slice (some ac) k cc] V.live (cntK V l x (q + 1)).cnt w4) := Lib.hid fun w4 h4 hg => (H3.out.below h4).congr (fun _ _ => rfl) fun i _ => by
              show (if i < q + 1 then cntV V l x i else V.cnt i) = if i = q then wrap64 (V.cnt q + 1) else if i < q then cntV V l x i else V.cnt i
              by_cases e : i = q
              · subst e
                rw [if_pos (Nat.lt_succ_self i), if_pos rfl, HCN.out, hg]; rfl
              · have : (i < q + 1) = (i < q) := by simp; omega
                rw [if_neg e]
                simp only [this]
            have HNY : Hid (∀ w4, Below w3x.heap.size w3x w4 → gb = true → RvW w qb rb cb lb k #[.int .i64 tol, .int .i64 pat, .slice (some al) k cl, .slice (some ac) k cc] V.live (cntK V l x (q + 1)).cnt (w4.setCell ⟨cb, q, none⟩ (.int .i64 0))) := Lib.hid fun w4 h4 hg => (H3.out.below h4).setC hlt _ fun i _ => by
              show (if i < q + 1 then cntV V l x i else V.cnt i) = if i = q then 0 else if i = q then wrap64 (V.cnt q + 1) else if i < q then cntV V l x i else V.cnt i
              by_cases e : i = q
              · subst e
                rw [if_pos (Nat.lt_succ_self i), if_pos rfl, HCN.out, hg]; rfl
              · have : (i < q + 1) = (i < q) := by simp; omega
                rw [if_neg e, if_neg e]
                simp only [this]
            rw [hw3]
            have cnfz : ∀ w4, Below w3x.heap.size w3x w4 → w4.cell? ⟨cb, q, none⟩ = some (.int .i64 (wrap64 (V.cnt q + 1))) ∧ w4.frozen? ⟨cb, q, none⟩ = false := fun w4 h4 => by
              have h5 := (H3.out.below h4).cnt.cell hlt
              rw [if_pos rfl] at h5; exact h5
            have HCF := Lib.hid cnfz
            clear hr hgb hw3 hs cnfz
            cases rt with
            | false =>
              have hgf : gb = false := by rw [← HGB.out]; rfl
              subst hgf
              refine wp_region_steps (by kernel_rfl) (by kernel_rfl) (fun w1 => Below w3x.heap.size w3x w1) (fun _ _ _ => True)
                (fun ix u _ _ => match ix with
                  | 0 => u = .slice (some ⟨b, off, none⟩) k c
                  | 1 => u = .int .i64 q
                  | 2 => u = .pointer (some ⟨b, off + q * 2, none⟩)
                  | 3 => u = .pointer (some ⟨b, off + q * 2 + 1, none⟩)
                  | 4 => u = .bool false
                  | 5 => u = .bool false
                  | 6 => True
                  | 7 => True
                  | 8 => True
                  | 9 => True
                  | 10 => True
                  | 11 => True
                  | 12 => True
                  | 13 => True
                  | 14 => True
                  | 15 => True
                  | 16 => True
                  | 17 => True
                  | 18 => True
                  | _ => u = .bool false) (Below.refl _ _).drew (fun _ _ _ _ _ _ _ _ h _ _ => h) ?_ ?_
              · refine ⟨?_, ?_, ?_, ?_, ?_, ?_, ?_, ?_, ?_, ?_, ?_, ?_, ?_, ?_, ?_, ?_, ?_, ?_, ?_, ?_, trivial⟩
                · intro a w1 vs K HJ HK HD HN kk
                  have e1 := HK 1 (by decide)
                  go_simp; exact kk _ _ (by simp) HJ trivial rfl
                · intro a w1 vs K HJ HK HD HN kk
                  have e13 := HK 13 (by decide)
                  go_simp; exact kk _ _ (by simp) HJ trivial rfl
                · intro a w1 vs K HJ HK HD HN kk
                  have e99 := (HD 0 _ 99 rfl rfl rfl).1.trans (HD 0 _ 99 rfl rfl rfl).2
                  have e100 := (HD 1 _ 100 rfl rfl rfl).1.trans (HD 1 _ 100 rfl rfl rfl).2
                  go_simp; exact kk _ _ (by simp) HJ trivial rfl
                · intro a w1 vs K HJ HK HD HN kk
                  have e101 := (HD 2 _ 101 rfl rfl rfl).1.trans (HD 2 _ 101 rfl rfl rfl).2
                  go_simp; exact kk _ _ (by simp) HJ trivial rfl
                · intro a w1 vs K HJ HK HD HN kk
                  have e102 := (HD 3 _ 102 rfl rfl rfl).1.trans (HD 3 _ 102 rfl rfl rfl).2
                  have ca := (HC3.out w1 HJ).2.1
                  go_simp; exact kk _ _ (by simp) HJ trivial rfl
                · intro a w1 vs K HJ HK HD HN kk
                  have e103 := (HD 4 _ 103 rfl rfl rfl).1.trans (HD 4 _ 103 rfl rfl rfl).2
                  go_simp; exact kk _ _ (by simp) HJ trivial rfl
                · intro a w1 vs K HJ HK HD HN kk
                  have e104 := (HD 5 _ 104 rfl rfl rfl).1.trans (HD 5 _ 104 rfl rfl rfl).2
                  rw [if_neg (wanted_no 5 true rfl rfl rfl e104)]
                  exact kk undef _ (by simp) HJ trivial trivial
                · intro a w1 vs K HJ HK HD HN kk
                  have e104 := (HD 5 _ 104 rfl rfl rfl).1.trans (HD 5 _ 104 rfl rfl rfl).2
                  rw [if_neg (wanted_no 5 true rfl rfl rfl e104)]
                  exact kk undef _ (by simp) HJ trivial trivial
                · intro a w1 vs K HJ HK HD HN kk
                  have e104 := (HD 5 _ 104 rfl rfl rfl).1.trans (HD 5 _ 104 rfl rfl rfl).2
                  rw [if_neg (wanted_no 5 true rfl rfl rfl e104)]
                  exact kk undef _ (by simp) HJ trivial trivial
                · intro a w1 vs K HJ HK HD HN kk
                  have e104 := (HD 5 _ 104 rfl rfl rfl).1.trans (HD 5 _ 104 rfl rfl rfl).2
                  rw [if_neg (wanted_no 5 true rfl rfl rfl e104)]
                  exact kk undef _ (by simp) HJ trivial trivial
                · intro a w1 vs K HJ HK HD HN kk
                  have e104 := (HD 5 _ 104 rfl rfl rfl).1.trans (HD 5 _ 104 rfl rfl rfl).2
                  rw [if_neg (wanted_no 5 true rfl rfl rfl e104)]
                  exact kk undef _ (by simp) HJ trivial trivial
                · intro a w1 vs K HJ HK HD HN kk
                  have e104 := (HD 5 _ 104 rfl rfl rfl).1.trans (HD 5 _ 104 rfl rfl rfl).2
                  rw [if_neg (wanted_no 5 true rfl rfl rfl e104)]
                  exact kk undef _ (by simp) HJ trivial trivial
                · intro a w1 vs K HJ HK HD HN kk
                  have e104 := (HD 5 _ 104 rfl rfl rfl).1.trans (HD 5 _ 104 rfl rfl rfl).2
                  rw [if_neg (wanted_no 5 true rfl rfl rfl e104)]
                  exact kk undef _ (by simp) HJ trivial trivial
                · intro a w1 vs K HJ HK HD HN kk
                  have e104 := (HD 5 _ 104 rfl rfl rfl).1.trans (HD 5 _ 104 rfl rfl rfl).2
                  rw [if_neg (wanted_no 5 true rfl rfl rfl e104)]
                  exact kk undef _ (by simp) HJ trivial trivial
                · intro a w1 vs K HJ HK HD HN kk
                  have e104 := (HD 5 _ 104 rfl rfl rfl).1.trans (HD 5 _ 104 rfl rfl rfl).2
                  rw [if_neg (wanted_no 5 true rfl rfl rfl e104)]
                  exact kk undef _ (by simp) HJ trivial trivial
                · intro a w1 vs K HJ HK HD HN kk
                  have e104 := (HD 5 _ 104 rfl rfl rfl).1.trans (HD 5 _ 104 rfl rfl rfl).2
                  rw [if_neg (wanted_no 5 true rfl rfl rfl e104)]
                  exact kk undef _ (by simp) HJ trivial trivial
                · intro a w1 vs K HJ HK HD HN kk
                  have e104 := (HD 5 _ 104 rfl rfl rfl).1.trans (HD 5 _ 104 rfl rfl rfl).2
                  rw [if_neg (wanted_no 5 true rfl rfl rfl e104)]
                  exact kk undef _ (by simp) HJ trivial trivial
                · intro a w1 vs K HJ HK HD HN kk
                  have e104 := (HD 5 _ 104 rfl rfl rfl).1.trans (HD 5 _ 104 rfl rfl rfl).2
                  rw [if_neg (wanted_no 5 true rfl rfl rfl e104)]
                  exact kk undef _ (by simp) HJ trivial trivial
                · intro a w1 vs K HJ HK HD HN kk
                  have e104 := (HD 5 _ 104 rfl rfl rfl).1.trans (HD 5 _ 104 rfl rfl rfl).2
                  rw [if_neg (wanted_no 5 true rfl rfl rfl e104)]
                  exact kk undef _ (by simp) HJ trivial trivial
                · intro a w1 vs K HJ HK HD HN kk
                  have e104 := (HD 5 _ 104 rfl rfl rfl).1.trans (HD 5 _ 104 rfl rfl rfl).2
                  go_simp; exact kk _ _ (by simp) HJ trivial rfl
              · intro vs w4 hw4 hrr
                have e19 : vs 19 = .bool false := hrr 19 _ rfl
                have HB4 := Lib.hid hw4
                clear hrr hw4
                simp only [putAll, Act.put, List.setIfInBounds_toArray, List.set_cons_zero, List.set_cons_succ]
                rw [e19]
                clear e19
                go_wp2_with fail
                go_roundw
                case rel => exact ⟨q + 1, by omega, by rw [hmn.out]; go_num, by go_num, Lib.hid (HNX.out w4 HB4.out rfl)⟩
                case measure => simp [intOf]; omega
            | true =>
              have hrv := HOK2.out rfl
              have htt := HT.out
              have HWI : Hid (∀ w4, Calls Try.prog 60 #[.int .i64 (rv - x), .int .i64 (-tol), .int .i64 tol] w4 fun e w' => e = .returned (.bool gb) ∧ Below w4.heap.size w4 w') := Lib.hid fun w4 => by
                have h := HIN.out (rv - x) (-tol) tol w4
                rw [show inB (rv - x) (-tol) tol = gb from by rw [← HGB.out]; rfl] at h
                refine h.mono ?_
                rintro e w' ⟨rfl, rfl⟩
                exact ⟨rfl, Below.refl _ _⟩
              refine wp_region_steps (by kernel_rfl) (by kernel_rfl) (fun w1 => Below w3x.heap.size w3x w1) (fun _ _ _ => True)
                (fun ix u _ _ => match ix with
                  | 0 => u = .slice (some ⟨b, off, none⟩) k c
                  | 1 => u = .int .i64 q
                  | 2 => u = .pointer (some ⟨b, off + q * 2, none⟩)
                  | 3 => u = .pointer (some ⟨b, off + q * 2 + 1, none⟩)
                  | 4 => u = .bool true
                  | 5 => u = .bool true
                  | 6 => u = .slice (some ⟨b, off, none⟩) k c
                  | 7 => u = .int .i64 q
                  | 8 => u = .pointer (some ⟨b, off + q * 2, none⟩)
                  | 9 => u = .pointer (some ⟨b, off + q * 2, none⟩)
                  | 10 => u = .int .i64 rv
                  | 11 => u = .int .i64 x
                  | 12 => u = .int .i64 (rv - x)
                  | 13 => u = .pointer (some ⟨qb, 0, none⟩)
                  | 14 => u = .int .i64 tol
                  | 15 => u = .int .i64 (-tol)
                  | 16 => u = .pointer (some ⟨qb, 0, none⟩)
                  | 17 => u = .int .i64 tol
                  | 18 => u = .bool gb
                  | _ => u = .bool gb) (Below.refl _ _).drew (fun _ _ _ _ _ _ _ _ h _ _ => h) ?_ ?_
              · refine ⟨?_, ?_, ?_, ?_, ?_, ?_, ?_, ?_, ?_, ?_, ?_, ?_, ?_, ?_, ?_, ?_, ?_, ?_, ?_, ?_, trivial⟩
                · intro a w1 vs K HJ HK HD HN kk
                  have e1 := HK 1 (by decide)
                  go_simp; exact kk _ _ (by simp) HJ trivial rfl
                · intro a w1 vs K HJ HK HD HN kk
                  have e13 := HK 13 (by decide)
                  go_simp; exact kk _ _ (by simp) HJ trivial rfl
                · intro a w1 vs K HJ HK HD HN kk
                  have e99 := (HD 0 _ 99 rfl rfl rfl).1.trans (HD 0 _ 99 rfl rfl rfl).2
                  have e100 := (HD 1 _ 100 rfl rfl rfl).1.trans (HD 1 _ 100 rfl rfl rfl).2
                  go_simp; exact kk _ _ (by simp) HJ trivial rfl
                · intro a w1 vs K HJ HK HD HN kk
                  have e101 := (HD 2 _ 101 rfl rfl rfl).1.trans (HD 2 _ 101 rfl rfl rfl).2
                  go_simp; exact kk _ _ (by simp) HJ trivial rfl
                · intro a w1 vs K HJ HK HD HN kk
                  have e102 := (HD 3 _ 102 rfl rfl rfl).1.trans (HD 3 _ 102 rfl rfl rfl).2
                  have ca := (HC3.out w1 HJ).2.1
                  go_simp; exact kk _ _ (by simp) HJ trivial rfl
                · intro a w1 vs K HJ HK HD HN kk
                  have e103 := (HD 4 _ 103 rfl rfl rfl).1.trans (HD 4 _ 103 rfl rfl rfl).2
                  go_simp; exact kk _ _ (by simp) HJ trivial rfl
                · intro a w1 vs K HJ HK HD HN kk
                  have e104 := (HD 5 _ 104 rfl rfl rfl).1.trans (HD 5 _ 104 rfl rfl rfl).2
                  rw [if_pos (wanted_yes 5 true rfl rfl rfl e104)]
                  have e1 := HK 1 (by decide)
                  go_simp; exact kk _ _ (by simp) HJ trivial rfl
                · intro a w1 vs K HJ HK HD HN kk
                  have e104 := (HD 5 _ 104 rfl rfl rfl).1.trans (HD 5 _ 104 rfl rfl rfl).2
                  rw [if_pos (wanted_yes 5 true rfl rfl rfl e104)]
                  have e13 := HK 13 (by decide)
                  go_simp; exact kk _ _ (by simp) HJ trivial rfl
                · intro a w1 vs K HJ HK HD HN kk
                  have e104 := (HD 5 _ 104 rfl rfl rfl).1.trans (HD 5 _ 104 rfl rfl rfl).2
                  rw [if_pos (wanted_yes 5 true rfl rfl rfl e104)]
                  have e105 := (HD 6 _ 105 rfl rfl rfl).1.trans (HD 6 _ 105 rfl rfl rfl).2
                  have e106 := (HD 7 _ 106 rfl rfl rfl).1.trans (HD 7 _ 106 rfl rfl rfl).2
                  go_simp; exact kk _ _ (by simp) HJ trivial rfl
                · intro a w1 vs K HJ HK HD HN kk
                  have e104 := (HD 5 _ 104 rfl rfl rfl).1.trans (HD 5 _ 104 rfl rfl rfl).2
                  rw [if_pos (wanted_yes 5 true rfl rfl rfl e104)]
                  have e107 := (HD 8 _ 107 rfl rfl rfl).1.trans (HD 8 _ 107 rfl rfl rfl).2
                  go_simp; exact kk _ _ (by simp) HJ trivial rfl
                · intro a w1 vs K HJ HK HD HN kk
                  have e104 := (HD 5 _ 104 rfl rfl rfl).1.trans (HD 5 _ 104 rfl rfl rfl).2
                  rw [if_pos (wanted_yes 5 true rfl rfl rfl e104)]
                  have e108 := (HD 9 _ 108 rfl rfl rfl).1.trans (HD 9 _ 108 rfl rfl rfl).2
                  have ca := (HC3.out w1 HJ).1
                  go_simp; exact kk _ _ (by simp) HJ trivial rfl
                · intro a w1 vs K HJ HK HD HN kk
                  have e104 := (HD 5 _ 104 rfl rfl rfl).1.trans (HD 5 _ 104 rfl rfl rfl).2
                  rw [if_pos (wanted_yes 5 true rfl rfl rfl e104)]
                  have e9 := HK 9 (by decide)
                  go_simp; exact kk _ _ (by simp) HJ trivial rfl
                · intro a w1 vs K HJ HK HD HN kk
                  have e104 := (HD 5 _ 104 rfl rfl rfl).1.trans (HD 5 _ 104 rfl rfl rfl).2
                  rw [if_pos (wanted_yes 5 true rfl rfl rfl e104)]
                  have e109 := (HD 10 _ 109 rfl rfl rfl).1.trans (HD 10 _ 109 rfl rfl rfl).2
                  have e110 := (HD 11 _ 110 rfl rfl rfl).1.trans (HD 11 _ 110 rfl rfl rfl).2
                  have hws : IntKind.i64.wrap (rv - x) = rv - x := IntWalk.i64_in _ (by omega)
                  go_simp; exact kk _ _ (by simp) HJ trivial (by first | rfl | (show Value.int _ _ = Value.int _ _; rw [hws]))
                · intro a w1 vs K HJ HK HD HN kk
                  have e104 := (HD 5 _ 104 rfl rfl rfl).1.trans (HD 5 _ 104 rfl rfl rfl).2
                  rw [if_pos (wanted_yes 5 true rfl rfl rfl e104)]
                  have e2 := HK 2 (by decide)
                  go_simp; exact kk _ _ (by simp) HJ trivial rfl
                · intro a w1 vs K HJ HK HD HN kk
                  have e104 := (HD 5 _ 104 rfl rfl rfl).1.trans (HD 5 _ 104 rfl rfl rfl).2
                  rw [if_pos (wanted_yes 5 true rfl rfl rfl e104)]
                  have e112 := (HD 13 _ 112 rfl rfl rfl).1.trans (HD 13 _ 112 rfl rfl rfl).2
                  have ca := (HC3.out w1 HJ).2.2
                  go_simp; exact kk _ _ (by simp) HJ trivial rfl
                · intro a w1 vs K HJ HK HD HN kk
                  have e104 := (HD 5 _ 104 rfl rfl rfl).1.trans (HD 5 _ 104 rfl rfl rfl).2
                  rw [if_pos (wanted_yes 5 true rfl rfl rfl e104)]
                  have e113 := (HD 14 _ 113 rfl rfl rfl).1.trans (HD 14 _ 113 rfl rfl rfl).2
                  have hws : IntKind.i64.wrap (-tol) = -tol := IntWalk.i64_in _ (by omega)
                  go_simp; exact kk _ _ (by simp) HJ trivial (by first | rfl | (show Value.int _ _ = Value.int _ _; rw [hws]))
                · intro a w1 vs K HJ HK HD HN kk
                  have e104 := (HD 5 _ 104 rfl rfl rfl).1.trans (HD 5 _ 104 rfl rfl rfl).2
                  rw [if_pos (wanted_yes 5 true rfl rfl rfl e104)]
                  have e2 := HK 2 (by decide)
                  go_simp; exact kk _ _ (by simp) HJ trivial rfl
                · intro a w1 vs K HJ HK HD HN kk
                  have e104 := (HD 5 _ 104 rfl rfl rfl).1.trans (HD 5 _ 104 rfl rfl rfl).2
                  rw [if_pos (wanted_yes 5 true rfl rfl rfl e104)]
                  have e115 := (HD 16 _ 115 rfl rfl rfl).1.trans (HD 16 _ 115 rfl rfl rfl).2
                  have ca := (HC3.out w1 HJ).2.2
                  go_simp; exact kk _ _ (by simp) HJ trivial rfl
                · intro a w1 vs K HJ HK HD HN kk
                  have e104 := (HD 5 _ 104 rfl rfl rfl).1.trans (HD 5 _ 104 rfl rfl rfl).2
                  rw [if_pos (wanted_yes 5 true rfl rfl rfl e104)]
                  have e111 := (HD 12 _ 111 rfl rfl rfl).1.trans (HD 12 _ 111 rfl rfl rfl).2
                  have e114 := (HD 15 _ 114 rfl rfl rfl).1.trans (HD 15 _ 114 rfl rfl rfl).2
                  have e116 := (HD 17 _ 116 rfl rfl rfl).1.trans (HD 17 _ 116 rfl rfl rfl).2
                  exact wpo_call 60 _ _ rfl #[.int .i64 (rv - x), .int .i64 (-tol), .int .i64 tol] (by simp [Act.eval, e111, e114, e116]) (fun args w => by kernel_rfl)
                    ((HWI.out w1).mono fun e w' ⟨he, hb⟩ => ⟨_, he, kk _ _ (by simp) (Below.trans HJ (hb.mono HJ.size)) trivial rfl⟩)
                · intro a w1 vs K HJ HK HD HN kk
                  have e104 := (HD 5 _ 104 rfl rfl rfl).1.trans (HD 5 _ 104 rfl rfl rfl).2
                  have e117 := (HD 18 _ 117 rfl rfl rfl).1.trans (HD 18 _ 117 rfl rfl rfl).2
                  go_simp; exact kk _ _ (by simp) HJ trivial rfl
              · intro vs w4 hw4 hrr
                have e19 : vs 19 = .bool gb := hrr 19 _ rfl
                have HB4 := Lib.hid hw4
                obtain ⟨cn, cnf⟩ := HCF.out w4 hw4
                clear hrr hw4
                simp only [putAll, Act.put, List.setIfInBounds_toArray, List.set_cons_zero, List.set_cons_succ]
                rw [e19]
                clear e19
                cases gb with
                | false =>
                  go_wp2_with fail
                  go_roundw
                  case rel => exact ⟨q + 1, by omega, by rw [hmn.out]; go_num, by go_num, Lib.hid (HNX.out w4 HB4.out rfl)⟩
                  case measure => simp [intOf]; omega
                | true =>
                  go_wp2_with fail
                  go_roundw
                  case rel => exact ⟨q + 1, by omega, by rw [hmn.out]; go_num, by go_num, Lib.hid (HNY.out w4 HB4.out rfl)⟩
                  case measure => simp [intOf]; omega
        · obtain rfl : q = k := by omega
          clear hlt
          go_wp2_with fail
          go_loopw [12, 14] (fun mm i wr => ∃ j : Nat, j ≤ q ∧ mm = .int .i64 (dropK (cntK V l x q) mq j).2 ∧ i = .int .i64 j ∧ Hid (RvW w qb rb cb lb q #[.int .i64 tol, .int .i64 pat, .slice (some al) q cl, .slice (some ac) q cc] (dropK (cntK V l x q) mq j).1.live (dropK (cntK V l x q) mq j).1.cnt wr)) (fun _ i _ => q - (intOf i).toNat)
          case atStart => exact ⟨0, Nat.zero_le _, rfl, rfl, hs⟩
          case round =>
            clear hs
            obtain ⟨j, hj, rfl, rfl, hs⟩ := hrel
            obtain ⟨hsn, hst, hsp, hsm⟩ := dropK_same (cntK V l x q) mq j
            have hdk := dropK_succ (cntK V l x q) mq j
            by_cases hlt : j < q
            · have hki : (j : Int) < (q : Int) := by omega
              have h0k : (0 : Int) ≤ (j : Int) := by omega
              obtain ⟨⟨U, mr⟩, hD⟩ : ∃ D, dropK (cntK V l x q) mq j = D := ⟨_, rfl⟩
              rw [hD] at hs hsn hst hsp hsm hdk ⊢
              simp only at hsn hst hsp hsm hdk ⊢
              have hpt : U.pat = pat := hsp.trans HPT.out
              obtain ⟨lv, hlv⟩ : ∃ lv, U.live j = lv := ⟨_, rfl⟩
              obtain ⟨cq, hcq⟩ : ∃ cq, U.cnt j = cq := ⟨_, rfl⟩
              rw [hlv, hcq, hpt] at hdk
              have HCE : Hid (∀ w1, Below wr.heap.size wr w1 → w1.cell? ⟨lb, j, none⟩ = some (.bool lv) ∧ w1.frozen? ⟨lb, j, none⟩ = false ∧ w1.cell? ⟨cb, j, none⟩ = some (.int .i64 cq) ∧ w1.frozen? ⟨cb, j, none⟩ = false ∧ w1.cell? ⟨qb, 1, none⟩ = some (.int .i64 pat)) := Lib.hid fun w1 h1 => by
                have h := hs.out.below h1
                obtain ⟨h2, h3⟩ := h.liv.cell hlt
                obtain ⟨h4, h5⟩ := h.cnt.cell hlt
                rw [hlv] at h2
                rw [hcq] at h4
                exact ⟨h2, h3, h4, h5, h.box.cell 1⟩
              have HDK := Lib.hid hdk
              have HPU := Lib.hid hpt
              have HNX : Hid (∀ w4, Below wr.heap.size wr w4 → RvW w qb rb cb lb q #[.int .i64 tol, .int .i64 pat, .slice (some al) q cl, .slice (some ac) q cc] U.live U.cnt w4) := Lib.hid fun w4 h4 => hs.out.below h4
              have HNY : Hid (∀ w4, Below wr.heap.size wr w4 → RvW w qb rb cb lb q #[.int .i64 tol, .int .i64 pat, .slice (some al) q cl, .slice (some ac) q cc] (fun i => if i = j then false else U.live i) (fun i => if i = j then 0 else U.cnt i) ((w4.setCell ⟨lb, j, none⟩ (.bool false)).setCell ⟨cb, j, none⟩ (.int .i64 0))) := Lib.hid fun w4 h4 => ((hs.out.below h4).setL hlt _ (fun _ _ => rfl)).setC hlt _ (fun _ _ => rfl)
              have HCM : Hid (∀ w4, Below wr.heap.size wr w4 → (w4.setCell ⟨lb, j, none⟩ (.bool false)).cell? ⟨cb, j, none⟩ = some (.int .i64 cq) ∧ (w4.setCell ⟨lb, j, none⟩ (.bool false)).frozen? ⟨cb, j, none⟩ = false) := Lib.hid fun w4 h4 => by
                have h5 := ((hs.out.below h4).setL (L' := fun i => if i = j then false else U.live i) hlt _ (fun _ _ => rfl)).cnt.cell hlt
                rw [hcq] at h5; exact h5
              clear hdk hlv hcq hpt hsn hst hsp hD hs
              cases lv with
              | false =>
                have HE : Hid (dropK (cntK V l x q) mq (j + 1) = (U, mr)) := Lib.hid (by rw [HDK.out]; rfl)
                go_wp2_with fail
                refine wp_region_steps (by kernel_rfl) (by kernel_rfl) (fun w1 => Below wr.heap.size wr w1) (fun _ _ _ => True)
                  (fun ix u _ _ => match ix with
                    | 0 => u = .slice (some ⟨lb, 0, none⟩) q cL
                    | 1 => u = .int .i64 j
                    | 2 => u = .pointer (some ⟨lb, j, none⟩)
                    | 3 => u = .bool false
                    | 4 => u = .bool false
                    | 5 => True
                    | 6 => True
                    | 7 => True
                    | 8 => True
                    | 9 => True
                    | 10 => True
                    | 11 => True
                    | 12 => u = .bool false
                    | 13 => u = .bool false
                    | 14 => True
                    | 15 => True
                    | _ => u = .bool false) (Below.refl _ _).drew (fun _ _ _ _ _ _ _ _ h _ _ => h) ?_ ?_
                · refine ⟨?_, ?_, ?_, ?_, ?_, ?_, ?_, ?_, ?_, ?_, ?_, ?_, ?_, ?_, ?_, ?_, ?_, trivial⟩
                  · intro a w1 vs K HJ HK HD HN kk
                    have e11 := HK 11 (by decide)
                    go_simp; exact kk _ _ (by simp) HJ trivial rfl
                  · intro a w1 vs K HJ HK HD HN kk
                    have e14 := HK 14 (by decide)
                    go_simp; exact kk _ _ (by simp) HJ trivial rfl
                  · intro a w1 vs K HJ HK HD HN kk
                    have e128 := (HD 0 _ 128 rfl rfl rfl).1.trans (HD 0 _ 128 rfl rfl rfl).2
                    have e129 := (HD 1 _ 129 rfl rfl rfl).1.trans (HD 1 _ 129 rfl rfl rfl).2
                    go_simp; exact kk _ _ (by simp) HJ trivial rfl
                  · intro a w1 vs K HJ HK HD HN kk
                    have e130 := (HD 2 _ 130 rfl rfl rfl).1.trans (HD 2 _ 130 rfl rfl rfl).2
                    have ca := (HCE.out w1 HJ).1
                    go_simp; exact kk _ _ (by simp) HJ trivial rfl
                  · intro a w1 vs K HJ HK HD HN kk
                    have e131 := (HD 3 _ 131 rfl rfl rfl).1.trans (HD 3 _ 131 rfl rfl rfl).2
                    go_simp; exact kk _ _ (by simp) HJ trivial rfl
                  · intro a w1 vs K HJ HK HD HN kk
                    have e132 := (HD 4 _ 132 rfl rfl rfl).1.trans (HD 4 _ 132 rfl rfl rfl).2
                    rw [if_neg (wanted_no 4 true rfl rfl rfl e132)]
                    exact kk undef _ (by simp) HJ trivial trivial
                  · intro a w1 vs K HJ HK HD HN kk
                    have e132 := (HD 4 _ 132 rfl rfl rfl).1.trans (HD 4 _ 132 rfl rfl rfl).2
                    rw [if_neg (wanted_no 4 true rfl rfl rfl e132)]
                    exact kk undef _ (by simp) HJ trivial trivial
                  · intro a w1 vs K HJ HK HD HN kk
                    have e132 := (HD 4 _ 132 rfl rfl rfl).1.trans (HD 4 _ 132 rfl rfl rfl).2
                    rw [if_neg (wanted_no 4 true rfl rfl rfl e132)]
                    exact kk undef _ (by simp) HJ trivial trivial
                  · intro a w1 vs K HJ HK HD HN kk
                    have e132 := (HD 4 _ 132 rfl rfl rfl).1.trans (HD 4 _ 132 rfl rfl rfl).2
                    rw [if_neg (wanted_no 4 true rfl rfl rfl e132)]
                    exact kk undef _ (by simp) HJ trivial trivial
                  · intro a w1 vs K HJ HK HD HN kk
                    have e132 := (HD 4 _ 132 rfl rfl rfl).1.trans (HD 4 _ 132 rfl rfl rfl).2
                    rw [if_neg (wanted_no 4 true rfl rfl rfl e132)]
                    exact kk undef _ (by simp) HJ trivial trivial
                  · intro a w1 vs K HJ HK HD HN kk
                    have e132 := (HD 4 _ 132 rfl rfl rfl).1.trans (HD 4 _ 132 rfl rfl rfl).2
                    rw [if_neg (wanted_no 4 true rfl rfl rfl e132)]
                    exact kk undef _ (by simp) HJ trivial trivial
                  · intro a w1 vs K HJ HK HD HN kk
                    have e132 := (HD 4 _ 132 rfl rfl rfl).1.trans (HD 4 _ 132 rfl rfl rfl).2
                    rw [if_neg (wanted_no 4 true rfl rfl rfl e132)]
                    exact kk undef _ (by simp) HJ trivial trivial
                  · intro a w1 vs K HJ HK HD HN kk
                    have e132 := (HD 4 _ 132 rfl rfl rfl).1.trans (HD 4 _ 132 rfl rfl rfl).2
                    go_simp; exact kk _ _ (by simp) HJ trivial rfl
                  · intro a w1 vs K HJ HK HD HN kk
                    have e140 := (HD 12 _ 140 rfl rfl rfl).1.trans (HD 12 _ 140 rfl rfl rfl).2
                    go_simp; exact kk _ _ (by simp) HJ trivial rfl
                  · intro a w1 vs K HJ HK HD HN kk
                    have e141 := (HD 13 _ 141 rfl rfl rfl).1.trans (HD 13 _ 141 rfl rfl rfl).2
                    rw [if_neg (wanted_no 13 true rfl rfl rfl e141)]
                    exact kk undef _ (by simp) HJ trivial trivial
                  · intro a w1 vs K HJ HK HD HN kk
                    have e141 := (HD 13 _ 141 rfl rfl rfl).1.trans (HD 13 _ 141 rfl rfl rfl).2
                    rw [if_neg (wanted_no 13 true rfl rfl rfl e141)]
                    exact kk undef _ (by simp) HJ trivial trivial
                  · intro a w1 vs K HJ HK HD HN kk
                    have e141 := (HD 13 _ 141 rfl rfl rfl).1.trans (HD 13 _ 141 rfl rfl rfl).2
                    go_simp; exact kk _ _ (by simp) HJ trivial rfl
                · intro vs w4 hw4 hrr
                  have e16 : vs 16 = .bool false := hrr 16 _ rfl
                  have HB4 := Lib.hid hw4
                  clear hrr hw4
                  simp only [putAll, Act.put, List.setIfInBounds_toArray, List.set_cons_zero, List.set_cons_succ]
                  rw [e16]
                  clear e16
                  go_wp2_with fail
                  go_roundw
                  case rel => exact ⟨j + 1, by omega, by rw [HE.out], by go_num, Lib.hid (by rw [HE.out]; exact HNX.out w4 HB4.out)⟩
                  case measure => simp [intOf]; omega
              | true =>
                obtain ⟨pc, hpc⟩ : ∃ pc, decide (pat < cq) = pc := ⟨_, rfl⟩
                have HPC := Lib.hid hpc
                rw [Bool.true_and, hpc] at HDK
                clear hpc
                cases pc with
                | false =>
                  have HE : Hid (dropK (cntK V l x q) mq (j + 1) = (U, mr)) := Lib.hid (by rw [HDK.out]; rfl)
                  go_wp2_with fail
                  refine wp_region_steps (by kernel_rfl) (by kernel_rfl) (fun w1 => Below wr.heap.size wr w1) (fun _ _ _ => True)
                    (fun ix u _ _ => match ix with
                      | 0 => u = .slice (some ⟨lb, 0, none⟩) q cL
                      | 1 => u = .int .i64 j
                      | 2 => u = .pointer (some ⟨lb, j, none⟩)
                      | 3 => u = .bool true
                      | 4 => u = .bool true
                      | 5 => u = .slice (some ⟨cb, 0, none⟩) q cC
                      | 6 => u = .int .i64 j
                      | 7 => u = .pointer (some ⟨cb, j, none⟩)
                      | 8 => u = .int .i64 cq
                      | 9 => u = .pointer (some ⟨qb, 1, none⟩)
                      | 10 => u = .int .i64 pat
                      | 11 => u = .bool false
                      | 12 => u = .bool false
                      | 13 => u = .bool false
                      | 14 => True
                      | 15 => True
                      | _ => u = .bool false) (Below.refl _ _).drew (fun _ _ _ _ _ _ _ _ h _ _ => h) ?_ ?_
                  · refine ⟨?_, ?_, ?_, ?_, ?_, ?_, ?_, ?_, ?_, ?_, ?_, ?_, ?_, ?_, ?_, ?_, ?_, trivial⟩
                    · intro a w1 vs K HJ HK HD HN kk
                      have e11 := HK 11 (by decide)
                      go_simp; exact kk _ _ (by simp) HJ trivial rfl
                    · intro a w1 vs K HJ HK HD HN kk
                      have e14 := HK 14 (by decide)
                      go_simp; exact kk _ _ (by simp) HJ trivial rfl
                    · intro a w1 vs K HJ HK HD HN kk
                      have e128 := (HD 0 _ 128 rfl rfl rfl).1.trans (HD 0 _ 128 rfl rfl rfl).2
                      have e129 := (HD 1 _ 129 rfl rfl rfl).1.trans (HD 1 _ 129 rfl rfl rfl).2
                      go_simp; exact kk _ _ (by simp) HJ trivial rfl
                    · intro a w1 vs K HJ HK HD HN kk
                      have e130 := (HD 2 _ 130 rfl rfl rfl).1.trans (HD 2 _ 130 rfl rfl rfl).2
                      have ca := (HCE.out w1 HJ).1
                      go_simp; exact kk _ _ (by simp) HJ trivial rfl
                    · intro a w1 vs K HJ HK HD HN kk
                      have e131 := (HD 3 _ 131 rfl rfl rfl).1.trans (HD 3 _ 131 rfl rfl rfl).2
                      go_simp; exact kk _ _ (by simp) HJ trivial rfl
                    · intro a w1 vs K HJ HK HD HN kk
                      have e132 := (HD 4 _ 132 rfl rfl rfl).1.trans (HD 4 _ 132 rfl rfl rfl).2
                      rw [if_pos (wanted_yes 4 true rfl rfl rfl e132)]
                      have e10 := HK 10 (by decide)
                      go_simp; exact kk _ _ (by simp) HJ trivial rfl
                    · intro a w1 vs K HJ HK HD HN kk
                      have e132 := (HD 4 _ 132 rfl rfl rfl).1.trans (HD 4 _ 132 rfl rfl rfl).2
                      rw [if_pos (wanted_yes 4 true rfl rfl rfl e132)]
                      have e14 := HK 14 (by decide)
                      go_simp; exact kk _ _ (by simp) HJ trivial rfl
                    · intro a w1 vs K HJ HK HD HN kk
                      have e132 := (HD 4 _ 132 rfl rfl rfl).1.trans (HD 4 _ 132 rfl rfl rfl).2
                      rw [if_pos (wanted_yes 4 true rfl rfl rfl e132)]
                      have e133 := (HD 5 _ 133 rfl rfl rfl).1.trans (HD 5 _ 133 rfl rfl rfl).2
                      have e134 := (HD 6 _ 134 rfl rfl rfl).1.trans (HD 6 _ 134 rfl rfl rfl).2
                      go_simp; exact kk _ _ (by simp) HJ trivial rfl
                    · intro a w1 vs K HJ HK HD HN kk
                      have e132 := (HD 4 _ 132 rfl rfl rfl).1.trans (HD 4 _ 132 rfl rfl rfl).2
                      rw [if_pos (wanted_yes 4 true rfl rfl rfl e132)]
                      have e135 := (HD 7 _ 135 rfl rfl rfl).1.trans (HD 7 _ 135 rfl rfl rfl).2
                      have ca := (HCE.out w1 HJ).2.2.1
                      go_simp; exact kk _ _ (by simp) HJ trivial rfl
                    · intro a w1 vs K HJ HK HD HN kk
                      have e132 := (HD 4 _ 132 rfl rfl rfl).1.trans (HD 4 _ 132 rfl rfl rfl).2
                      rw [if_pos (wanted_yes 4 true rfl rfl rfl e132)]
                      have e2 := HK 2 (by decide)
                      go_simp; exact kk _ _ (by simp) HJ trivial rfl
                    · intro a w1 vs K HJ HK HD HN kk
                      have e132 := (HD 4 _ 132 rfl rfl rfl).1.trans (HD 4 _ 132 rfl rfl rfl).2
                      rw [if_pos (wanted_yes 4 true rfl rfl rfl e132)]
                      have e137 := (HD 9 _ 137 rfl rfl rfl).1.trans (HD 9 _ 137 rfl rfl rfl).2
                      have ca := (HCE.out w1 HJ).2.2.2.2
                      go_simp; exact kk _ _ (by simp) HJ trivial rfl
                    · intro a w1 vs K HJ HK HD HN kk
                      have e132 := (HD 4 _ 132 rfl rfl rfl).1.trans (HD 4 _ 132 rfl rfl rfl).2
                      rw [if_pos (wanted_yes 4 true rfl rfl rfl e132)]
                      have e136 := (HD 8 _ 136 rfl rfl rfl).1.trans (HD 8 _ 136 rfl rfl rfl).2
                      have e138 := (HD 10 _ 138 rfl rfl rfl).1.trans (HD 10 _ 138 rfl rfl rfl).2
                      have hpc := HPC.out
                      go_simp; exact kk _ _ (by simp) HJ trivial rfl
                    · intro a w1 vs K HJ HK HD HN kk
                      have e132 := (HD 4 _ 132 rfl rfl rfl).1.trans (HD 4 _ 132 rfl rfl rfl).2
                      have e139 := (HD 11 _ 139 rfl rfl rfl).1.trans (HD 11 _ 139 rfl rfl rfl).2
                      go_simp; exact kk _ _ (by simp) HJ trivial rfl
                    · intro a w1 vs K HJ HK HD HN kk
                      have e140 := (HD 12 _ 140 rfl rfl rfl).1.trans (HD 12 _ 140 rfl rfl rfl).2
                      go_simp; exact kk _ _ (by simp) HJ trivial rfl
                    · intro a w1 vs K HJ HK HD HN kk
                      have e141 := (HD 13 _ 141 rfl rfl rfl).1.trans (HD 13 _ 141 rfl rfl rfl).2
                      rw [if_neg (wanted_no 13 true rfl rfl rfl e141)]
                      exact kk undef _ (by simp) HJ trivial trivial
                    · intro a w1 vs K HJ HK HD HN kk
                      have e141 := (HD 13 _ 141 rfl rfl rfl).1.trans (HD 13 _ 141 rfl rfl rfl).2
                      rw [if_neg (wanted_no 13 true rfl rfl rfl e141)]
                      exact kk undef _ (by simp) HJ trivial trivial
                    · intro a w1 vs K HJ HK HD HN kk
                      have e141 := (HD 13 _ 141 rfl rfl rfl).1.trans (HD 13 _ 141 rfl rfl rfl).2
                      go_simp; exact kk _ _ (by simp) HJ trivial rfl
                  · intro vs w4 hw4 hrr
                    have e16 : vs 16 = .bool false := hrr 16 _ rfl
                    have HB4 := Lib.hid hw4
                    clear hrr hw4
                    simp only [putAll, Act.put, List.setIfInBounds_toArray, List.set_cons_zero, List.set_cons_succ]
                    rw [e16]
                    clear e16
                    go_wp2_with fail
                    go_roundw
                    case rel => exact ⟨j + 1, by omega, by rw [HE.out], by go_num, Lib.hid (by rw [HE.out]; exact HNX.out w4 HB4.out)⟩
                    case measure => simp [intOf]; omega
                | true =>
                  obtain ⟨mb, hmb⟩ : ∃ mb, decide (2 < mr) = mb := ⟨_, rfl⟩
                  have HMB : Hid (decide ((2 : Int) < (mr : Int)) = mb) := Lib.hid (by rw [← hmb]; exact decide_eq_decide.2 (by omega))
                  rw [Bool.true_and, hmb] at HDK
                  go_wp2_with fail
                  refine wp_region_steps (by kernel_rfl) (by kernel_rfl) (fun w1 => Below wr.heap.size wr w1) (fun _ _ _ => True)
                    (fun ix u _ _ => match ix with
                      | 0 => u = .slice (some ⟨lb, 0, none⟩) q cL
                      | 1 => u = .int .i64 j
                      | 2 => u = .pointer (some ⟨lb, j, none⟩)
                      | 3 => u = .bool true
                      | 4 => u = .bool true
                      | 5 => u = .slice (some ⟨cb, 0, none⟩) q cC
                      | 6 => u = .int .i64 j
                      | 7 => u = .pointer (some ⟨cb, j, none⟩)
                      | 8 => u = .int .i64 cq
                      | 9 => u = .pointer (some ⟨qb, 1, none⟩)
                      | 10 => u = .int .i64 pat
                      | 11 => u = .bool true
                      | 12 => u = .bool true
                      | 13 => u = .bool true
                      | 14 => u = .int .i64 mr
                      | 15 => u = .bool mb
                      | _ => u = .bool mb) (Below.refl _ _).drew (fun _ _ _ _ _ _ _ _ h _ _ => h) ?_ ?_
                  · refine ⟨?_, ?_, ?_, ?_, ?_, ?_, ?_, ?_, ?_, ?_, ?_, ?_, ?_, ?_, ?_, ?_, ?_, trivial⟩
                    · intro a w1 vs K HJ HK HD HN kk
                      have e11 := HK 11 (by decide)
                      go_simp; exact kk _ _ (by simp) HJ trivial rfl
                    · intro a w1 vs K HJ HK HD HN kk
                      have e14 := HK 14 (by decide)
                      go_simp; exact kk _ _ (by simp) HJ trivial rfl
                    · intro a w1 vs K HJ HK HD HN kk
                      have e128 := (HD 0 _ 128 rfl rfl rfl).1.trans (HD 0 _ 128 rfl rfl rfl).2
                      have e129 := (HD 1 _ 129 rfl rfl rfl).1.trans (HD 1 _ 129 rfl rfl rfl).2
                      go_simp; exact kk _ _ (by simp) HJ trivial rfl
                    · intro a w1 vs K HJ HK HD HN kk
                      have e130 := (HD 2 _ 130 rfl rfl rfl).1.trans (HD 2 _ 130 rfl rfl rfl).2
                      have ca := (HCE.out w1 HJ).1
                      go_simp; exact kk _ _ (by simp) HJ trivial rfl
                    · intro a w1 vs K HJ HK HD HN kk
                      have e131 := (HD 3 _ 131 rfl rfl rfl).1.trans (HD 3 _ 131 rfl rfl rfl).2
                      go_simp; exact kk _ _ (by simp) HJ trivial rfl
                    · intro a w1 vs K HJ HK HD HN kk
                      have e132 := (HD 4 _ 132 rfl rfl rfl).1.trans (HD 4 _ 132 rfl rfl rfl).2
                      rw [if_pos (wanted_yes 4 true rfl rfl rfl e132)]
                      have e10 := HK 10 (by decide)
                      go_simp; exact kk _ _ (by simp) HJ trivial rfl
                    · intro a w1 vs K HJ HK HD HN kk
                      have e132 := (HD 4 _ 132 rfl rfl rfl).1.trans (HD 4 _ 132 rfl rfl rfl).2
                      rw [if_pos (wanted_yes 4 true rfl rfl rfl e132)]
                      have e14 := HK 14 (by decide)
                      go_simp; exact kk _ _ (by simp) HJ trivial rfl
                    · intro a w1 vs K HJ HK HD HN kk
                      have e132 := (HD 4 _ 132 rfl rfl rfl).1.trans (HD 4 _ 132 rfl rfl rfl).2
                      rw [if_pos (wanted_yes 4 true rfl rfl rfl e132)]
                      have e133 := (HD 5 _ 133 rfl rfl rfl).1.trans (HD 5 _ 133 rfl rfl rfl).2
                      have e134 := (HD 6 _ 134 rfl rfl rfl).1.trans (HD 6 _ 134 rfl rfl rfl).2
                      go_simp; exact kk _ _ (by simp) HJ trivial rfl
                    · intro a w1 vs K HJ HK HD HN kk
                      have e132 := (HD 4 _ 132 rfl rfl rfl).1.trans (HD 4 _ 132 rfl rfl rfl).2
                      rw [if_pos (wanted_yes 4 true rfl rfl rfl e132)]
                      have e135 := (HD 7 _ 135 rfl rfl rfl).1.trans (HD 7 _ 135 rfl rfl rfl).2
                      have ca := (HCE.out w1 HJ).2.2.1
                      go_simp; exact kk _ _ (by simp) HJ trivial rfl
                    · intro a w1 vs K HJ HK HD HN kk
                      have e132 := (HD 4 _ 132 rfl rfl rfl).1.trans (HD 4 _ 132 rfl rfl rfl).2
                      rw [if_pos (wanted_yes 4 true rfl rfl rfl e132)]
                      have e2 := HK 2 (by decide)
                      go_simp; exact kk _ _ (by simp) HJ trivial rfl
                    · intro a w1 vs K HJ HK HD HN kk
                      have e132 := (HD 4 _ 132 rfl rfl rfl).1.trans (HD 4 _ 132 rfl rfl rfl).2
                      rw [if_pos (wanted_yes 4 true rfl rfl rfl e132)]
                      have e137 := (HD 9 _ 137 rfl rfl rfl).1.trans (HD 9 _ 137 rfl rfl rfl).2
                      have ca := (HCE.out w1 HJ).2.2.2.2
                      go_simp; exact kk _ _ (by simp) HJ trivial rfl
                    · intro a w1 vs K HJ HK HD HN kk
                      have e132 := (HD 4 _ 132 rfl rfl rfl).1.trans (HD 4 _ 132 rfl rfl rfl).2
                      rw [if_pos (wanted_yes 4 true rfl rfl rfl e132)]
                      have e136 := (HD 8 _ 136 rfl rfl rfl).1.trans (HD 8 _ 136 rfl rfl rfl).2
                      have e138 := (HD 10 _ 138 rfl rfl rfl).1.trans (HD 10 _ 138 rfl rfl rfl).2
                      have hpc := HPC.out
                      go_simp; exact kk _ _ (by simp) HJ trivial rfl
                    · intro a w1 vs K HJ HK HD HN kk
                      have e132 := (HD 4 _ 132 rfl rfl rfl).1.trans (HD 4 _ 132 rfl rfl rfl).2
                      have e139 := (HD 11 _ 139 rfl rfl rfl).1.trans (HD 11 _ 139 rfl rfl rfl).2
                      go_simp; exact kk _ _ (by simp) HJ trivial rfl
                    · intro a w1 vs K HJ HK HD HN kk
                      have e140 := (HD 12 _ 140 rfl rfl rfl).1.trans (HD 12 _ 140 rfl rfl rfl).2
                      go_simp; exact kk _ _ (by simp) HJ trivial rfl
                    · intro a w1 vs K HJ HK HD HN kk
                      have e141 := (HD 13 _ 141 rfl rfl rfl).1.trans (HD 13 _ 141 rfl rfl rfl).2
                      rw [if_pos (wanted_yes 13 true rfl rfl rfl e141)]
                      have e12 := HK 12 (by decide)
                      go_simp; exact kk _ _ (by simp) HJ trivial rfl
                    · intro a w1 vs K HJ HK HD HN kk
                      have e141 := (HD 13 _ 141 rfl rfl rfl).1.trans (HD 13 _ 141 rfl rfl rfl).2
                      rw [if_pos (wanted_yes 13 true rfl rfl rfl e141)]
                      have e142 := (HD 14 _ 142 rfl rfl rfl).1.trans (HD 14 _ 142 rfl rfl rfl).2
                      have hmb := HMB.out
                      go_simp; exact kk _ _ (by simp) HJ trivial rfl
                    · intro a w1 vs K HJ HK HD HN kk
                      have e141 := (HD 13 _ 141 rfl rfl rfl).1.trans (HD 13 _ 141 rfl rfl rfl).2
                      have e143 := (HD 15 _ 143 rfl rfl rfl).1.trans (HD 15 _ 143 rfl rfl rfl).2
                      go_simp; exact kk _ _ (by simp) HJ trivial rfl
                  · intro vs w4 hw4 hrr
                    have e16 : vs 16 = .bool mb := hrr 16 _ rfl
                    have HB4 := Lib.hid hw4
                    clear hrr hw4
                    simp only [putAll, Act.put, List.setIfInBounds_toArray, List.set_cons_zero, List.set_cons_succ]
                    rw [e16]
                    clear e16
                    cases mb with
                    | false =>
                      have HE : Hid (dropK (cntK V l x q) mq (j + 1) = (U, mr)) := Lib.hid (by rw [HDK.out]; rfl)
                      go_wp2_with fail
                      go_roundw
                      case rel => exact ⟨j + 1, by omega, by rw [HE.out], by go_num, Lib.hid (by rw [HE.out]; exact HNX.out w4 HB4.out)⟩
                      case measure => simp [intOf]; omega
                    | true =>
                      have HE : Hid (dropK (cntK V l x q) mq (j + 1) = ({ U with live := fun i => if i = j then false else U.live i, cnt := fun i => if i = j then 0 else U.cnt i }, mr - 1)) := Lib.hid (by rw [HDK.out, if_pos rfl, ← HPU.out])
                      have hm2 : 2 < mr := of_decide_eq_true hmb
                      clear hmb
                      obtain ⟨_, f1, _, _, _⟩ := HCE.out w4 HB4.out
                      obtain ⟨_, f2⟩ := HCM.out w4 HB4.out
                      go_wp2_with fail
                      go_roundw
                      case rel => exact ⟨j + 1, by omega, by rw [HE.out]; show Value.int _ _ = Value.int _ _; congr 1; omega, by go_num, Lib.hid (by rw [HE.out]; exact HNY.out w4 HB4.out)⟩
                      case measure => simp [intOf]; omega
            · obtain rfl : j = q := by omega
              rw [HMQ.out] at HVO
              obtain ⟨⟨U, mr⟩, hD⟩ : ∃ D, dropK (cntK V l x j) mq j = D := ⟨_, rfl⟩
              rw [hD] at hs hsn hst hsp hsm HVO ⊢
              simp only at hs hsn hst hsp hsm HVO ⊢
              have hun : U.n = j := hsn.trans HN.out
              have hut : U.tol = tol := hst.trans HTL.out
              have hup : U.pat = pat := hsp.trans HPT.out
              have ⟨⟨q0, q1, q2, q3⟩, z0, z1, z2, z3⟩ := hs.out.a.cells
              have bf := hs.out.box.free
              have zf := hs.out.res.free
              have HK5 := Lib.hid (hs.out.res.only ((Only.setCell wr qb 3 (.slice (some ⟨cb, 0, none⟩) j cC)).trans (Only.setCell _ qb 2 (.slice (some ⟨lb, 0, none⟩) j cL))) (fun e => by have := HRB.out; omega))
              have HF : Hid (∀ y0 y1 y2 y3 y4 y5, JP (.returned (.tuple #[.agg #[.int .i64 tol, .int .i64 pat, .slice (some ⟨lb, 0, none⟩) j cL, .slice (some ⟨cb, 0, none⟩) j cC], .int .i64 x, .int .i64 0])) ((((((wr.setCell ⟨qb, 3, none⟩ y4).setCell ⟨qb, 2, none⟩ y5).setCell ⟨rb, 0, none⟩ y0).setCell ⟨rb, 1, none⟩ y1).setCell ⟨rb, 2, none⟩ y2).setCell ⟨rb, 3, none⟩ y3)) := Lib.hid fun y0 y1 y2 y3 y4 y5 => by
                have h5 := HFIW.out U cL cC cb lb wr y0 y1 y2 y3 y4 y5 U.live U.cnt _ (by rw [hun]; exact hs.out) rfl rfl (by rw [hun]; exact hn.2) x HVO.out
                unfold rvA at h5
                rw [hun, hut, hup] at h5
                exact h5
              clear hsn hst hsp hsm hdk hD hun hut hup
              have hqr : qb < rb := HRB.out
              go_wp2_with fail
              refine bodyPost_ret (results_f34 _ _ rb _ _ _ rfl rfl rfl (Bk.set4 HK5.out _ _ _ _) rfl) rfl ?_
              exact HF.out _ _ _ _ _ _
end Go.Proofs.Ytnmccbjdfdbgpaa
