/- What is proved: the texts G H I J K L M, one behind the other; each says at its head what it proves, and under which conditions. -/
import Derived.BigQuiet
import Derived.Outline
import Derived.Maps.Keyed
import Derived.StringKeys
import Derived.Carry
import Derived.Deep.OwnRows
import Derived.WalkMore
import Derived.Test.Ytnmccbjdfdbgpaam2
/- What is proved: a contract of Vote. Conditions: the voter and the readings lie in memory. -/
namespace Go.Proofs.Ytnmccbjdfdbgpaa
open Go.RowKit

/-- The readings lie in no list of the voter. -/
def RdsOff (X : VotX) (A : Option Addr) : Prop := ∀ b off, A = some ⟨b, off, none⟩ → b ≠ X.lb ∧ b ≠ X.cb
theorem RdsAt.chg {w w' : World} {X : VotX} {A : Option Addr} {l : List RdD} (h : RdsAt w w.heap.size A l) (hx : RdsOff X A) (hc : ChgV X w w') : RdsAt w' w'.heap.size A l :=
  ⟨h.1, fun hn => by
    obtain ⟨b, off, e, hB, hcell⟩ := h.2 hn
    obtain ⟨h1, h2⟩ := hx b off e
    exact ⟨b, off, e, Nat.lt_of_lt_of_le hB hc.size, fun i hi j hj => (World.cell?_of_block (hc.block b hB h1 h2)).trans (hcell i hi j hj)⟩⟩
def VotePost (w : World) (B : Nat) (X : VotX) (V : VotD) (l : List RdD) (e : Ending) (w' : World) : Prop :=
  e = .returned (.tuple #[.int .i64 (voteB V l).1.1, .int .i64 (voteB V l).1.2]) ∧ VotAt w' B X (voteB V l).2 ∧ ChgV X w w'
theorem vals_row {w : World} {B : Nat} {v : Value} {xs : List Int} (h : w.ownsRow B 3 1 v xs.length (xs.map (Value.int .i64))) (hn : xs.length ≤ 4096) : ∃ A c, v = .slice A xs.length c ∧ IntsAt w w.heap.size A xs := by
  have e : xs.map (Value.int .i64) = rowsL xs.length 1 fun i _ => .int .i64 (getI xs i) := by
    apply List.ext_getElem?
    intro i
    by_cases hi : i < xs.length
    · rw [map_getI xs i hi]
      have := rowsL_get xs.length 1 (fun i _ => Value.int .i64 (getI xs i)) i 0 hi (by omega)
      rw [Nat.mul_one, Nat.add_zero] at this
      exact this.symm
    · rw [List.getElem?_eq_none (by simp; omega), List.getElem?_eq_none (by rw [rowsL_len]; omega)]
  rw [e] at h
  obtain ⟨A, c, rfl, hc⟩ := Cl.of_own hn h
  exact ⟨A, c, rfl, hc.sl⟩

theorem VotAt.cells {w : World} {B : Nat} {X : VotX} {V : VotD} (h : VotAt w B X V) (q : Nat) (hq : q < V.n) : w.cell? ⟨X.vb, 0, none⟩ = some (.int .i64 V.tol) ∧ w.cell? ⟨X.vb, 1, none⟩ = some (.int .i64 V.pat) ∧ w.cell? ⟨X.vb, 2, none⟩ = some (.slice (some ⟨X.lb, 0, none⟩) V.n V.n) ∧ w.cell? ⟨X.vb, 3, none⟩ = some (.slice (some ⟨X.cb, 0, none⟩) V.n V.n) ∧
    w.cell? ⟨X.lb, q, none⟩ = some (.bool (V.live q)) ∧ w.cell? ⟨X.cb, q, none⟩ = some (.int .i64 (V.cnt q)) ∧ w.frozen? ⟨X.cb, q, none⟩ = false :=
  ⟨h.v.cell 0, h.v.cell 1, h.v.cell 2, h.v.cell 3, (h.l.cell q).trans (boolA_get _ _ _ hq), (h.c.cell q).trans (intA_get _ _ _ hq), h.c.free q⟩

theorem dropK_succ (V : VotD) (m k : Nat) : dropK V m (k + 1) = if (dropK V m k).1.live k && decide ((dropK V m k).1.pat < (dropK V m k).1.cnt k) && decide (2 < (dropK V m k).2) then
      ({ (dropK V m k).1 with live := fun i => if i = k then false else (dropK V m k).1.live i, cnt := fun i => if i = k then 0 else (dropK V m k).1.cnt i }, (dropK V m k).2 - 1)
    else dropK V m k := rfl
/-- A channel is removed by two stores, d1 and d2 of which are done. -/
structure DropJ (B : Nat) (X : VotX) (U : VotD) (q k : Nat) (w0 : World) (d1 d2 : Bool) (w1 : World) : Prop where
  n : U.n = k
  lt : q < k
  vot : VotAt w1 B X { U with live := fun i => if i = q ∧ d1 = true then false else U.live i, cnt := fun i => if i = q ∧ d2 = true then 0 else U.cnt i }
  chg : ChgV X w0 w1
theorem DropJ.start {B : Nat} {X : VotX} {U : VotD} {q k : Nat} {w0 w1 : World} (hn : U.n = k) (hl : q < k) (h : VotAt w1 B X U) (hc : ChgV X w0 w1) : DropJ B X U q k w0 false false w1 :=
  ⟨hn, hl, h.congr rfl rfl rfl (fun i _ => if_neg (by simp)) (fun i _ => if_neg (by simp)), hc⟩
theorem DropJ.drew {B : Nat} {X : VotX} {U : VotD} {q k : Nat} {w0 w1 : World} {d1 d2 : Bool} (h : DropJ B X U q k w0 d1 d2 w1) : DropJ B X U q k w0 d1 d2 w1.drew :=
  ⟨h.n, h.lt, h.vot.later (Below.refl _ _).drew, h.chg.trans (ChgV.of_below (Below.refl _ _).drew)⟩
theorem DropJ.cells {B : Nat} {X : VotX} {U : VotD} {q k : Nat} {w0 w1 : World} {d1 d2 : Bool} (h : DropJ B X U q k w0 d1 d2 w1) :
    w1.cell? ⟨X.vb, 2, none⟩ = some (.slice (some ⟨X.lb, 0, none⟩) k k) ∧ w1.cell? ⟨X.vb, 3, none⟩ = some (.slice (some ⟨X.cb, 0, none⟩) k k) ∧
    w1.cell? ⟨X.lb, q, none⟩ = some (.bool (if q = q ∧ d1 = true then false else U.live q)) ∧ w1.frozen? ⟨X.lb, q, none⟩ = false ∧ w1.cell? ⟨X.cb, q, none⟩ = some (.int .i64 (if q = q ∧ d2 = true then 0 else U.cnt q)) ∧ w1.frozen? ⟨X.cb, q, none⟩ = false := by
  obtain ⟨_, _, c2, c3, cl, cn, fn⟩ := h.vot.cells q (by show q < U.n; rw [h.n]; exact h.lt)
  dsimp only at c2 c3
  rw [h.n] at c2 c3
  exact ⟨c2, c3, cl, h.vot.l.free q, cn, fn⟩
theorem DropJ.setL {B : Nat} {X : VotX} {U : VotD} {q k : Nat} {w0 w1 : World} {d1 d2 : Bool} (h : DropJ B X U q k w0 d1 d2 w1) : DropJ B X U q k w0 true d2 (w1.setCell ⟨X.lb, q, none⟩ (.bool false)) := by
  obtain ⟨g1, g2⟩ := h.vot.setLive q false
  refine ⟨h.n, h.lt, g1.congr rfl rfl rfl (fun i _ => ?_) (fun _ _ => rfl), h.chg.trans g2⟩
  show (if i = q ∧ true = true then false else U.live i) = if i = q then false else if i = q ∧ d1 = true then false else U.live i
  by_cases e : i = q
  · rw [if_pos ⟨e, rfl⟩, if_pos e]
  · rw [if_neg (fun h => e h.1), if_neg e, if_neg (fun h => e h.1)]
theorem DropJ.setC {B : Nat} {X : VotX} {U : VotD} {q k : Nat} {w0 w1 : World} {d1 d2 : Bool} (h : DropJ B X U q k w0 d1 d2 w1) : DropJ B X U q k w0 d1 true (w1.setCell ⟨X.cb, q, none⟩ (.int .i64 0)) := by
  obtain ⟨g1, g2⟩ := h.vot.setCnt q 0
  refine ⟨h.n, h.lt, g1.congr rfl rfl rfl (fun _ _ => rfl) (fun i _ => ?_), h.chg.trans g2⟩
  show (if i = q ∧ true = true then 0 else U.cnt i) = if i = q then 0 else if i = q ∧ d2 = true then 0 else U.cnt i
  by_cases e : i = q
  · rw [if_pos ⟨e, rfl⟩, if_pos e]
  · rw [if_neg (fun h => e h.1), if_neg e, if_neg (fun h => e h.1)]

set_option maxRecDepth 100000 in
set_option maxHeartbeats 16000000 in
theorem vote_any (w : World) (B : Nat) (X : VotX) (V : VotD) (h : VotAt w B X V) (A : Option Addr) (c : Nat) (l : List RdD) (hl : RdsAt w w.heap.size A l) (hx : RdsOff X A) :
    Calls Try.prog 17 #[.pointer (some ⟨X.vb, 0, none⟩), .slice A l.length c] w (VotePost w B X V l) := by
  have HI := Lib.hid (is_any w B X V h)
  have HV := Lib.hid h
  have HL := Lib.hid hl
  have HX := Lib.hid hx
  have hn1 := h.n
  have hll := hl.1
  have HBAD := Lib.hid (badAny w A c l hl)
  have HFIN : Hid (∀ e w', e = .returned (.tuple #[.int .i64 (voteB V l).1.1, .int .i64 (voteB V l).1.2]) → VotAt w' B X (voteB V l).2 → ChgV X w w' → VotePost w B X V l e w') := Lib.hid fun _ _ a b c => ⟨a, b, c⟩
  obtain ⟨n, hn⟩ : ∃ n, V.n = n := ⟨_, rfl⟩
  have HN := Lib.hid hn
  have c2 : w.cell? ⟨X.vb, 2, none⟩ = some (.slice (some ⟨X.lb, 0, none⟩) n n) := by rw [← hn]; exact h.v.cell 2
  obtain ⟨ln, hln⟩ : ∃ ln, l.length = ln := ⟨_, rfl⟩
  have HLN := Lib.hid hln
  rw [hn] at hn1
  rw [hln] at hll HBAD ⊢
  clear h hl hx hn hln
  go_enter Try.func17, Try.ntmps17
  go_wp2_with fail
  refine HI.out.mono ?_
  rintro e w' ⟨rfl, rfl⟩
  by_cases hne : ln = n
  case neg =>
    have hni : ¬ ((ln : Int) = (n : Int)) := by omega
    have hvo : voteB V l = ((0, 2), V) := by unfold voteB; rw [if_pos (by rw [HLN.out, HN.out]; exact hne)]
    have HVO := Lib.hid hvo
    clear hvo hne
    go_wp2_with fail
    go_ret2
    exact HFIN.out _ _ (by rw [HVO.out]; rfl) (by rw [HVO.out]; exact HV.out) (ChgV.refl _ _)
  case pos =>
    subst hne
    obtain ⟨bd, hbd⟩ : ∃ bd, (allN ln fun i => !rdBad (rdAt l i)) = bd := ⟨_, rfl⟩
    have HBD := Lib.hid hbd
    rw [hbd] at HBAD
    clear hbd
    go_wp2_with fail
    refine HBAD.out.mono ?_
    rintro e w1 ⟨rfl, hb1⟩
    have HB1 := Lib.hid hb1
    have HV1 := Lib.hid (HV.out.later hb1)
    have hc1 : w1.cell? ⟨X.vb, 2, none⟩ = some (.slice (some ⟨X.lb, 0, none⟩) ln ln) := by rw [← HN.out]; exact HV1.out.v.cell 2
    clear hb1 c2
    cases bd with
    | false =>
      have hvo : voteB V l = ((0, 4), V) := by unfold voteB; rw [if_neg (by rw [HLN.out, HN.out]; exact fun h => h rfl), HLN.out, HBD.out]; rfl
      have HVO := Lib.hid hvo
      clear hvo
      go_wp2_with fail
      go_ret2
      exact HFIN.out _ _ (by rw [HVO.out]; rfl) (by rw [HVO.out]; exact HV1.out) (ChgV.of_below HB1.out)
    | true =>
      have HOK : Hid (∀ i, i < ln → rdBad (rdAt l i) = false) := Lib.hid fun i hi => by have := (allN_iff.1 HBD.out) i hi; simpa using this
      obtain ⟨i0, hi, hz0, hz1, hz2⟩ := info_parts infoR_Int
      go_wp2_with fail
      go_loopw [6, 32] (fun v i wr => ∃ k : Nat, k ≤ ln ∧ i = .int .i64 k ∧ Hid (Below w1.heap.size w1 wr ∧ wr.ownsRow w1.heap.size 3 1 v (valsK V l k).length ((valsK V l k).map (Value.int .i64)))) (fun _ i _ => ln - (intOf i).toNat)
      case atStart => exact ⟨0, Nat.zero_le _, rfl, Lib.hid ⟨Below.refl _ _, World.ownsRow_nil _ _ _ _⟩⟩
      case round =>
        obtain ⟨k, hk, rfl, hs⟩ := hrel
        by_cases hlt : k < ln
        · have hki : (k : Int) < (ln : Int) := by omega
          have h0k : (0 : Int) ≤ (k : Int) := by omega
          have hlt' : k < l.length := by rw [HLN.out]; exact hlt
          have HLR := Lib.hid (RdsAt.chg (RdsAt.chg HL.out HX.out (ChgV.of_below HB1.out)) HX.out (ChgV.of_below hs.out.1))
          have HVR := Lib.hid (HV1.out.later hs.out.1)
          obtain ⟨b, off, rfl, _, d0, d1⟩ := Sl.at2 HLR.out hlt'
          have hvk : valsK V l (k + 1) = if (rdAt l k).there && V.live k then valsK V l k ++ [(rdAt l k).val] else valsK V l k := rfl
          obtain ⟨⟨rv, rt⟩, hr⟩ : ∃ r, l.getD k rd0 = r := ⟨_, rfl⟩
          have hr' : rdAt l k = ⟨rv, rt⟩ := hr
          rw [hr] at d0 d1
          rw [hr'] at hvk
          simp only [rdC] at d0 d1 hvk
          obtain ⟨lv, hlv⟩ : ∃ lv, V.live k = lv := ⟨_, rfl⟩
          rw [hlv] at hvk
          have c2 : ∀ o, (wr.alloc o).cell? ⟨X.vb, 2, none⟩ = some (.slice (some ⟨X.lb, 0, none⟩) ln ln) := fun o => by rw [← HN.out]; exact (HVR.out.v.alloc o).cell 2
          have ck : ∀ o, (wr.alloc o).cell? ⟨X.lb, k, none⟩ = some (.bool lv) := fun o => by rw [← hlv]; exact ((HVR.out.l.alloc o).cell k).trans (boolA_get _ _ _ (by rw [HN.out]; exact hlt))
          have HVK := Lib.hid hvk
          have HAL : Hid (∀ o, Below wr.heap.size wr (wr.alloc o)) := Lib.hid fun o => (Below.refl _ _).alloc (Nat.le_refl _) _
          have HOWN : Hid (∀ o, Below w1.heap.size w1 (wr.alloc o)) := Lib.hid fun o => hs.out.1.trans ((HAL.out o).mono hs.out.1.size)
          clear hvk hr hr' hlv
          cases rt with
          | false =>
            have HE : Hid (valsK V l (k + 1) = valsK V l k) := Lib.hid (by rw [HVK.out]; rfl)
            go_wp2_with fail
            go_roundw
            case rel => exact ⟨k + 1, by omega, by go_num, Lib.hid (by rw [HE.out]; exact ⟨HOWN.out _, World.ownsRow.of_below hs.out.2 (HAL.out _)⟩)⟩
            case measure => simp [intOf]; omega
          | true =>
            cases lv with
            | false =>
              have HE : Hid (valsK V l (k + 1) = valsK V l k) := Lib.hid (by rw [HVK.out]; rfl)
              go_wp2_with fail
              go_roundw
              case rel => exact ⟨k + 1, by omega, by go_num, Lib.hid (by rw [HE.out]; exact ⟨HOWN.out _, World.ownsRow.of_below hs.out.2 (HAL.out _)⟩)⟩
              case measure => simp [intOf]; omega
            | true =>
              have HE : Hid (valsK V l (k + 1) = valsK V l k ++ [rv]) := Lib.hid (by rw [HVK.out]; rfl)
              have hvl := valsK_len V l k
              have hown := hs.out.2
              obtain ⟨xs, hxs⟩ : ∃ xs, valsK V l k = xs := ⟨_, rfl⟩
              rw [hxs] at hvl hown HE
              have HOW : Hid (∀ o o', ((wr.alloc o).alloc o').ownsRow w1.heap.size 3 1 u6 xs.length (xs.map (Value.int .i64))) := Lib.hid fun o o' => (hown.alloc _).alloc _
              clear hown hxs
              go_wp2_with (at_builtin; refine wpList_append_own _ rfl _ _ 36 rfl w1.heap.size 3 i0 (.int .i64 0) 1 8 Try.underlying36 hi hz0 hz1 hz2 rfl (by decide) _ _ _ rfl (HOW.out _ _) ⟨wr.heap.size + 1, 0, none⟩ 1 1 [.int .i64 rv] rfl rfl ?qc2 ?qc3 ?qc4 ?qc5 ?qc6 ?_)
              case qc2 => intro j u hj; match j, hj with | 0, hj => simp at hj; subst hj; simp [Addr.add]
              case qc3 => intro u hu; simp at hu; subst hu; rfl
              case qc4 => unfold maxLen; omega
              case qc5 => omega
              case qc6 => have := HOWN.out (.cells #[] 0) |>.size; simp at this ⊢; omega
              intro v' w2 hown' hgrow _
              have hb2 : Hid (Below w1.heap.size w1 w2) := Lib.hid (by
                have h0 := (HOWN.out (.cells #[.int .i64 rv, .bool true] 30))
                have h1 : Below w1.heap.size w1 ((wr.alloc (.cells #[.int .i64 rv, .bool true] 30)).alloc (.cells #[.int .i64 rv] 3)) := h0.trans (((Below.refl _ _).alloc (Nat.le_refl _) _).mono h0.size)
                exact h1.grown hgrow h1.size fun g hg => ((HOW.out (.cells #[] 0) (.cells #[] 0)).lt g hg).1)
              have HO2 := Lib.hid hown'
              clear hgrow hown'
              go_wp2_with fail
              go_roundw
              case rel => exact ⟨k + 1, by omega, by go_num, Lib.hid (by rw [HE.out]; refine ⟨hb2.out, ?_⟩; rw [List.length_append, List.map_append]; exact HO2.out)⟩
              case measure => simp [intOf]; omega
        · obtain rfl : k = ln := by omega
          have hvl := valsK_len V l k
          obtain ⟨A2, c2, rfl, hint⟩ := vals_row hs.out.2 (by omega)
          have HVR := Lib.hid (HV1.out.later hs.out.1)
          have HCR := Lib.hid ((ChgV.of_below HB1.out : ChgV X _ _).trans (ChgV.of_below hs.out.1))
          have HLR := Lib.hid (RdsAt.chg HL.out HX.out HCR.out)
          have HVL := Lib.hid hvl
          obtain ⟨xs, hxs⟩ : ∃ xs, valsK V l k = xs := ⟨_, rfl⟩
          have HXS := Lib.hid hxs
          rw [hxs] at hint hvl ⊢
          obtain ⟨m, hm⟩ : ∃ m, xs.length = m := ⟨_, rfl⟩
          have HM := Lib.hid hm
          have HAS := Lib.hid (ascending_any wr A2 c2 xs hint (by omega))
          rw [hm] at hvl HAS ⊢
          clear hint hxs hm hc1
          rcases Nat.eq_zero_or_pos m with hm0 | hm0
          · have hnil : xs = [] := List.length_eq_zero_iff.1 (by rw [HM.out]; exact hm0)
            have hvo : voteB V l = ((0, 7), V) := by
              unfold voteB
              rw [if_neg (by rw [HLN.out, HN.out]; exact fun h => h rfl), if_neg (by rw [HLN.out, HBD.out]; exact fun h => h rfl), HLN.out, HXS.out, if_pos hnil]
            have HVO := Lib.hid hvo
            subst hm0
            clear hvo hnil
            go_wp2_with fail
            go_ret2
            exact HFIN.out _ _ (by rw [HVO.out]; rfl) (by rw [HVO.out]; exact HVR.out) HCR.out
          · have HNE : Hid (xs ≠ []) := Lib.hid fun e => by have := HM.out; rw [e] at this; simp at this; omega
            obtain ⟨x, hx⟩ : ∃ x, valueB V l = x := ⟨_, rfl⟩
            have HXV := Lib.hid hx
            have hxr := valueB_range (V := V) (l := l) (fun i hi => HOK.out i (by rw [← HLN.out]; exact hi)) (by rw [HLN.out, HXS.out]; exact HNE.out)
            rw [hx] at hxr
            have HXE : Hid (getI (sortB xs) ((m - 1) / 2) = x) := Lib.hid (by rw [← HM.out, ← HXS.out, ← hx, ← HLN.out]; rfl)
            have HVO : Hid (voteB V l = ((x, 0), (dropK (cntK V l x k) (cntB V.live k) k).1)) := Lib.hid (by
              unfold voteB
              rw [if_neg (by rw [HLN.out, HN.out]; exact fun h => h rfl), if_neg (by rw [HLN.out, HBD.out]; exact fun h => h rfl), HLN.out, HXS.out, if_neg HNE.out, hx])
            have hmi : ¬ ((m : Int) = 0) := by omega
            clear hx
            go_wp2_with fail
            refine HAS.out.mono ?_
            rintro e w2 ⟨A3, c3, rfl, hcl, hb2⟩
            obtain ⟨g3, cur3, rfl, hg3, hbk3, hcc3⟩ := hcl.2 hm0
            have hd3 : w2.cell? ⟨g3, (m - 1) / 2, none⟩ = some (.int .i64 x) := by
              have := hcc3 ((m - 1) / 2) (by omega) 0 (by omega)
              dsimp only at this
              rw [Nat.mul_one, Nat.add_zero, HXE.out] at this
              exact (hbk3.cell _).trans this
            have HV2 := Lib.hid (HVR.out.later hb2)
            have HC2 := Lib.hid (HCR.out.trans (ChgV.of_below hb2))
            have HL2 := Lib.hid (RdsAt.chg HLR.out HX.out (ChgV.of_below hb2))
            have hmm : ((m : Int) - 1) / 2 = (((m - 1) / 2 : Nat) : Int) := by omega
            have hlt3 : (((m - 1) / 2 : Nat) : Int) < (m : Int) := by omega
            clear hcl hg3 hbk3 hcc3 hb2 HAS
            go_upto_region 17 with (fail)
            have HV0 : Hid (VotAt w2 B X (cntK V l x 0) ∧ ChgV X w2 w2) := Lib.hid ⟨HV2.out.congr rfl rfl rfl (fun _ _ => rfl) (fun i _ => by show (if i < 0 then cntV V l x i else V.cnt i) = V.cnt i; rw [if_neg (Nat.not_lt_zero i)]), ChgV.refl _ _⟩
            clear hd3 hmm hlt3 hmi
            go_wp2_with fail
            go_loopw [10, 67] (fun mm i wr => ∃ q : Nat, q ≤ k ∧ mm = .int .i64 (cntB V.live q) ∧ i = .int .i64 q ∧ Hid (VotAt wr B X (cntK V l x q) ∧ ChgV X w2 wr)) (fun _ i _ => k - (intOf i).toNat)
            case atStart => exact ⟨0, Nat.zero_le _, rfl, rfl, HV0⟩
            case round =>
              obtain ⟨q, hq, rfl, rfl, hs⟩ := hrel
              have HCL := cntB_le V.live q
              obtain ⟨mq, hmq⟩ : ∃ mq, cntB V.live q = mq := ⟨_, rfl⟩
              have HMQ := Lib.hid hmq
              rw [hmq] at HCL ⊢
              clear hmq
              by_cases hlt : q < k
              · have hki : (q : Int) < (k : Int) := by omega
                have h0k : (0 : Int) ≤ (q : Int) := by omega
                have hlt' : q < l.length := by rw [HLN.out]; exact hlt
                have HLR := Lib.hid (RdsAt.chg HL2.out HX.out hs.out.2)
                obtain ⟨b, off, rfl, _, d0, d1⟩ := Sl.at2 HLR.out hlt'
                obtain ⟨⟨rv, rt⟩, hr⟩ : ∃ r, l.getD q rd0 = r := ⟨_, rfl⟩
                have HR : Hid (rdAt l q = ⟨rv, rt⟩) := Lib.hid hr
                rw [hr] at d0 d1
                simp only [rdC] at d0 d1
                obtain ⟨lv, hlv⟩ : ∃ lv, V.live q = lv := ⟨_, rfl⟩
                have HLV := Lib.hid hlv
                have HAL : Hid (∀ o, Below wr.heap.size wr (wr.alloc o)) := Lib.hid fun o => (Below.refl _ _).alloc (Nat.le_refl _) _
                obtain ⟨w3, hw3⟩ : ∃ w3, wr.alloc (.cells #[.int .i64 rv, .bool rt] 30) = w3 := ⟨_, rfl⟩
                have HW3 := Lib.hid hw3
                have HV3 : Hid (VotAt w3 B X (cntK V l x q)) := Lib.hid (by rw [← hw3]; exact hs.out.1.later (HAL.out _))
                have HC3 : Hid (ChgV X w2 w3) := Lib.hid (by rw [← hw3]; exact hs.out.2.trans (ChgV.of_below (HAL.out _)))
                have HB3 : Hid (Bk w3 wr.heap.size 30 #[.int .i64 rv, .bool rt]) := Lib.hid (by rw [← hw3]; exact Bk.new _ _ _)
                have hc := HV3.out.cells q (by rw [show (cntK V l x q).n = V.n from rfl, HN.out]; exact hlt)
                rw [show (cntK V l x q).n = V.n from rfl, HN.out, show (cntK V l x q).live q = V.live q from rfl, hlv, show (cntK V l x q).cnt q = V.cnt q from if_neg (Nat.lt_irrefl q), show (cntK V l x q).tol = V.tol from rfl] at hc
                have HCE := Lib.hid hc
                clear hr hlv
                go_upto_region 22 with (fail)
                clear hw3 d0 d1
                obtain ⟨_, _, c2, c3, cl, cn, fn⟩ := hc
                cases lv with
                | false =>
                  have hnx : Hid (VotAt w3 B X (cntK V l x (q + 1)) ∧ ChgV X w2 w3) := Lib.hid ⟨HV3.out.congr rfl rfl rfl (fun _ _ => rfl) (fun i _ => by
                    show (if i < q + 1 then cntV V l x i else V.cnt i) = if i < q then cntV V l x i else V.cnt i
                    by_cases e : i = q
                    · subst e
                      rw [if_pos (Nat.lt_succ_self i), if_neg (Nat.lt_irrefl i)]
                      unfold cntV; rw [HLV.out]; rfl
                    · have : (i < q + 1) = (i < q) := by simp; omega
                      simp only [this]), HC3.out⟩
                  have hmn : Hid (cntB V.live (q + 1) = mq) := Lib.hid (by rw [cntB_succ, HLV.out, HMQ.out]; rfl)
                  go_wp2_with fail
                  go_roundw
                  case rel => exact ⟨q + 1, by omega, by rw [hmn.out], by go_num, hnx⟩
                  case measure => simp [intOf]; omega
                | true =>
                  have hmn : Hid (cntB V.live (q + 1) = mq + 1) := Lib.hid (by rw [cntB_succ, HLV.out, HMQ.out]; rfl)
                  obtain ⟨gb, hgb⟩ : ∃ gb, (rt && inB (rv - x) (-V.tol) V.tol) = gb := ⟨_, rfl⟩
                  have HGB := Lib.hid hgb
                  have HTL := HV2.out.tol
                  have HRV : Hid (rt = true → -1073741824 ≤ rv ∧ rv ≤ 1073741824) := Lib.hid fun e => by
                    have h := HOK.out q hlt
                    rw [HR.out] at h
                    unfold rdBad at h
                    simp only [e, Bool.true_and, Bool.not_eq_false'] at h
                    exact inB_iff.1 h
                  have HCN : Hid (cntV V l x q = if gb then 0 else wrap64 (V.cnt q + 1)) := Lib.hid (by unfold cntV; rw [HLV.out, HR.out]; simp only [if_true]; rw [hgb])
                  have HNX : Hid (∀ (v : Int), v = cntV V l x q → VotAt (w3.setCell ⟨X.cb, q, none⟩ (.int .i64 v)) B X (cntK V l x (q + 1)) ∧ ChgV X w2 (w3.setCell ⟨X.cb, q, none⟩ (.int .i64 v))) := Lib.hid fun v hv => by
                    obtain ⟨g1, g2⟩ := HV3.out.setCnt q v
                    refine ⟨g1.congr rfl rfl rfl (fun _ _ => rfl) (fun i _ => ?_), HC3.out.trans g2⟩
                    show (if i < q + 1 then cntV V l x i else V.cnt i) = if i = q then v else if i < q then cntV V l x i else V.cnt i
                    by_cases e : i = q
                    · subst e
                      rw [if_pos (Nat.lt_succ_self i), if_pos rfl, hv]
                    · have : (i < q + 1) = (i < q) := by simp; omega
                      rw [if_neg e]
                      simp only [this]
                  have HR3 : Hid (∀ w4, Below w3.heap.size w3 w4 → w4.cell? ⟨wr.heap.size, 0, none⟩ = some (.int .i64 rv) ∧ w4.cell? ⟨wr.heap.size, 1, none⟩ = some (.bool rt) ∧ w4.cell? ⟨X.vb, 0, none⟩ = some (.int .i64 V.tol)) := Lib.hid fun w4 h4 => by
                    have hb := HB3.out.below h4 HB3.out.lt
                    exact ⟨hb.cell 0, hb.cell 1, ((HV3.out.later h4).v.cell 0)⟩
                  have HTAIL : Hid (∀ w4, Below w3.heap.size w3 w4 → w4.cell? ⟨X.vb, 3, none⟩ = some (.slice (some ⟨X.cb, 0, none⟩) k k) ∧ w4.cell? ⟨X.cb, q, none⟩ = some (.int .i64 (V.cnt q)) ∧ w4.frozen? ⟨X.cb, q, none⟩ = false) := Lib.hid fun w4 h4 => by
                    obtain ⟨_, _, _, c3, _, cn, fn⟩ := (HV3.out.later h4).cells q (by rw [show (cntK V l x q).n = V.n from rfl, HN.out]; exact hlt)
                    rw [show (cntK V l x q).n = V.n from rfl, HN.out] at c3
                    rw [show (cntK V l x q).cnt q = V.cnt q from by show (if q < q then cntV V l x q else V.cnt q) = _; rw [if_neg (Nat.lt_irrefl q)]] at cn
                    exact ⟨c3, cn, fn⟩
                  have HNX4 : Hid (∀ w4, Below w3.heap.size w3 w4 → ∀ (v : Int), v = cntV V l x q → VotAt (w4.setCell ⟨X.cb, q, none⟩ (.int .i64 v)) B X (cntK V l x (q + 1)) ∧ ChgV X w2 (w4.setCell ⟨X.cb, q, none⟩ (.int .i64 v))) := Lib.hid fun w4 h4 v hv => by
                    obtain ⟨g1, g2⟩ := (HV3.out.later h4).setCnt q v
                    refine ⟨g1.congr rfl rfl rfl (fun _ _ => rfl) (fun i _ => ?_), HC3.out.trans ((ChgV.of_below h4).trans g2)⟩
                    show (if i < q + 1 then cntV V l x i else V.cnt i) = if i = q then v else if i < q then cntV V l x i else V.cnt i
                    by_cases e : i = q
                    · subst e
                      rw [if_pos (Nat.lt_succ_self i), if_pos rfl, hv]
                    · have : (i < q + 1) = (i < q) := by simp; omega
                      rw [if_neg e]
                      simp only [this]
                  clear HNX c2 c3 cl cn fn hgb
                  have hvq : Hid (-9223372036854775808 ≤ V.cnt q ∧ V.cnt q ≤ 9223372036854775807 → True) := Lib.hid fun _ => trivial
                  cases rt with
                  | false =>
                    have hgf : gb = false := by rw [← HGB.out]; rfl
                    subst hgf
                    have HCQ : Hid (cntV V l x q = wrap64 (V.cnt q + 1)) := Lib.hid (by rw [HCN.out]; rfl)
                    obtain ⟨_, _, c2, _⟩ := HCE.out
                    have cl := HCE.out.2.2.2.2.1
                    go_wp2_with fail
                    refine wp_region_steps (by kernel_rfl) (by kernel_rfl) (fun w1 => Below w3.heap.size w3 w1) (fun _ _ _ => True)
                      (fun ix u _ _ => match ix with
                        | 0 => u = .pointer (some ⟨wr.heap.size, 1, none⟩)
                        | 1 => u = .bool false
                        | 2 => u = .bool false
                        | 3 => True
                        | 4 => True
                        | 5 => True
                        | 6 => True
                        | 7 => True
                        | 8 => True
                        | 9 => True
                        | 10 => True
                        | 11 => True
                        | 12 => True
                        | 13 => True
                        | 14 => True
                        | 15 => True
                        | 16 => True
                        | 17 => u = .bool false
                        | _ => u = .bool false) (Below.refl _ _).drew (fun _ _ _ _ _ _ _ _ h _ _ => h) ?_ ?_
                    · refine ⟨?_, ?_, ?_, ?_, ?_, ?_, ?_, ?_, ?_, ?_, ?_, ?_, ?_, ?_, ?_, ?_, ?_, ?_, ?_, trivial⟩
                      · intro a w1 vs K HJ HK HD HN kk
                        have e12 := HK 12 (by decide)
                        go_simp; exact kk _ _ (by simp) HJ trivial rfl
                      · intro a w1 vs K HJ HK HD HN kk
                        have e91 := (HD 0 _ 91 rfl rfl rfl).1.trans (HD 0 _ 91 rfl rfl rfl).2
                        have ca := (HR3.out w1 HJ).2.1
                        go_simp; exact kk _ _ (by simp) HJ trivial rfl
                      · intro a w1 vs K HJ HK HD HN kk
                        have e92 := (HD 1 _ 92 rfl rfl rfl).1.trans (HD 1 _ 92 rfl rfl rfl).2
                        go_simp; exact kk _ _ (by simp) HJ trivial rfl
                      · intro a w1 vs K HJ HK HD HN kk
                        have e93 := (HD 2 _ 93 rfl rfl rfl).1.trans (HD 2 _ 93 rfl rfl rfl).2
                        rw [if_neg (wanted_no 2 true rfl rfl rfl e93)]
                        exact kk undef _ (by simp) HJ trivial trivial
                      · intro a w1 vs K HJ HK HD HN kk
                        have e93 := (HD 2 _ 93 rfl rfl rfl).1.trans (HD 2 _ 93 rfl rfl rfl).2
                        rw [if_neg (wanted_no 2 true rfl rfl rfl e93)]
                        exact kk undef _ (by simp) HJ trivial trivial
                      · intro a w1 vs K HJ HK HD HN kk
                        have e93 := (HD 2 _ 93 rfl rfl rfl).1.trans (HD 2 _ 93 rfl rfl rfl).2
                        rw [if_neg (wanted_no 2 true rfl rfl rfl e93)]
                        exact kk undef _ (by simp) HJ trivial trivial
                      · intro a w1 vs K HJ HK HD HN kk
                        have e93 := (HD 2 _ 93 rfl rfl rfl).1.trans (HD 2 _ 93 rfl rfl rfl).2
                        rw [if_neg (wanted_no 2 true rfl rfl rfl e93)]
                        exact kk undef _ (by simp) HJ trivial trivial
                      · intro a w1 vs K HJ HK HD HN kk
                        have e93 := (HD 2 _ 93 rfl rfl rfl).1.trans (HD 2 _ 93 rfl rfl rfl).2
                        rw [if_neg (wanted_no 2 true rfl rfl rfl e93)]
                        exact kk undef _ (by simp) HJ trivial trivial
                      · intro a w1 vs K HJ HK HD HN kk
                        have e93 := (HD 2 _ 93 rfl rfl rfl).1.trans (HD 2 _ 93 rfl rfl rfl).2
                        rw [if_neg (wanted_no 2 true rfl rfl rfl e93)]
                        exact kk undef _ (by simp) HJ trivial trivial
                      · intro a w1 vs K HJ HK HD HN kk
                        have e93 := (HD 2 _ 93 rfl rfl rfl).1.trans (HD 2 _ 93 rfl rfl rfl).2
                        rw [if_neg (wanted_no 2 true rfl rfl rfl e93)]
                        exact kk undef _ (by simp) HJ trivial trivial
                      · intro a w1 vs K HJ HK HD HN kk
                        have e93 := (HD 2 _ 93 rfl rfl rfl).1.trans (HD 2 _ 93 rfl rfl rfl).2
                        rw [if_neg (wanted_no 2 true rfl rfl rfl e93)]
                        exact kk undef _ (by simp) HJ trivial trivial
                      · intro a w1 vs K HJ HK HD HN kk
                        have e93 := (HD 2 _ 93 rfl rfl rfl).1.trans (HD 2 _ 93 rfl rfl rfl).2
                        rw [if_neg (wanted_no 2 true rfl rfl rfl e93)]
                        exact kk undef _ (by simp) HJ trivial trivial
                      · intro a w1 vs K HJ HK HD HN kk
                        have e93 := (HD 2 _ 93 rfl rfl rfl).1.trans (HD 2 _ 93 rfl rfl rfl).2
                        rw [if_neg (wanted_no 2 true rfl rfl rfl e93)]
                        exact kk undef _ (by simp) HJ trivial trivial
                      · intro a w1 vs K HJ HK HD HN kk
                        have e93 := (HD 2 _ 93 rfl rfl rfl).1.trans (HD 2 _ 93 rfl rfl rfl).2
                        rw [if_neg (wanted_no 2 true rfl rfl rfl e93)]
                        exact kk undef _ (by simp) HJ trivial trivial
                      · intro a w1 vs K HJ HK HD HN kk
                        have e93 := (HD 2 _ 93 rfl rfl rfl).1.trans (HD 2 _ 93 rfl rfl rfl).2
                        rw [if_neg (wanted_no 2 true rfl rfl rfl e93)]
                        exact kk undef _ (by simp) HJ trivial trivial
                      · intro a w1 vs K HJ HK HD HN kk
                        have e93 := (HD 2 _ 93 rfl rfl rfl).1.trans (HD 2 _ 93 rfl rfl rfl).2
                        rw [if_neg (wanted_no 2 true rfl rfl rfl e93)]
                        exact kk undef _ (by simp) HJ trivial trivial
                      · intro a w1 vs K HJ HK HD HN kk
                        have e93 := (HD 2 _ 93 rfl rfl rfl).1.trans (HD 2 _ 93 rfl rfl rfl).2
                        rw [if_neg (wanted_no 2 true rfl rfl rfl e93)]
                        exact kk undef _ (by simp) HJ trivial trivial
                      · intro a w1 vs K HJ HK HD HN kk
                        have e93 := (HD 2 _ 93 rfl rfl rfl).1.trans (HD 2 _ 93 rfl rfl rfl).2
                        go_simp; exact kk _ _ (by simp) HJ trivial rfl
                      · intro a w1 vs K HJ HK HD HN kk
                        have e108 := (HD 17 _ 108 rfl rfl rfl).1.trans (HD 17 _ 108 rfl rfl rfl).2
                        go_simp; exact kk _ _ (by simp) HJ trivial rfl
                    · intro vs w4 hw4 hrr
                      have e18 : vs 18 = .bool false := hrr 18 _ rfl
                      have HB4 := Lib.hid hw4
                      obtain ⟨c3, cn, fn⟩ := HTAIL.out w4 hw4
                      clear hrr hw4 c2 cl
                      simp only [putAll, Act.put, List.setIfInBounds_toArray, List.set_cons_zero, List.set_cons_succ]
                      rw [e18]
                      clear e18
                      go_wp2_with fail
                      go_roundw
                      case rel => exact ⟨q + 1, by omega, by rw [hmn.out]; go_num, by go_num, Lib.hid (HNX4.out w4 HB4.out _ (by rw [HCQ.out]))⟩
                      case measure => simp [intOf]; omega
                  | true =>
                    have hrv := HRV.out rfl
                    have hsub : -9223372036854775808 ≤ rv - x ∧ rv - x ≤ 9223372036854775807 := by omega
                    have hneg : -9223372036854775808 ≤ -V.tol ∧ -V.tol ≤ 9223372036854775807 := by omega
                    have HWI : Hid (∀ w4, Calls Try.prog 41 #[.int .i64 (rv - x), .int .i64 (-V.tol), .int .i64 V.tol] w4 fun e w' => e = .returned (.bool gb) ∧ Below w4.heap.size w4 w') := Lib.hid fun w4 => by
                      have h := within_any (rv - x) (-V.tol) V.tol w4
                      rw [show inB (rv - x) (-V.tol) V.tol = gb from by rw [← HGB.out]; rfl] at h
                      refine h.mono ?_
                      rintro e w' ⟨rfl, rfl⟩
                      exact ⟨rfl, Below.refl _ _⟩
                    obtain ⟨_, _, c2, _⟩ := HCE.out
                    have cl := HCE.out.2.2.2.2.1
                    go_wp2_with fail
                    refine wp_region_steps (by kernel_rfl) (by kernel_rfl) (fun w1 => Below w3.heap.size w3 w1) (fun _ _ _ => True)
                      (fun ix u _ _ => match ix with
                        | 0 => u = .pointer (some ⟨wr.heap.size, 1, none⟩)
                        | 1 => u = .bool true
                        | 2 => u = .bool true
                        | 3 => u = .pointer (some ⟨wr.heap.size, 0, none⟩)
                        | 4 => u = .int .i64 rv
                        | 5 => u = .int .i64 x
                        | 6 => u = .int .i64 (rv - x)
                        | 7 => u = .pointer (some ⟨X.vb, 0, none⟩)
                        | 8 => u = .pointer (some ⟨X.vb, 0, none⟩)
                        | 9 => u = .pointer (some ⟨X.vb, 0, none⟩)
                        | 10 => u = .int .i64 V.tol
                        | 11 => u = .int .i64 (-V.tol)
                        | 12 => u = .pointer (some ⟨X.vb, 0, none⟩)
                        | 13 => u = .pointer (some ⟨X.vb, 0, none⟩)
                        | 14 => u = .pointer (some ⟨X.vb, 0, none⟩)
                        | 15 => u = .int .i64 V.tol
                        | 16 => u = .bool gb
                        | 17 => u = .bool gb
                        | _ => u = .bool gb) (Below.refl _ _).drew (fun _ _ _ _ _ _ _ _ h _ _ => h) ?_ ?_
                    · refine ⟨?_, ?_, ?_, ?_, ?_, ?_, ?_, ?_, ?_, ?_, ?_, ?_, ?_, ?_, ?_, ?_, ?_, ?_, ?_, trivial⟩
                      · intro a w1 vs K HJ HK HD HN kk
                        have e12 := HK 12 (by decide)
                        go_simp; exact kk _ _ (by simp) HJ trivial rfl
                      · intro a w1 vs K HJ HK HD HN kk
                        have e91 := (HD 0 _ 91 rfl rfl rfl).1.trans (HD 0 _ 91 rfl rfl rfl).2
                        have ca := (HR3.out w1 HJ).2.1
                        go_simp; exact kk _ _ (by simp) HJ trivial rfl
                      · intro a w1 vs K HJ HK HD HN kk
                        have e92 := (HD 1 _ 92 rfl rfl rfl).1.trans (HD 1 _ 92 rfl rfl rfl).2
                        go_simp; exact kk _ _ (by simp) HJ trivial rfl
                      · intro a w1 vs K HJ HK HD HN kk
                        have e93 := (HD 2 _ 93 rfl rfl rfl).1.trans (HD 2 _ 93 rfl rfl rfl).2
                        rw [if_pos (wanted_yes 2 true rfl rfl rfl e93)]
                        have e12 := HK 12 (by decide)
                        go_simp; exact kk _ _ (by simp) HJ trivial rfl
                      · intro a w1 vs K HJ HK HD HN kk
                        have e93 := (HD 2 _ 93 rfl rfl rfl).1.trans (HD 2 _ 93 rfl rfl rfl).2
                        rw [if_pos (wanted_yes 2 true rfl rfl rfl e93)]
                        have e94 := (HD 3 _ 94 rfl rfl rfl).1.trans (HD 3 _ 94 rfl rfl rfl).2
                        have ca := (HR3.out w1 HJ).1
                        go_simp; exact kk _ _ (by simp) HJ trivial rfl
                      · intro a w1 vs K HJ HK HD HN kk
                        have e93 := (HD 2 _ 93 rfl rfl rfl).1.trans (HD 2 _ 93 rfl rfl rfl).2
                        rw [if_pos (wanted_yes 2 true rfl rfl rfl e93)]
                        have e9 := HK 9 (by decide)
                        go_simp; exact kk _ _ (by simp) HJ trivial rfl
                      · intro a w1 vs K HJ HK HD HN kk
                        have e93 := (HD 2 _ 93 rfl rfl rfl).1.trans (HD 2 _ 93 rfl rfl rfl).2
                        rw [if_pos (wanted_yes 2 true rfl rfl rfl e93)]
                        have e95 := (HD 4 _ 95 rfl rfl rfl).1.trans (HD 4 _ 95 rfl rfl rfl).2
                        have e96 := (HD 5 _ 96 rfl rfl rfl).1.trans (HD 5 _ 96 rfl rfl rfl).2
                        have hws : IntKind.i64.wrap (rv - x) = rv - x := IntWalk.i64_in _ (by omega)
                        go_simp; exact kk _ _ (by simp) HJ trivial (by first | rfl | (show Value.int _ _ = Value.int _ _; rw [hws]))
                      · intro a w1 vs K HJ HK HD HN kk
                        have e93 := (HD 2 _ 93 rfl rfl rfl).1.trans (HD 2 _ 93 rfl rfl rfl).2
                        rw [if_pos (wanted_yes 2 true rfl rfl rfl e93)]
                        have e0 := HK 0 (by decide)
                        go_simp; exact kk _ _ (by simp) HJ trivial rfl
                      · intro a w1 vs K HJ HK HD HN kk
                        have e93 := (HD 2 _ 93 rfl rfl rfl).1.trans (HD 2 _ 93 rfl rfl rfl).2
                        rw [if_pos (wanted_yes 2 true rfl rfl rfl e93)]
                        have e98 := (HD 7 _ 98 rfl rfl rfl).1.trans (HD 7 _ 98 rfl rfl rfl).2
                        go_simp; exact kk _ _ (by simp) HJ trivial rfl
                      · intro a w1 vs K HJ HK HD HN kk
                        have e93 := (HD 2 _ 93 rfl rfl rfl).1.trans (HD 2 _ 93 rfl rfl rfl).2
                        rw [if_pos (wanted_yes 2 true rfl rfl rfl e93)]
                        have e99 := (HD 8 _ 99 rfl rfl rfl).1.trans (HD 8 _ 99 rfl rfl rfl).2
                        go_simp; exact kk _ _ (by simp) HJ trivial rfl
                      · intro a w1 vs K HJ HK HD HN kk
                        have e93 := (HD 2 _ 93 rfl rfl rfl).1.trans (HD 2 _ 93 rfl rfl rfl).2
                        rw [if_pos (wanted_yes 2 true rfl rfl rfl e93)]
                        have e100 := (HD 9 _ 100 rfl rfl rfl).1.trans (HD 9 _ 100 rfl rfl rfl).2
                        have ca := (HR3.out w1 HJ).2.2
                        go_simp; exact kk _ _ (by simp) HJ trivial rfl
                      · intro a w1 vs K HJ HK HD HN kk
                        have e93 := (HD 2 _ 93 rfl rfl rfl).1.trans (HD 2 _ 93 rfl rfl rfl).2
                        rw [if_pos (wanted_yes 2 true rfl rfl rfl e93)]
                        have e101 := (HD 10 _ 101 rfl rfl rfl).1.trans (HD 10 _ 101 rfl rfl rfl).2
                        have hws : IntKind.i64.wrap (-V.tol) = -V.tol := IntWalk.i64_in _ (by omega)
                        go_simp; exact kk _ _ (by simp) HJ trivial (by first | rfl | (show Value.int _ _ = Value.int _ _; rw [hws]))
                      · intro a w1 vs K HJ HK HD HN kk
                        have e93 := (HD 2 _ 93 rfl rfl rfl).1.trans (HD 2 _ 93 rfl rfl rfl).2
                        rw [if_pos (wanted_yes 2 true rfl rfl rfl e93)]
                        have e0 := HK 0 (by decide)
                        go_simp; exact kk _ _ (by simp) HJ trivial rfl
                      · intro a w1 vs K HJ HK HD HN kk
                        have e93 := (HD 2 _ 93 rfl rfl rfl).1.trans (HD 2 _ 93 rfl rfl rfl).2
                        rw [if_pos (wanted_yes 2 true rfl rfl rfl e93)]
                        have e103 := (HD 12 _ 103 rfl rfl rfl).1.trans (HD 12 _ 103 rfl rfl rfl).2
                        go_simp; exact kk _ _ (by simp) HJ trivial rfl
                      · intro a w1 vs K HJ HK HD HN kk
                        have e93 := (HD 2 _ 93 rfl rfl rfl).1.trans (HD 2 _ 93 rfl rfl rfl).2
                        rw [if_pos (wanted_yes 2 true rfl rfl rfl e93)]
                        have e104 := (HD 13 _ 104 rfl rfl rfl).1.trans (HD 13 _ 104 rfl rfl rfl).2
                        go_simp; exact kk _ _ (by simp) HJ trivial rfl
                      · intro a w1 vs K HJ HK HD HN kk
                        have e93 := (HD 2 _ 93 rfl rfl rfl).1.trans (HD 2 _ 93 rfl rfl rfl).2
                        rw [if_pos (wanted_yes 2 true rfl rfl rfl e93)]
                        have e105 := (HD 14 _ 105 rfl rfl rfl).1.trans (HD 14 _ 105 rfl rfl rfl).2
                        have ca := (HR3.out w1 HJ).2.2
                        go_simp; exact kk _ _ (by simp) HJ trivial rfl
                      · intro a w1 vs K HJ HK HD HN kk
                        have e93 := (HD 2 _ 93 rfl rfl rfl).1.trans (HD 2 _ 93 rfl rfl rfl).2
                        rw [if_pos (wanted_yes 2 true rfl rfl rfl e93)]
                        have e97 := (HD 6 _ 97 rfl rfl rfl).1.trans (HD 6 _ 97 rfl rfl rfl).2
                        have e102 := (HD 11 _ 102 rfl rfl rfl).1.trans (HD 11 _ 102 rfl rfl rfl).2
                        have e106 := (HD 15 _ 106 rfl rfl rfl).1.trans (HD 15 _ 106 rfl rfl rfl).2
                        exact wpo_call 41 _ _ rfl #[.int .i64 (rv - x), .int .i64 (-V.tol), .int .i64 V.tol] (by simp [Act.eval, e97, e102, e106]) (fun args w => by kernel_rfl)
                          ((HWI.out w1).mono fun e w' ⟨he, hb⟩ => ⟨_, he, kk _ _ (by simp) (Below.trans HJ (hb.mono HJ.size)) trivial rfl⟩)
                      · intro a w1 vs K HJ HK HD HN kk
                        have e93 := (HD 2 _ 93 rfl rfl rfl).1.trans (HD 2 _ 93 rfl rfl rfl).2
                        have e107 := (HD 16 _ 107 rfl rfl rfl).1.trans (HD 16 _ 107 rfl rfl rfl).2
                        go_simp; exact kk _ _ (by simp) HJ trivial rfl
                      · intro a w1 vs K HJ HK HD HN kk
                        have e108 := (HD 17 _ 108 rfl rfl rfl).1.trans (HD 17 _ 108 rfl rfl rfl).2
                        go_simp; exact kk _ _ (by simp) HJ trivial rfl
                    · intro vs w4 hw4 hrr
                      have e18 : vs 18 = .bool gb := hrr 18 _ rfl
                      have HB4 := Lib.hid hw4
                      obtain ⟨c3, cn, fn⟩ := HTAIL.out w4 hw4
                      clear hrr hw4 c2 cl
                      simp only [putAll, Act.put, List.setIfInBounds_toArray, List.set_cons_zero, List.set_cons_succ]
                      rw [e18]
                      clear e18
                      cases gb with
                      | false =>
                        have HCQ : Hid (cntV V l x q = wrap64 (V.cnt q + 1)) := Lib.hid (by rw [HCN.out]; rfl)
                        go_wp2_with fail
                        go_roundw
                        case rel => exact ⟨q + 1, by omega, by rw [hmn.out]; go_num, by go_num, Lib.hid (HNX4.out w4 HB4.out _ (by rw [HCQ.out]))⟩
                        case measure => simp [intOf]; omega
                      | true =>
                        have HCQ : Hid (cntV V l x q = 0) := Lib.hid (by rw [HCN.out]; rfl)
                        go_wp2_with fail
                        go_roundw
                        case rel => exact ⟨q + 1, by omega, by rw [hmn.out]; go_num, by go_num, Lib.hid (HNX4.out w4 HB4.out _ HCQ.out.symm)⟩
                        case measure => simp [intOf]; omega
              · obtain rfl : k = q := by omega
                have HC2' := Lib.hid HC2.out
                clear hlt
                go_wp2_with fail
                go_loopw [10, 120] (fun mm i wr => ∃ q : Nat, q ≤ k ∧ mm = .int .i64 (dropK (cntK V l x k) mq q).2 ∧ i = .int .i64 q ∧ Hid (VotAt wr B X (dropK (cntK V l x k) mq q).1 ∧ ChgV X w2 wr)) (fun _ i _ => k - (intOf i).toNat)
                case atStart => exact ⟨0, Nat.zero_le _, rfl, rfl, hs⟩
                case round =>
                  clear hs
                  obtain ⟨q, hq, rfl, rfl, hs⟩ := hrel
                  obtain ⟨hsn, _, _, hsm⟩ := dropK_same (cntK V l x k) mq q
                  have hdk := dropK_succ (cntK V l x k) mq q
                  by_cases hlt : q < k
                  · have hki : (q : Int) < (k : Int) := by omega
                    have h0k : (0 : Int) ≤ (q : Int) := by omega
                    obtain ⟨⟨U, mr⟩, hD⟩ : ∃ D, dropK (cntK V l x k) mq q = D := ⟨_, rfl⟩
                    rw [hD] at hs hsn hsm hdk ⊢
                    simp only at hsn hsm hdk ⊢
                    have hun : U.n = k := hsn.trans HN.out
                    have HUN := Lib.hid hun
                    obtain ⟨lv, hlv⟩ : ∃ lv, U.live q = lv := ⟨_, rfl⟩
                    obtain ⟨cq, hcq⟩ : ∃ cq, U.cnt q = cq := ⟨_, rfl⟩
                    obtain ⟨pt, hpt⟩ : ∃ pt, U.pat = pt := ⟨_, rfl⟩
                    have HCE : Hid (∀ w1, Below wr.heap.size wr w1 → w1.cell? ⟨X.vb, 0, none⟩ = some (.int .i64 U.tol) ∧ w1.cell? ⟨X.vb, 1, none⟩ = some (.int .i64 pt) ∧ w1.cell? ⟨X.vb, 2, none⟩ = some (.slice (some ⟨X.lb, 0, none⟩) k k) ∧ w1.cell? ⟨X.vb, 3, none⟩ = some (.slice (some ⟨X.cb, 0, none⟩) k k) ∧
                        w1.cell? ⟨X.lb, q, none⟩ = some (.bool lv) ∧ w1.cell? ⟨X.cb, q, none⟩ = some (.int .i64 cq) ∧ w1.frozen? ⟨X.cb, q, none⟩ = false) := Lib.hid fun w1 h1 => by
                      have h := (hs.out.1.later h1).cells q (by rw [hun]; exact hlt)
                      rw [hun, hlv, hcq, hpt] at h
                      exact h
                    rw [hlv, hcq, hpt] at hdk
                    have HDK := Lib.hid hdk
                    have HPT := Lib.hid hpt
                    clear hdk hlv hcq hpt hun hsn hD
                    have HSTAY : Hid (∀ w4, Below wr.heap.size wr w4 → VotAt w4 B X U ∧ ChgV X w2 w4) := Lib.hid fun w4 h4 => ⟨hs.out.1.later h4, hs.out.2.trans (ChgV.of_below h4)⟩
                    cases lv with
                    | false =>
                      have HE : Hid (dropK (cntK V l x k) mq (q + 1) = (U, mr)) := Lib.hid HDK.out
                      obtain ⟨_, _, c2, _, cl, _, _⟩ := HCE.out wr (Below.refl _ _)
                      go_wp2_with fail
                      refine wp_region_steps (by kernel_rfl) (by kernel_rfl) (fun w1 => Below wr.heap.size wr w1) (fun _ _ _ => True)
                        (fun ix u _ _ => match ix with
                          | 0 => u = .pointer (some ⟨X.vb, 0, none⟩)
                          | 1 => u = .pointer (some ⟨X.vb, 0, none⟩)
                          | 2 => u = .pointer (some ⟨X.vb, 2, none⟩)
                          | 3 => u = .slice (some ⟨X.lb, 0, none⟩) k k
                          | 4 => u = .int .i64 q
                          | 5 => u = .pointer (some ⟨X.lb, q, none⟩)
                          | 6 => u = .bool false
                          | 7 => u = .bool false
                          | 8 => True
                          | 9 => True
                          | 10 => True
                          | 11 => True
                          | 12 => True
                          | 13 => True
                          | 14 => True
                          | 15 => True
                          | 16 => True
                          | 17 => True
                          | 18 => True
                          | 19 => True
                          | 20 => u = .bool false
                          | 21 => u = .bool false
                          | 22 => True
                          | 23 => True
                          | _ => u = .bool false) (Below.refl _ _).drew (fun _ _ _ _ _ _ _ _ h _ _ => h) ?_ ?_
                      · refine ⟨?_, ?_, ?_, ?_, ?_, ?_, ?_, ?_, ?_, ?_, ?_, ?_, ?_, ?_, ?_, ?_, ?_, ?_, ?_, ?_, ?_, ?_, ?_, ?_, ?_, trivial⟩
                        · intro a w1 vs K HJ HK HD HN kk
                          have e0 := HK 0 (by decide)
                          go_simp; exact kk _ _ (by simp) HJ trivial rfl
                        · intro a w1 vs K HJ HK HD HN kk
                          have e123 := (HD 0 _ 123 rfl rfl rfl).1.trans (HD 0 _ 123 rfl rfl rfl).2
                          go_simp; exact kk _ _ (by simp) HJ trivial rfl
                        · intro a w1 vs K HJ HK HD HN kk
                          have e124 := (HD 1 _ 124 rfl rfl rfl).1.trans (HD 1 _ 124 rfl rfl rfl).2
                          go_simp; exact kk _ _ (by simp) HJ trivial rfl
                        · intro a w1 vs K HJ HK HD HN kk
                          have e125 := (HD 2 _ 125 rfl rfl rfl).1.trans (HD 2 _ 125 rfl rfl rfl).2
                          have ca := (HCE.out w1 HJ).2.2.1
                          go_simp; exact kk _ _ (by simp) HJ trivial rfl
                        · intro a w1 vs K HJ HK HD HN kk
                          have e13 := HK 13 (by decide)
                          go_simp; exact kk _ _ (by simp) HJ trivial rfl
                        · intro a w1 vs K HJ HK HD HN kk
                          have e126 := (HD 3 _ 126 rfl rfl rfl).1.trans (HD 3 _ 126 rfl rfl rfl).2
                          have e127 := (HD 4 _ 127 rfl rfl rfl).1.trans (HD 4 _ 127 rfl rfl rfl).2
                          go_simp; exact kk _ _ (by simp) HJ trivial rfl
                        · intro a w1 vs K HJ HK HD HN kk
                          have e128 := (HD 5 _ 128 rfl rfl rfl).1.trans (HD 5 _ 128 rfl rfl rfl).2
                          have ca := (HCE.out w1 HJ).2.2.2.2.1
                          go_simp; exact kk _ _ (by simp) HJ trivial rfl
                        · intro a w1 vs K HJ HK HD HN kk
                          have e129 := (HD 6 _ 129 rfl rfl rfl).1.trans (HD 6 _ 129 rfl rfl rfl).2
                          go_simp; exact kk _ _ (by simp) HJ trivial rfl
                        · intro a w1 vs K HJ HK HD HN kk
                          have e130 := (HD 7 _ 130 rfl rfl rfl).1.trans (HD 7 _ 130 rfl rfl rfl).2
                          rw [if_neg (wanted_no 7 true rfl rfl rfl e130)]
                          exact kk undef _ (by simp) HJ trivial trivial
                        · intro a w1 vs K HJ HK HD HN kk
                          have e130 := (HD 7 _ 130 rfl rfl rfl).1.trans (HD 7 _ 130 rfl rfl rfl).2
                          rw [if_neg (wanted_no 7 true rfl rfl rfl e130)]
                          exact kk undef _ (by simp) HJ trivial trivial
                        · intro a w1 vs K HJ HK HD HN kk
                          have e130 := (HD 7 _ 130 rfl rfl rfl).1.trans (HD 7 _ 130 rfl rfl rfl).2
                          rw [if_neg (wanted_no 7 true rfl rfl rfl e130)]
                          exact kk undef _ (by simp) HJ trivial trivial
                        · intro a w1 vs K HJ HK HD HN kk
                          have e130 := (HD 7 _ 130 rfl rfl rfl).1.trans (HD 7 _ 130 rfl rfl rfl).2
                          rw [if_neg (wanted_no 7 true rfl rfl rfl e130)]
                          exact kk undef _ (by simp) HJ trivial trivial
                        · intro a w1 vs K HJ HK HD HN kk
                          have e130 := (HD 7 _ 130 rfl rfl rfl).1.trans (HD 7 _ 130 rfl rfl rfl).2
                          rw [if_neg (wanted_no 7 true rfl rfl rfl e130)]
                          exact kk undef _ (by simp) HJ trivial trivial
                        · intro a w1 vs K HJ HK HD HN kk
                          have e130 := (HD 7 _ 130 rfl rfl rfl).1.trans (HD 7 _ 130 rfl rfl rfl).2
                          rw [if_neg (wanted_no 7 true rfl rfl rfl e130)]
                          exact kk undef _ (by simp) HJ trivial trivial
                        · intro a w1 vs K HJ HK HD HN kk
                          have e130 := (HD 7 _ 130 rfl rfl rfl).1.trans (HD 7 _ 130 rfl rfl rfl).2
                          rw [if_neg (wanted_no 7 true rfl rfl rfl e130)]
                          exact kk undef _ (by simp) HJ trivial trivial
                        · intro a w1 vs K HJ HK HD HN kk
                          have e130 := (HD 7 _ 130 rfl rfl rfl).1.trans (HD 7 _ 130 rfl rfl rfl).2
                          rw [if_neg (wanted_no 7 true rfl rfl rfl e130)]
                          exact kk undef _ (by simp) HJ trivial trivial
                        · intro a w1 vs K HJ HK HD HN kk
                          have e130 := (HD 7 _ 130 rfl rfl rfl).1.trans (HD 7 _ 130 rfl rfl rfl).2
                          rw [if_neg (wanted_no 7 true rfl rfl rfl e130)]
                          exact kk undef _ (by simp) HJ trivial trivial
                        · intro a w1 vs K HJ HK HD HN kk
                          have e130 := (HD 7 _ 130 rfl rfl rfl).1.trans (HD 7 _ 130 rfl rfl rfl).2
                          rw [if_neg (wanted_no 7 true rfl rfl rfl e130)]
                          exact kk undef _ (by simp) HJ trivial trivial
                        · intro a w1 vs K HJ HK HD HN kk
                          have e130 := (HD 7 _ 130 rfl rfl rfl).1.trans (HD 7 _ 130 rfl rfl rfl).2
                          rw [if_neg (wanted_no 7 true rfl rfl rfl e130)]
                          exact kk undef _ (by simp) HJ trivial trivial
                        · intro a w1 vs K HJ HK HD HN kk
                          have e130 := (HD 7 _ 130 rfl rfl rfl).1.trans (HD 7 _ 130 rfl rfl rfl).2
                          rw [if_neg (wanted_no 7 true rfl rfl rfl e130)]
                          exact kk undef _ (by simp) HJ trivial trivial
                        · intro a w1 vs K HJ HK HD HN kk
                          have e130 := (HD 7 _ 130 rfl rfl rfl).1.trans (HD 7 _ 130 rfl rfl rfl).2
                          go_simp; exact kk _ _ (by simp) HJ trivial rfl
                        · intro a w1 vs K HJ HK HD HN kk
                          have e143 := (HD 20 _ 143 rfl rfl rfl).1.trans (HD 20 _ 143 rfl rfl rfl).2
                          go_simp; exact kk _ _ (by simp) HJ trivial rfl
                        · intro a w1 vs K HJ HK HD HN kk
                          have e144 := (HD 21 _ 144 rfl rfl rfl).1.trans (HD 21 _ 144 rfl rfl rfl).2
                          rw [if_neg (wanted_no 21 true rfl rfl rfl e144)]
                          exact kk undef _ (by simp) HJ trivial trivial
                        · intro a w1 vs K HJ HK HD HN kk
                          have e144 := (HD 21 _ 144 rfl rfl rfl).1.trans (HD 21 _ 144 rfl rfl rfl).2
                          rw [if_neg (wanted_no 21 true rfl rfl rfl e144)]
                          exact kk undef _ (by simp) HJ trivial trivial
                        · intro a w1 vs K HJ HK HD HN kk
                          have e144 := (HD 21 _ 144 rfl rfl rfl).1.trans (HD 21 _ 144 rfl rfl rfl).2
                          go_simp; exact kk _ _ (by simp) HJ trivial rfl
                      · intro vs w4 hw4 hrr
                        have e24 : vs 24 = .bool false := hrr 24 _ rfl
                        have HB4 := Lib.hid hw4
                        clear hrr hw4 c2 cl
                        simp only [putAll, Act.put, List.setIfInBounds_toArray, List.set_cons_zero, List.set_cons_succ]
                        rw [e24]
                        clear e24
                        go_wp2_with fail
                        go_roundw
                        case rel => exact ⟨q + 1, by omega, by rw [HE.out], by go_num, Lib.hid (by rw [HE.out]; exact HSTAY.out w4 HB4.out)⟩
                        case measure => simp [intOf]; omega
                    | true =>
                      obtain ⟨pc, hpc⟩ : ∃ pc, decide (pt < cq) = pc := ⟨_, rfl⟩
                      have HPC := Lib.hid hpc
                      rw [Bool.true_and, hpc] at HDK
                      clear hpc
                      obtain ⟨_, _, c2, _, cl, _, _⟩ := HCE.out wr (Below.refl _ _)
                      cases pc with
                      | false =>
                        have HE : Hid (dropK (cntK V l x k) mq (q + 1) = (U, mr)) := Lib.hid HDK.out
                        go_wp2_with fail
                        refine wp_region_steps (by kernel_rfl) (by kernel_rfl) (fun w1 => Below wr.heap.size wr w1) (fun _ _ _ => True)
                          (fun ix u _ _ => match ix with
                            | 0 => u = .pointer (some ⟨X.vb, 0, none⟩)
                            | 1 => u = .pointer (some ⟨X.vb, 0, none⟩)
                            | 2 => u = .pointer (some ⟨X.vb, 2, none⟩)
                            | 3 => u = .slice (some ⟨X.lb, 0, none⟩) k k
                            | 4 => u = .int .i64 q
                            | 5 => u = .pointer (some ⟨X.lb, q, none⟩)
                            | 6 => u = .bool true
                            | 7 => u = .bool true
                            | 8 => u = .pointer (some ⟨X.vb, 0, none⟩)
                            | 9 => u = .pointer (some ⟨X.vb, 0, none⟩)
                            | 10 => u = .pointer (some ⟨X.vb, 3, none⟩)
                            | 11 => u = .slice (some ⟨X.cb, 0, none⟩) k k
                            | 12 => u = .int .i64 q
                            | 13 => u = .pointer (some ⟨X.cb, q, none⟩)
                            | 14 => u = .int .i64 cq
                            | 15 => u = .pointer (some ⟨X.vb, 0, none⟩)
                            | 16 => u = .pointer (some ⟨X.vb, 0, none⟩)
                            | 17 => u = .pointer (some ⟨X.vb, 1, none⟩)
                            | 18 => u = .int .i64 pt
                            | 19 => u = .bool false
                            | 20 => u = .bool false
                            | 21 => u = .bool false
                            | 22 => True
                            | 23 => True
                            | _ => u = .bool false) (Below.refl _ _).drew (fun _ _ _ _ _ _ _ _ h _ _ => h) ?_ ?_
                        · refine ⟨?_, ?_, ?_, ?_, ?_, ?_, ?_, ?_, ?_, ?_, ?_, ?_, ?_, ?_, ?_, ?_, ?_, ?_, ?_, ?_, ?_, ?_, ?_, ?_, ?_, trivial⟩
                          · intro a w1 vs K HJ HK HD HN kk
                            have e0 := HK 0 (by decide)
                            go_simp; exact kk _ _ (by simp) HJ trivial rfl
                          · intro a w1 vs K HJ HK HD HN kk
                            have e123 := (HD 0 _ 123 rfl rfl rfl).1.trans (HD 0 _ 123 rfl rfl rfl).2
                            go_simp; exact kk _ _ (by simp) HJ trivial rfl
                          · intro a w1 vs K HJ HK HD HN kk
                            have e124 := (HD 1 _ 124 rfl rfl rfl).1.trans (HD 1 _ 124 rfl rfl rfl).2
                            go_simp; exact kk _ _ (by simp) HJ trivial rfl
                          · intro a w1 vs K HJ HK HD HN kk
                            have e125 := (HD 2 _ 125 rfl rfl rfl).1.trans (HD 2 _ 125 rfl rfl rfl).2
                            have ca := (HCE.out w1 HJ).2.2.1
                            go_simp; exact kk _ _ (by simp) HJ trivial rfl
                          · intro a w1 vs K HJ HK HD HN kk
                            have e13 := HK 13 (by decide)
                            go_simp; exact kk _ _ (by simp) HJ trivial rfl
                          · intro a w1 vs K HJ HK HD HN kk
                            have e126 := (HD 3 _ 126 rfl rfl rfl).1.trans (HD 3 _ 126 rfl rfl rfl).2
                            have e127 := (HD 4 _ 127 rfl rfl rfl).1.trans (HD 4 _ 127 rfl rfl rfl).2
                            go_simp; exact kk _ _ (by simp) HJ trivial rfl
                          · intro a w1 vs K HJ HK HD HN kk
                            have e128 := (HD 5 _ 128 rfl rfl rfl).1.trans (HD 5 _ 128 rfl rfl rfl).2
                            have ca := (HCE.out w1 HJ).2.2.2.2.1
                            go_simp; exact kk _ _ (by simp) HJ trivial rfl
                          · intro a w1 vs K HJ HK HD HN kk
                            have e129 := (HD 6 _ 129 rfl rfl rfl).1.trans (HD 6 _ 129 rfl rfl rfl).2
                            go_simp; exact kk _ _ (by simp) HJ trivial rfl
                          · intro a w1 vs K HJ HK HD HN kk
                            have e130 := (HD 7 _ 130 rfl rfl rfl).1.trans (HD 7 _ 130 rfl rfl rfl).2
                            rw [if_pos (wanted_yes 7 true rfl rfl rfl e130)]
                            have e0 := HK 0 (by decide)
                            go_simp; exact kk _ _ (by simp) HJ trivial rfl
                          · intro a w1 vs K HJ HK HD HN kk
                            have e130 := (HD 7 _ 130 rfl rfl rfl).1.trans (HD 7 _ 130 rfl rfl rfl).2
                            rw [if_pos (wanted_yes 7 true rfl rfl rfl e130)]
                            have e131 := (HD 8 _ 131 rfl rfl rfl).1.trans (HD 8 _ 131 rfl rfl rfl).2
                            go_simp; exact kk _ _ (by simp) HJ trivial rfl
                          · intro a w1 vs K HJ HK HD HN kk
                            have e130 := (HD 7 _ 130 rfl rfl rfl).1.trans (HD 7 _ 130 rfl rfl rfl).2
                            rw [if_pos (wanted_yes 7 true rfl rfl rfl e130)]
                            have e132 := (HD 9 _ 132 rfl rfl rfl).1.trans (HD 9 _ 132 rfl rfl rfl).2
                            go_simp; exact kk _ _ (by simp) HJ trivial rfl
                          · intro a w1 vs K HJ HK HD HN kk
                            have e130 := (HD 7 _ 130 rfl rfl rfl).1.trans (HD 7 _ 130 rfl rfl rfl).2
                            rw [if_pos (wanted_yes 7 true rfl rfl rfl e130)]
                            have e133 := (HD 10 _ 133 rfl rfl rfl).1.trans (HD 10 _ 133 rfl rfl rfl).2
                            have ca := (HCE.out w1 HJ).2.2.2.1
                            go_simp; exact kk _ _ (by simp) HJ trivial rfl
                          · intro a w1 vs K HJ HK HD HN kk
                            have e130 := (HD 7 _ 130 rfl rfl rfl).1.trans (HD 7 _ 130 rfl rfl rfl).2
                            rw [if_pos (wanted_yes 7 true rfl rfl rfl e130)]
                            have e13 := HK 13 (by decide)
                            go_simp; exact kk _ _ (by simp) HJ trivial rfl
                          · intro a w1 vs K HJ HK HD HN kk
                            have e130 := (HD 7 _ 130 rfl rfl rfl).1.trans (HD 7 _ 130 rfl rfl rfl).2
                            rw [if_pos (wanted_yes 7 true rfl rfl rfl e130)]
                            have e134 := (HD 11 _ 134 rfl rfl rfl).1.trans (HD 11 _ 134 rfl rfl rfl).2
                            have e135 := (HD 12 _ 135 rfl rfl rfl).1.trans (HD 12 _ 135 rfl rfl rfl).2
                            go_simp; exact kk _ _ (by simp) HJ trivial rfl
                          · intro a w1 vs K HJ HK HD HN kk
                            have e130 := (HD 7 _ 130 rfl rfl rfl).1.trans (HD 7 _ 130 rfl rfl rfl).2
                            rw [if_pos (wanted_yes 7 true rfl rfl rfl e130)]
                            have e136 := (HD 13 _ 136 rfl rfl rfl).1.trans (HD 13 _ 136 rfl rfl rfl).2
                            have ca := (HCE.out w1 HJ).2.2.2.2.2.1
                            go_simp; exact kk _ _ (by simp) HJ trivial rfl
                          · intro a w1 vs K HJ HK HD HN kk
                            have e130 := (HD 7 _ 130 rfl rfl rfl).1.trans (HD 7 _ 130 rfl rfl rfl).2
                            rw [if_pos (wanted_yes 7 true rfl rfl rfl e130)]
                            have e0 := HK 0 (by decide)
                            go_simp; exact kk _ _ (by simp) HJ trivial rfl
                          · intro a w1 vs K HJ HK HD HN kk
                            have e130 := (HD 7 _ 130 rfl rfl rfl).1.trans (HD 7 _ 130 rfl rfl rfl).2
                            rw [if_pos (wanted_yes 7 true rfl rfl rfl e130)]
                            have e138 := (HD 15 _ 138 rfl rfl rfl).1.trans (HD 15 _ 138 rfl rfl rfl).2
                            go_simp; exact kk _ _ (by simp) HJ trivial rfl
                          · intro a w1 vs K HJ HK HD HN kk
                            have e130 := (HD 7 _ 130 rfl rfl rfl).1.trans (HD 7 _ 130 rfl rfl rfl).2
                            rw [if_pos (wanted_yes 7 true rfl rfl rfl e130)]
                            have e139 := (HD 16 _ 139 rfl rfl rfl).1.trans (HD 16 _ 139 rfl rfl rfl).2
                            go_simp; exact kk _ _ (by simp) HJ trivial rfl
                          · intro a w1 vs K HJ HK HD HN kk
                            have e130 := (HD 7 _ 130 rfl rfl rfl).1.trans (HD 7 _ 130 rfl rfl rfl).2
                            rw [if_pos (wanted_yes 7 true rfl rfl rfl e130)]
                            have e140 := (HD 17 _ 140 rfl rfl rfl).1.trans (HD 17 _ 140 rfl rfl rfl).2
                            have ca := (HCE.out w1 HJ).2.1
                            go_simp; exact kk _ _ (by simp) HJ trivial rfl
                          · intro a w1 vs K HJ HK HD HN kk
                            have e130 := (HD 7 _ 130 rfl rfl rfl).1.trans (HD 7 _ 130 rfl rfl rfl).2
                            rw [if_pos (wanted_yes 7 true rfl rfl rfl e130)]
                            have e137 := (HD 14 _ 137 rfl rfl rfl).1.trans (HD 14 _ 137 rfl rfl rfl).2
                            have e141 := (HD 18 _ 141 rfl rfl rfl).1.trans (HD 18 _ 141 rfl rfl rfl).2
                            have hpc := HPC.out
                            go_simp; exact kk _ _ (by simp) HJ trivial rfl
                          · intro a w1 vs K HJ HK HD HN kk
                            have e130 := (HD 7 _ 130 rfl rfl rfl).1.trans (HD 7 _ 130 rfl rfl rfl).2
                            have e142 := (HD 19 _ 142 rfl rfl rfl).1.trans (HD 19 _ 142 rfl rfl rfl).2
                            go_simp; exact kk _ _ (by simp) HJ trivial rfl
                          · intro a w1 vs K HJ HK HD HN kk
                            have e143 := (HD 20 _ 143 rfl rfl rfl).1.trans (HD 20 _ 143 rfl rfl rfl).2
                            go_simp; exact kk _ _ (by simp) HJ trivial rfl
                          · intro a w1 vs K HJ HK HD HN kk
                            have e144 := (HD 21 _ 144 rfl rfl rfl).1.trans (HD 21 _ 144 rfl rfl rfl).2
                            rw [if_neg (wanted_no 21 true rfl rfl rfl e144)]
                            exact kk undef _ (by simp) HJ trivial trivial
                          · intro a w1 vs K HJ HK HD HN kk
                            have e144 := (HD 21 _ 144 rfl rfl rfl).1.trans (HD 21 _ 144 rfl rfl rfl).2
                            rw [if_neg (wanted_no 21 true rfl rfl rfl e144)]
                            exact kk undef _ (by simp) HJ trivial trivial
                          · intro a w1 vs K HJ HK HD HN kk
                            have e144 := (HD 21 _ 144 rfl rfl rfl).1.trans (HD 21 _ 144 rfl rfl rfl).2
                            go_simp; exact kk _ _ (by simp) HJ trivial rfl
                        · intro vs w4 hw4 hrr
                          have e24 : vs 24 = .bool false := hrr 24 _ rfl
                          have HB4 := Lib.hid hw4
                          clear hrr hw4 c2 cl
                          simp only [putAll, Act.put, List.setIfInBounds_toArray, List.set_cons_zero, List.set_cons_succ]
                          rw [e24]
                          clear e24
                          go_wp2_with fail
                          go_roundw
                          case rel => exact ⟨q + 1, by omega, by rw [HE.out], by go_num, Lib.hid (by rw [HE.out]; exact HSTAY.out w4 HB4.out)⟩
                          case measure => simp [intOf]; omega
                      | true =>
                        obtain ⟨mb, hmb⟩ : ∃ mb, decide (2 < mr) = mb := ⟨_, rfl⟩
                        have HMB : Hid (decide ((2 : Int) < (mr : Int)) = mb) := Lib.hid (by rw [← hmb]; exact decide_eq_decide.2 (by omega))
                        rw [Bool.true_and, hmb] at HDK
                        go_wp2_with fail
                        refine wp_region_steps (by kernel_rfl) (by kernel_rfl) (fun w1 => Below wr.heap.size wr w1) (fun _ _ _ => True)
                          (fun ix u _ _ => match ix with
                            | 0 => u = .pointer (some ⟨X.vb, 0, none⟩)
                            | 1 => u = .pointer (some ⟨X.vb, 0, none⟩)
                            | 2 => u = .pointer (some ⟨X.vb, 2, none⟩)
                            | 3 => u = .slice (some ⟨X.lb, 0, none⟩) k k
                            | 4 => u = .int .i64 q
                            | 5 => u = .pointer (some ⟨X.lb, q, none⟩)
                            | 6 => u = .bool true
                            | 7 => u = .bool true
                            | 8 => u = .pointer (some ⟨X.vb, 0, none⟩)
                            | 9 => u = .pointer (some ⟨X.vb, 0, none⟩)
                            | 10 => u = .pointer (some ⟨X.vb, 3, none⟩)
                            | 11 => u = .slice (some ⟨X.cb, 0, none⟩) k k
                            | 12 => u = .int .i64 q
                            | 13 => u = .pointer (some ⟨X.cb, q, none⟩)
                            | 14 => u = .int .i64 cq
                            | 15 => u = .pointer (some ⟨X.vb, 0, none⟩)
                            | 16 => u = .pointer (some ⟨X.vb, 0, none⟩)
                            | 17 => u = .pointer (some ⟨X.vb, 1, none⟩)
                            | 18 => u = .int .i64 pt
                            | 19 => u = .bool true
                            | 20 => u = .bool true
                            | 21 => u = .bool true
                            | 22 => u = .int .i64 mr
                            | 23 => u = .bool mb
                            | _ => u = .bool mb) (Below.refl _ _).drew (fun _ _ _ _ _ _ _ _ h _ _ => h) ?_ ?_
                        · refine ⟨?_, ?_, ?_, ?_, ?_, ?_, ?_, ?_, ?_, ?_, ?_, ?_, ?_, ?_, ?_, ?_, ?_, ?_, ?_, ?_, ?_, ?_, ?_, ?_, ?_, trivial⟩
                          · intro a w1 vs K HJ HK HD HN kk
                            have e0 := HK 0 (by decide)
                            go_simp; exact kk _ _ (by simp) HJ trivial rfl
                          · intro a w1 vs K HJ HK HD HN kk
                            have e123 := (HD 0 _ 123 rfl rfl rfl).1.trans (HD 0 _ 123 rfl rfl rfl).2
                            go_simp; exact kk _ _ (by simp) HJ trivial rfl
                          · intro a w1 vs K HJ HK HD HN kk
                            have e124 := (HD 1 _ 124 rfl rfl rfl).1.trans (HD 1 _ 124 rfl rfl rfl).2
                            go_simp; exact kk _ _ (by simp) HJ trivial rfl
                          · intro a w1 vs K HJ HK HD HN kk
                            have e125 := (HD 2 _ 125 rfl rfl rfl).1.trans (HD 2 _ 125 rfl rfl rfl).2
                            have ca := (HCE.out w1 HJ).2.2.1
                            go_simp; exact kk _ _ (by simp) HJ trivial rfl
                          · intro a w1 vs K HJ HK HD HN kk
                            have e13 := HK 13 (by decide)
                            go_simp; exact kk _ _ (by simp) HJ trivial rfl
                          · intro a w1 vs K HJ HK HD HN kk
                            have e126 := (HD 3 _ 126 rfl rfl rfl).1.trans (HD 3 _ 126 rfl rfl rfl).2
                            have e127 := (HD 4 _ 127 rfl rfl rfl).1.trans (HD 4 _ 127 rfl rfl rfl).2
                            go_simp; exact kk _ _ (by simp) HJ trivial rfl
                          · intro a w1 vs K HJ HK HD HN kk
                            have e128 := (HD 5 _ 128 rfl rfl rfl).1.trans (HD 5 _ 128 rfl rfl rfl).2
                            have ca := (HCE.out w1 HJ).2.2.2.2.1
                            go_simp; exact kk _ _ (by simp) HJ trivial rfl
                          · intro a w1 vs K HJ HK HD HN kk
                            have e129 := (HD 6 _ 129 rfl rfl rfl).1.trans (HD 6 _ 129 rfl rfl rfl).2
                            go_simp; exact kk _ _ (by simp) HJ trivial rfl
                          · intro a w1 vs K HJ HK HD HN kk
                            have e130 := (HD 7 _ 130 rfl rfl rfl).1.trans (HD 7 _ 130 rfl rfl rfl).2
                            rw [if_pos (wanted_yes 7 true rfl rfl rfl e130)]
                            have e0 := HK 0 (by decide)
                            go_simp; exact kk _ _ (by simp) HJ trivial rfl
                          · intro a w1 vs K HJ HK HD HN kk
                            have e130 := (HD 7 _ 130 rfl rfl rfl).1.trans (HD 7 _ 130 rfl rfl rfl).2
                            rw [if_pos (wanted_yes 7 true rfl rfl rfl e130)]
                            have e131 := (HD 8 _ 131 rfl rfl rfl).1.trans (HD 8 _ 131 rfl rfl rfl).2
                            go_simp; exact kk _ _ (by simp) HJ trivial rfl
                          · intro a w1 vs K HJ HK HD HN kk
                            have e130 := (HD 7 _ 130 rfl rfl rfl).1.trans (HD 7 _ 130 rfl rfl rfl).2
                            rw [if_pos (wanted_yes 7 true rfl rfl rfl e130)]
                            have e132 := (HD 9 _ 132 rfl rfl rfl).1.trans (HD 9 _ 132 rfl rfl rfl).2
                            go_simp; exact kk _ _ (by simp) HJ trivial rfl
                          · intro a w1 vs K HJ HK HD HN kk
                            have e130 := (HD 7 _ 130 rfl rfl rfl).1.trans (HD 7 _ 130 rfl rfl rfl).2
                            rw [if_pos (wanted_yes 7 true rfl rfl rfl e130)]
                            have e133 := (HD 10 _ 133 rfl rfl rfl).1.trans (HD 10 _ 133 rfl rfl rfl).2
                            have ca := (HCE.out w1 HJ).2.2.2.1
                            go_simp; exact kk _ _ (by simp) HJ trivial rfl
                          · intro a w1 vs K HJ HK HD HN kk
                            have e130 := (HD 7 _ 130 rfl rfl rfl).1.trans (HD 7 _ 130 rfl rfl rfl).2
                            rw [if_pos (wanted_yes 7 true rfl rfl rfl e130)]
                            have e13 := HK 13 (by decide)
                            go_simp; exact kk _ _ (by simp) HJ trivial rfl
                          · intro a w1 vs K HJ HK HD HN kk
                            have e130 := (HD 7 _ 130 rfl rfl rfl).1.trans (HD 7 _ 130 rfl rfl rfl).2
                            rw [if_pos (wanted_yes 7 true rfl rfl rfl e130)]
                            have e134 := (HD 11 _ 134 rfl rfl rfl).1.trans (HD 11 _ 134 rfl rfl rfl).2
                            have e135 := (HD 12 _ 135 rfl rfl rfl).1.trans (HD 12 _ 135 rfl rfl rfl).2
                            go_simp; exact kk _ _ (by simp) HJ trivial rfl
                          · intro a w1 vs K HJ HK HD HN kk
                            have e130 := (HD 7 _ 130 rfl rfl rfl).1.trans (HD 7 _ 130 rfl rfl rfl).2
                            rw [if_pos (wanted_yes 7 true rfl rfl rfl e130)]
                            have e136 := (HD 13 _ 136 rfl rfl rfl).1.trans (HD 13 _ 136 rfl rfl rfl).2
                            have ca := (HCE.out w1 HJ).2.2.2.2.2.1
                            go_simp; exact kk _ _ (by simp) HJ trivial rfl
                          · intro a w1 vs K HJ HK HD HN kk
                            have e130 := (HD 7 _ 130 rfl rfl rfl).1.trans (HD 7 _ 130 rfl rfl rfl).2
                            rw [if_pos (wanted_yes 7 true rfl rfl rfl e130)]
                            have e0 := HK 0 (by decide)
                            go_simp; exact kk _ _ (by simp) HJ trivial rfl
                          · intro a w1 vs K HJ HK HD HN kk
                            have e130 := (HD 7 _ 130 rfl rfl rfl).1.trans (HD 7 _ 130 rfl rfl rfl).2
                            rw [if_pos (wanted_yes 7 true rfl rfl rfl e130)]
                            have e138 := (HD 15 _ 138 rfl rfl rfl).1.trans (HD 15 _ 138 rfl rfl rfl).2
                            go_simp; exact kk _ _ (by simp) HJ trivial rfl
                          · intro a w1 vs K HJ HK HD HN kk
                            have e130 := (HD 7 _ 130 rfl rfl rfl).1.trans (HD 7 _ 130 rfl rfl rfl).2
                            rw [if_pos (wanted_yes 7 true rfl rfl rfl e130)]
                            have e139 := (HD 16 _ 139 rfl rfl rfl).1.trans (HD 16 _ 139 rfl rfl rfl).2
                            go_simp; exact kk _ _ (by simp) HJ trivial rfl
                          · intro a w1 vs K HJ HK HD HN kk
                            have e130 := (HD 7 _ 130 rfl rfl rfl).1.trans (HD 7 _ 130 rfl rfl rfl).2
                            rw [if_pos (wanted_yes 7 true rfl rfl rfl e130)]
                            have e140 := (HD 17 _ 140 rfl rfl rfl).1.trans (HD 17 _ 140 rfl rfl rfl).2
                            have ca := (HCE.out w1 HJ).2.1
                            go_simp; exact kk _ _ (by simp) HJ trivial rfl
                          · intro a w1 vs K HJ HK HD HN kk
                            have e130 := (HD 7 _ 130 rfl rfl rfl).1.trans (HD 7 _ 130 rfl rfl rfl).2
                            rw [if_pos (wanted_yes 7 true rfl rfl rfl e130)]
                            have e137 := (HD 14 _ 137 rfl rfl rfl).1.trans (HD 14 _ 137 rfl rfl rfl).2
                            have e141 := (HD 18 _ 141 rfl rfl rfl).1.trans (HD 18 _ 141 rfl rfl rfl).2
                            have hpc := HPC.out
                            go_simp; exact kk _ _ (by simp) HJ trivial rfl
                          · intro a w1 vs K HJ HK HD HN kk
                            have e130 := (HD 7 _ 130 rfl rfl rfl).1.trans (HD 7 _ 130 rfl rfl rfl).2
                            have e142 := (HD 19 _ 142 rfl rfl rfl).1.trans (HD 19 _ 142 rfl rfl rfl).2
                            go_simp; exact kk _ _ (by simp) HJ trivial rfl
                          · intro a w1 vs K HJ HK HD HN kk
                            have e143 := (HD 20 _ 143 rfl rfl rfl).1.trans (HD 20 _ 143 rfl rfl rfl).2
                            go_simp; exact kk _ _ (by simp) HJ trivial rfl
                          · intro a w1 vs K HJ HK HD HN kk
                            have e144 := (HD 21 _ 144 rfl rfl rfl).1.trans (HD 21 _ 144 rfl rfl rfl).2
                            rw [if_pos (wanted_yes 21 true rfl rfl rfl e144)]
                            have e10 := HK 10 (by decide)
                            go_simp; exact kk _ _ (by simp) HJ trivial rfl
                          · intro a w1 vs K HJ HK HD HN kk
                            have e144 := (HD 21 _ 144 rfl rfl rfl).1.trans (HD 21 _ 144 rfl rfl rfl).2
                            rw [if_pos (wanted_yes 21 true rfl rfl rfl e144)]
                            have e145 := (HD 22 _ 145 rfl rfl rfl).1.trans (HD 22 _ 145 rfl rfl rfl).2
                            have hmb := HMB.out
                            go_simp; exact kk _ _ (by simp) HJ trivial rfl
                          · intro a w1 vs K HJ HK HD HN kk
                            have e144 := (HD 21 _ 144 rfl rfl rfl).1.trans (HD 21 _ 144 rfl rfl rfl).2
                            have e146 := (HD 23 _ 146 rfl rfl rfl).1.trans (HD 23 _ 146 rfl rfl rfl).2
                            go_simp; exact kk _ _ (by simp) HJ trivial rfl
                        · intro vs w4 hw4 hrr
                          have e24 : vs 24 = .bool mb := hrr 24 _ rfl
                          have HB4 := Lib.hid hw4
                          clear hrr hw4 c2 cl
                          simp only [putAll, Act.put, List.setIfInBounds_toArray, List.set_cons_zero, List.set_cons_succ]
                          rw [e24]
                          clear e24
                          cases mb with
                          | false =>
                            have HE : Hid (dropK (cntK V l x k) mq (q + 1) = (U, mr)) := Lib.hid HDK.out
                            go_wp2_with fail
                            go_roundw
                            case rel => exact ⟨q + 1, by omega, by rw [HE.out], by go_num, Lib.hid (by rw [HE.out]; exact HSTAY.out w4 HB4.out)⟩
                            case measure => simp [intOf]; omega
                          | true =>
                            have HE : Hid (dropK (cntK V l x k) mq (q + 1) = ({ U with live := fun i => if i = q then false else U.live i, cnt := fun i => if i = q then 0 else U.cnt i }, mr - 1)) := Lib.hid (by have h := HDK.out; rw [if_pos rfl, ← HPT.out] at h; exact h)
                            have hm2 : 2 < mr := of_decide_eq_true hmb
                            have HDJ := Lib.hid (DropJ.start HUN.out hlt (HSTAY.out w4 HB4.out).1 (HSTAY.out w4 HB4.out).2)
                            clear hmb
                            go_wp2_with fail
                            refine wp_region_stepsJ (by kernel_rfl) (by kernel_rfl) (fun dn _ w1 => DropJ B X U q k w2 (dn 11) (dn 13) w1) (fun _ _ _ => True)
                              (fun ix u _ _ => match ix with
                                | 0 => u = .pointer (some ⟨X.vb, 0, none⟩)
                                | 1 => u = .pointer (some ⟨X.vb, 0, none⟩)
                                | 2 => u = .pointer (some ⟨X.vb, 2, none⟩)
                                | 3 => u = .slice (some ⟨X.lb, 0, none⟩) k k
                                | 4 => u = .int .i64 q
                                | 5 => u = .pointer (some ⟨X.vb, 0, none⟩)
                                | 6 => u = .pointer (some ⟨X.vb, 0, none⟩)
                                | 7 => u = .pointer (some ⟨X.vb, 3, none⟩)
                                | 8 => u = .slice (some ⟨X.cb, 0, none⟩) k k
                                | 9 => u = .int .i64 q
                                | 10 => u = .pointer (some ⟨X.lb, q, none⟩)
                                | 11 => True
                                | 12 => u = .pointer (some ⟨X.cb, q, none⟩)
                                | _ => True) (fun _ => HDJ.out.drew) (fun _ _ _ _ _ _ _ _ h _ => h) ?_ ?_
                            · refine ⟨?_, ?_, ?_, ?_, ?_, ?_, ?_, ?_, ?_, ?_, ?_, ?_, ?_, ?_, trivial⟩
                              · intro a w1 vs K dn Hd Hb HJ HK HD HN kk
                                have e0 := HK 0 (by decide)
                                go_simp; exact kk _ _ (by simp) HJ trivial rfl
                              · intro a w1 vs K dn Hd Hb HJ HK HD HN kk
                                have e148 := (HD 0 _ 148 rfl rfl rfl).1.trans (HD 0 _ 148 rfl rfl rfl).2
                                go_simp; exact kk _ _ (by simp) HJ trivial rfl
                              · intro a w1 vs K dn Hd Hb HJ HK HD HN kk
                                have e149 := (HD 1 _ 149 rfl rfl rfl).1.trans (HD 1 _ 149 rfl rfl rfl).2
                                go_simp; exact kk _ _ (by simp) HJ trivial rfl
                              · intro a w1 vs K dn Hd Hb HJ HK HD HN kk
                                have e150 := (HD 2 _ 150 rfl rfl rfl).1.trans (HD 2 _ 150 rfl rfl rfl).2
                                have ca := (HJ.cells).1
                                go_simp; exact kk _ _ (by simp) HJ trivial rfl
                              · intro a w1 vs K dn Hd Hb HJ HK HD HN kk
                                have e13 := HK 13 (by decide)
                                go_simp; exact kk _ _ (by simp) HJ trivial rfl
                              · intro a w1 vs K dn Hd Hb HJ HK HD HN kk
                                have e0 := HK 0 (by decide)
                                go_simp; exact kk _ _ (by simp) HJ trivial rfl
                              · intro a w1 vs K dn Hd Hb HJ HK HD HN kk
                                have e153 := (HD 5 _ 153 rfl rfl rfl).1.trans (HD 5 _ 153 rfl rfl rfl).2
                                go_simp; exact kk _ _ (by simp) HJ trivial rfl
                              · intro a w1 vs K dn Hd Hb HJ HK HD HN kk
                                have e154 := (HD 6 _ 154 rfl rfl rfl).1.trans (HD 6 _ 154 rfl rfl rfl).2
                                go_simp; exact kk _ _ (by simp) HJ trivial rfl
                              · intro a w1 vs K dn Hd Hb HJ HK HD HN kk
                                have e155 := (HD 7 _ 155 rfl rfl rfl).1.trans (HD 7 _ 155 rfl rfl rfl).2
                                have ca := (HJ.cells).2.1
                                go_simp; exact kk _ _ (by simp) HJ trivial rfl
                              · intro a w1 vs K dn Hd Hb HJ HK HD HN kk
                                have e13 := HK 13 (by decide)
                                go_simp; exact kk _ _ (by simp) HJ trivial rfl
                              · intro a w1 vs K dn Hd Hb HJ HK HD HN kk
                                have e151 := (HD 3 _ 151 rfl rfl rfl).1.trans (HD 3 _ 151 rfl rfl rfl).2
                                have e152 := (HD 4 _ 152 rfl rfl rfl).1.trans (HD 4 _ 152 rfl rfl rfl).2
                                go_simp; exact kk _ _ (by simp) HJ trivial rfl
                              · intro a w1 vs K dn Hd Hb HJ HK HD HN kk
                                have e158 := (HD 10 _ 158 rfl rfl rfl).1.trans (HD 10 _ 158 rfl rfl rfl).2
                                have ca := (HJ.cells).2.2.1
                                have cf := (HJ.cells).2.2.2.1
                                go_simp; exact kk undef _ (by simp) (by simpa [updB] using HJ.setL) trivial trivial
                              · intro a w1 vs K dn Hd Hb HJ HK HD HN kk
                                have e156 := (HD 8 _ 156 rfl rfl rfl).1.trans (HD 8 _ 156 rfl rfl rfl).2
                                have e157 := (HD 9 _ 157 rfl rfl rfl).1.trans (HD 9 _ 157 rfl rfl rfl).2
                                go_simp; exact kk _ _ (by simp) HJ trivial rfl
                              · intro a w1 vs K dn Hd Hb HJ HK HD HN kk
                                have e159 := (HD 12 _ 159 rfl rfl rfl).1.trans (HD 12 _ 159 rfl rfl rfl).2
                                have ca := (HJ.cells).2.2.2.2.1
                                have cf := (HJ.cells).2.2.2.2.2
                                go_simp; exact kk undef _ (by simp) (by simpa [updB] using HJ.setC) trivial trivial
                            · intro vs dn w5 hdn hj _
                              have hv5 : Hid (VotAt w5 B X { U with live := fun i => if i = q then false else U.live i, cnt := fun i => if i = q then 0 else U.cnt i } ∧ ChgV X w2 w5) := Lib.hid (by
                                rw [hdn 11 (by decide), hdn 13 (by decide)] at hj
                                exact ⟨hj.vot.congr rfl rfl rfl (fun i _ => by simp) (fun i _ => by simp), hj.chg⟩)
                              clear hdn hj
                              simp only [putAll, Act.put, List.setIfInBounds_toArray, List.set_cons_zero, List.set_cons_succ]
                              go_wp2_with fail
                              go_roundw
                              case rel => exact ⟨q + 1, by omega, by rw [HE.out]; show Value.int _ _ = Value.int _ _; congr 1; omega, by go_num, Lib.hid (by rw [HE.out]; exact hv5.out)⟩
                              case measure => simp [intOf]; omega
                  · obtain rfl : k = q := by omega
                    have HF := Lib.hid hs.out
                    go_wp2_with fail
                    go_ret2
                    exact HFIN.out _ _ (by rw [HVO.out]; rfl) (by rw [HVO.out, HMQ.out]; exact HF.out.1) (HC2.out.trans HF.out.2)
end Go.Proofs.Ytnmccbjdfdbgpaa
/- What is proved: a contract of Midpoint. Conditions: the readings lie in memory. -/
namespace Go.Proofs.Ytnmccbjdfdbgpaa
open Go.RowKit

def midpB (l : List Int) (f : Int) : Int × Int :=
  if inB f 0 1073741824 && inB l.length (2 * f + 1) 100 && allN l.length (fun i => inB (getI l i) (-1073741824) 1073741824) then (midB l f.toNat, 0) else (0, 4)
set_option maxRecDepth 100000 in
theorem bad2_any (w : World) (v : Int) : Calls Try.prog 68 #[.int .i64 v] w fun e w' => e = .returned (.bool (!inB v (-1073741824) 1073741824)) ∧ Below w.heap.size w w' := by
  have HI := Lib.hid fun w' => within_any v (-1073741824) 1073741824 w'
  obtain ⟨b, hb⟩ : ∃ b, inB v (-1073741824) 1073741824 = b := ⟨_, rfl⟩
  rw [hb] at HI ⊢
  clear hb
  go_enter Try.func68, Try.ntmps68
  go_wp2_with fail
  refine (HI.out _).mono ?_
  rintro e w' ⟨rfl, rfl⟩
  go_wp2_with fail
  go_ret
  exact ⟨rfl, Below.refl _ _⟩
theorem badInts (w : World) (A : Option Addr) (c : Nat) (l : List Int) (h : IntsAt w w.heap.size A l) :
    Calls Try.prog 62 #[.slice A l.length c, .func (.func 68) #[] #[]] w fun e w' => e = .returned (.bool (!(allN l.length fun i => inB (getI l i) (-1073741824) 1073741824))) ∧ Below w.heap.size w w' := by
  have := conInt w A l.length c _ h 68 #[] (fun i => !inB (getI l i) (-1073741824) 1073741824) (fun args w => by kernel_rfl) fun w' _ i _ => bad2_any w' _
  simpa using this
set_option maxRecDepth 100000 in
set_option maxHeartbeats 16000000 in
theorem mid_any (w : World) (A : Option Addr) (c : Nat) (l : List Int) (f : Int) (h : IntsAt w w.heap.size A l) :
    Calls Try.prog 31 #[.slice A l.length c, .int .i64 f] w fun e w' => e = .returned (.tuple #[.int .i64 (midpB l f).1, .int .i64 (midpB l f).2]) ∧ Below w.heap.size w w' := by
  have hll := h.1
  have HI1 := Lib.hid fun w' => within_any f 0 1073741824 w'
  have HI2 := Lib.hid fun w' => within_any l.length (2 * f + 1) 100 w'
  have HB := Lib.hid (badInts w A c l h)
  have HM : Hid (∃ r, midpB l f = r) := Lib.hid ⟨_, rfl⟩
  have HD : Hid (midpB l f = if inB f 0 1073741824 && inB l.length (2 * f + 1) 100 && allN l.length (fun i => inB (getI l i) (-1073741824) 1073741824) then (midB l f.toNat, 0) else (0, 4)) := Lib.hid rfl
  have HL := Lib.hid h
  obtain ⟨r, hr⟩ := HM.out
  rw [hr] at HD ⊢
  obtain ⟨b1, hb1⟩ : ∃ b, inB f 0 1073741824 = b := ⟨_, rfl⟩
  have HB1 := Lib.hid hb1
  rw [hb1] at HI1 HD
  obtain ⟨n, hn⟩ : ∃ n, l.length = n := ⟨_, rfl⟩
  have HN := Lib.hid hn
  obtain ⟨b2, hb2⟩ : ∃ b, inB l.length (2 * f + 1) 100 = b := ⟨_, rfl⟩
  have HB2 := Lib.hid hb2
  rw [hb2] at HI2 HD
  obtain ⟨b3, hb3⟩ : ∃ b, (allN l.length fun i => inB (getI l i) (-1073741824) 1073741824) = b := ⟨_, rfl⟩
  have HB3 := Lib.hid hb3
  rw [hb3] at HB HD
  rw [hn] at hll HI2 HB HB2 ⊢
  clear h HM hr hn hb2 hb3
  cases b1 with
  | false =>
    have HR : Hid (r = (0, 4)) := Lib.hid HD.out
    clear hb1
    go_enter Try.func31, Try.ntmps31
    go_wp2_with fail
    refine (HI1.out _).mono ?_
    rintro e w' ⟨rfl, rfl⟩
    go_wp2_with fail
    go_ret2
    exact ⟨by rw [HR.out]; rfl, Below.refl _ _⟩
  | true =>
    have hf := inB_iff.1 hb1
    have hw1 : 2 * f + 1 ≤ 9223372036854775807 := by omega
    have hw2 : -9223372036854775808 ≤ 2 * f + 1 := by omega
    clear hb1
    cases b2 with
    | false =>
      have HR : Hid (r = (0, 4)) := Lib.hid HD.out
      go_enter Try.func31, Try.ntmps31
      go_wp2_with fail
      refine (HI1.out _).mono ?_
      rintro e w' ⟨rfl, rfl⟩
      go_wp2_with fail
      refine (HI2.out _).mono ?_
      rintro e w' ⟨rfl, rfl⟩
      go_wp2_with fail
      go_ret2
      exact ⟨by rw [HR.out]; rfl, Below.refl _ _⟩
    | true =>
      obtain ⟨hn1, hn2⟩ := inB_iff.1 HB2.out
      obtain ⟨F, hF⟩ : ∃ F : Nat, f = F := ⟨f.toNat, by omega⟩
      subst hF
      have hF2 : 2 * F + 1 ≤ n := by omega
      cases b3 with
      | false =>
        have HR : Hid (r = (0, 4)) := Lib.hid HD.out
        go_enter Try.func31, Try.ntmps31
        go_wp2_with fail
        refine (HI1.out _).mono ?_
        rintro e w' ⟨rfl, rfl⟩
        go_wp2_with fail
        refine (HI2.out _).mono ?_
        rintro e w' ⟨rfl, rfl⟩
        go_wp2_with fail
        refine HB.out.mono ?_
        rintro e w1 ⟨rfl, hb1⟩
        have HX1 := Lib.hid hb1
        clear hb1
        go_wp2_with fail
        go_ret2
        exact ⟨by rw [HR.out]; rfl, HX1.out⟩
      | true =>
        have HR : Hid (r = (midB l F, 0)) := Lib.hid HD.out
        have HE := Lib.hid fun (w' : World) (hb : Below w.heap.size w w') => ascending_any w' A c l (Sl.mono (Sl.below HL.out hb) hb.size) (by rw [HN.out]; omega)
        rw [HN.out] at HE
        obtain ⟨x, hx⟩ : ∃ x, getI (sortB l) F = x := ⟨_, rfl⟩
        obtain ⟨y, hy⟩ : ∃ y, getI (sortB l) (n - 1 - F) = y := ⟨_, rfl⟩
        have HR2 : Hid (r = ((x + y) / 2, 0)) := Lib.hid (by rw [HR.out, ← hx, ← hy, ← HN.out]; rfl)
        have hrange : ∀ k, k < n → -1073741824 ≤ getI (sortB l) k ∧ getI (sortB l) k ≤ 1073741824 := fun k hk => by
          have hp := sortB_perm l
          have hsl := sortB_len l
          have hlt : k < (sortB l).length := by rw [hsl, HN.out]; exact hk
          have hm : getI (sortB l) k ∈ l := hp.mem_iff.1 (by unfold getI; rw [List.getD_eq_getElem?_getD, List.getElem?_eq_getElem hlt]; exact List.getElem_mem hlt)
          obtain ⟨i, hi, he⟩ := List.getElem_of_mem hm
          have := allN_iff.1 HB3.out i hi
          rw [show getI l i = getI (sortB l) k from by rw [← he]; unfold getI; rw [List.getD_eq_getElem?_getD, List.getElem?_eq_getElem hi]; rfl] at this
          exact inB_iff.1 this
        have hxr := hrange F (by omega)
        have hyr := hrange (n - 1 - F) (by omega)
        rw [hx] at hxr
        rw [hy] at hyr
        have HX := Lib.hid hx
        have HY := Lib.hid hy
        clear hrange hx hy
        go_enter Try.func31, Try.ntmps31
        go_wp2_with fail
        refine (HI1.out _).mono ?_
        rintro e w' ⟨rfl, rfl⟩
        go_wp2_with fail
        refine (HI2.out _).mono ?_
        rintro e w' ⟨rfl, rfl⟩
        go_wp2_with fail
        refine HB.out.mono ?_
        rintro e w1 ⟨rfl, hb1⟩
        have HX1 := Lib.hid hb1
        clear hb1
        go_wp2_with fail
        refine (HE.out w1 HX1.out).mono ?_
        rintro e w2 ⟨A3, c3, rfl, hcl, hb2⟩
        obtain ⟨g3, cur3, rfl, hg3, hbk3, hcc3⟩ := hcl.2 (by omega)
        have HX2 := Lib.hid (HX1.out.trans (hb2.mono HX1.out.size))
        have d1 : w2.cell? ⟨g3, F, none⟩ = some (.int .i64 x) := by
          have := hcc3 F (by omega) 0 (by omega)
          dsimp only at this
          rw [Nat.mul_one, Nat.add_zero, HX.out] at this
          exact (hbk3.cell _).trans this
        have d2 : w2.cell? ⟨g3, n - 1 - F, none⟩ = some (.int .i64 y) := by
          have := hcc3 (n - 1 - F) (by omega) 0 (by omega)
          dsimp only at this
          rw [Nat.mul_one, Nat.add_zero, HY.out] at this
          exact (hbk3.cell _).trans this
        clear hcl hg3 hbk3 hcc3 hb2
        have hi1 : (F : Int) < (n : Int) := by omega
        have hi2 : (n : Int) - 1 - F = ((n - 1 - F : Nat) : Int) := by omega
        have hi3 : ((n - 1 - F : Nat) : Int) < (n : Int) := by omega
        have h0F : (0 : Int) ≤ (F : Int) := by omega
        have h0G : (0 : Int) ≤ ((n - 1 - F : Nat) : Int) := by omega
        go_wp2_with fail
        go_quiet (fail)
        go_wp2_with fail
        go_ret2
        exact ⟨by rw [HR2.out]; rfl, HX2.out.trans (below_drewN (Below.refl _ _) _)⟩
end Go.Proofs.Ytnmccbjdfdbgpaa
/- What is proved: maps with any keys, as lists of pairs; a contract of gcd. Conditions: those that each lemma states. -/
namespace Go.Proofs.Ytnmccbjdfdbgpaa
open Go.RowKit Go.Maps Go.WideMaps

/-- Block b is a map that holds these pairs. -/
structure KMap (K : TypeId) (w : World) (b : Nat) (l : List (Value × Value)) : Prop where
  keys : ∀ x ∈ l, ∃ lit, keyOf Try.prog K x.1 = some lit
  obj : ∃ arr clock, w.heap[b]? = some (.map arr clock) ∧ arr.toList.map (fun e => (e.key, e.val)) = l
theorem KMap.made (K : TypeId) (w : World) : KMap K (w.alloc (.map #[] 0)) w.heap.size [] := ⟨(fun x h => absurd h (by simp)), #[], 0, by rw [heap_alloc_new], rfl⟩
theorem KMap.keep {K : TypeId} {w w' : World} {b : Nat} {l : List (Value × Value)} (h : KMap K w b l) (hk : w'.heap[b]? = w.heap[b]?) : KMap K w' b l := by
  obtain ⟨h0, arr, clock, h1, h2⟩ := h
  exact ⟨h0, arr, clock, hk.trans h1, h2⟩
theorem KMap.lt {K : TypeId} {w : World} {b : Nat} {l : List (Value × Value)} (h : KMap K w b l) : b < w.heap.size := by
  obtain ⟨_, arr, clock, h1, h2⟩ := h
  rcases Nat.lt_or_ge b w.heap.size with h | h
  · exact h
  · simp [Array.getElem?_eq_none h] at h1
theorem KMap.below {K : TypeId} {w w' : World} {b : Nat} {l : List (Value × Value)} (h : KMap K w b l) (hb : Below w.heap.size w w') : KMap K w' b l := h.keep (hb.block b h.lt)
theorem KMap.find {K : TypeId} {w : World} {b : Nat} {l : List (Value × Value)} (h : KMap K w b l) (KK : Keyed Try.prog K) (x : Value) (lx : Lit) (hx : keyOf Try.prog K x = some lx) :
    ∃ arr clock, w.heap[b]? = some (.map arr clock) ∧ arr.toList.map (fun e => (e.key, e.val)) = l ∧
      (((Instr.findKey K x arr.toList).run Try.prog w = .ok none w ∧ ∀ p ∈ l, p.1 ≠ x) ∨ ∃ j v, (Instr.findKey K x arr.toList).run Try.prog w = .ok (some (j, v)) w ∧ l[j]? = some (x, v)) := by
  obtain ⟨h0, arr, clock, h1, h2⟩ := h
  refine ⟨arr, clock, h1, h2, ?_⟩
  rcases KK.find w hx arr.toList (fun e he => by
    obtain ⟨lit, hl⟩ := h0 (e.key, e.val) (by rw [← h2]; exact List.mem_map.2 ⟨e, he, rfl⟩)
    exact ⟨lit, hl⟩) with ⟨r1, r2⟩ | ⟨j, e, r1, r2, r3⟩
  · refine Or.inl ⟨r1, fun p hp => ?_⟩
    rw [← h2] at hp
    obtain ⟨e, he, rfl⟩ := List.mem_map.1 hp
    exact r2 e he
  · refine Or.inr ⟨j, e.val, r1, ?_⟩
    rw [← h2, List.getElem?_map, r2, ← r3]
    rfl
theorem KMap.look_none {K E t : TypeId} {w : World} {b : Nat} {l : List (Value × Value)} (h : KMap K w b l) (KK : Keyed Try.prog K) (ht : Try.prog.underlying t = some (.map K E)) {z : Value} (hz : (zeroValue E).run Try.prog w = .ok z w)
    {x : Value} {lx : Lit} (hx : keyOf Try.prog K x = some lx) (hn : ∀ p ∈ l, p.1 ≠ x) : (Instr.lookup t (.map (some b)) x false).run Try.prog w = .ok z w := by
  obtain ⟨arr, clock, h1, h2, h3⟩ := h.find KK x lx hx
  have g := run_getObj_map1 (P := Try.prog) h1
  have hc := fun em => KK.check w em hx
  rcases h3 with ⟨h3, _⟩ | ⟨j, v, h3, hj⟩
  · simp [Instr.lookup, run_underlying ht, g, hc, h3, hz]
  · exact absurd rfl (hn _ (List.mem_of_getElem? hj))
theorem KMap.look_some {K E t : TypeId} {w : World} {b : Nat} {l : List (Value × Value)} (h : KMap K w b l) (KK : Keyed Try.prog K) (ht : Try.prog.underlying t = some (.map K E))
    {x : Value} {lx : Lit} (hx : keyOf Try.prog K x = some lx) {u : Value} (hu : ∀ v, (x, v) ∈ l → v = u) (hn : ∃ v, (x, v) ∈ l) : (Instr.lookup t (.map (some b)) x false).run Try.prog w = .ok u w := by
  obtain ⟨arr, clock, h1, h2, h3⟩ := h.find KK x lx hx
  have g := run_getObj_map1 (P := Try.prog) h1
  have hc := fun em => KK.check w em hx
  rcases h3 with ⟨_, h3⟩ | ⟨j, v, h3, hj⟩
  · obtain ⟨v, hv⟩ := hn
    exact absurd rfl (h3 _ hv)
  · obtain rfl := hu v (List.mem_of_getElem? hj)
    simp [Instr.lookup, run_underlying ht, g, hc, h3]
theorem KMap.put_new {K E t : TypeId} {w : World} {b : Nat} {l : List (Value × Value)} (h : KMap K w b l) (KK : Keyed Try.prog K) (ht : Try.prog.underlying t = some (.map K E))
    {x : Value} {lx : Lit} (hx : keyOf Try.prog K x = some lx) (hn : ∀ p ∈ l, p.1 ≠ x) (v : Value) :
    ∃ w', (Instr.mapUpdate t (.map (some b)) x v).run Try.prog w = .ok () w' ∧ KMap K w' b (l ++ [(x, v)]) ∧ Only b w w' := by
  have hlt := h.lt
  have h0 := h.keys
  obtain ⟨arr, clock, h1, h2, h3⟩ := h.find KK x lx hx
  have hc := fun em => KK.check w em hx
  rcases h3 with ⟨h3, _⟩ | ⟨j, u, h3, hj⟩
  · refine ⟨{ w with heap := w.heap.setIfInBounds b (.map (arr.push { key := x, val := v, born := clock }) (clock + 1)) }, ?_, ?_, ?_⟩
    · simp [Instr.mapUpdate, run_underlying ht, hc, h3, run_getObj_map1 h1, run_setObj_map1 h1]
    · refine ⟨fun p hp => ?_, arr.push { key := x, val := v, born := clock }, clock + 1, by simp [hlt], by simp [h2]⟩
      rcases List.mem_append.1 hp with hp | hp
      · exact h0 p hp
      · simp only [List.mem_singleton] at hp; subst hp; exact ⟨lx, hx⟩
    · refine ⟨rfl, rfl, rfl, by simp, fun k hk => ?_⟩
      simp only [Array.getElem?_setIfInBounds]
      rw [if_neg (Ne.symm hk)]
  · exact absurd rfl (hn _ (List.mem_of_getElem? hj))

theorem drewN_drewN (w : World) (a b : Nat) : (w.drewN a).drewN b = w.drewN (a + b) := by
  simp
set_option maxRecDepth 100000 in
set_option maxHeartbeats 4000000 in
theorem gcd_any (w : World) (a b : Nat) (ha : a ≤ 9223372036854775807) (hb : b ≤ 9223372036854775807) :
    Calls Try.prog 50 #[.int .i64 a, .int .i64 b] w fun e w' => e = .returned (.int .i64 (Nat.gcd a b)) ∧ ∃ n, w' = w.drewN n := by
  obtain ⟨g, hg⟩ : ∃ g, Nat.gcd a b = g := ⟨_, rfl⟩
  have HG := Lib.hid hg
  rw [hg]
  clear hg
  go_enter Try.func50, Try.ntmps50
  go_wp2_with fail
  go_loopw [0, 1] (fun s t wr => ∃ x y n : Nat, s = .int .i64 x ∧ t = .int .i64 y ∧ x ≤ 9223372036854775807 ∧ y ≤ 9223372036854775807 ∧ Hid (Nat.gcd x y = g ∧ wr = w.drewN n)) (fun _ t _ => (intOf t).toNat)
  case atStart => exact ⟨a, b, 0, rfl, rfl, ha, hb, Lib.hid ⟨HG.out, rfl⟩⟩
  case round =>
    obtain ⟨x, y, n, rfl, rfl, hx, hy, hs⟩ := hrel
    rcases Nat.eq_zero_or_pos y with h0 | h0
    · subst h0
      go_wp2_with fail
      go_ret
      exact ⟨by rw [← hs.out.1, Nat.gcd_zero_right]; rfl, n, hs.out.2⟩
    · have hy0 : ¬ ((y : Int) = 0) := by omega
      have hym : ¬ ((y : Int) = -1) := by omega
      have hmod : (x : Int).tmod y = ((x % y : Nat) : Int) := by rw [Int.tmod_eq_emod_of_nonneg (by omega)]; omega
      have hlt : x % y < y := Nat.mod_lt _ h0
      go_wp2_with fail
      go_quiet (fail)
      go_wp2_with fail
      go_roundw
      case rel => exact ⟨y, x % y, _, rfl, rfl, hy, by omega, Lib.hid ⟨by rw [← hs.out.1, Nat.gcd_comm x y, Nat.gcd_rec y x, Nat.gcd_comm], by rw [hs.out.2]; exact drewN_drewN _ _ _⟩⟩
      case measure => simp [intOf]; omega
end Go.Proofs.Ytnmccbjdfdbgpaa
/- What is proved: a contract of valid. Conditions: the messages lie in memory. -/
namespace Go.Proofs.Ytnmccbjdfdbgpaa
open Go.RowKit Go.Maps Go.WideMaps

structure MsgD where
  name : ByteArray
  size : Int
  per : Int
  dead : Int
def msg0 : MsgD := ⟨⟨#[]⟩, 0, 0, 0⟩
def msgC (m : MsgD) : Nat → Value
  | 0 => .string m.name
  | 1 => .int .i64 m.size
  | 2 => .int .i64 m.per
  | _ => .int .i64 m.dead
def MsgsAt (w : World) (B : Nat) (A : Option Addr) (l : List MsgD) : Prop := Sl w B 4 A l.length fun i => msgC (l.getD i msg0)
def msgAt (l : List MsgD) (i : Nat) : MsgD := l.getD i msg0
def okM (m : MsgD) : Bool := inB m.name.size 1 32 && inB m.per 1 1000 && inB m.dead 1 m.per && inB m.size 1 m.dead
def newM (l : List MsgD) (k : Nat) : Bool := allN k fun j => decide ((msgAt l j).name ≠ (msgAt l k).name)
def validB (l : List MsgD) : Bool := (allN l.length fun i => okM (msgAt l i) && newM l i) && inB l.length 1 16
def namesK (l : List MsgD) (k : Nat) : List (Value × Value) := (List.range k).map fun j => (Value.string (msgAt l j).name, Value.bool true)
theorem stringKeyed : Keyed Try.prog 9 := string_keyed (by kernel_rfl)
theorem underlyingSB : Try.prog.underlying 120 = some (.map 9 4) := by kernel_rfl
theorem zeroSB (w : World) : (zeroValue 4).run Try.prog w = .ok (.bool false) w := by kernel_rfl
theorem namesK_succ (l : List MsgD) (k : Nat) : namesK l (k + 1) = namesK l k ++ [(.string (msgAt l k).name, .bool true)] := by
  unfold namesK; rw [List.range_succ, List.map_append]; rfl
theorem KMap.names {w : World} {b k : Nat} {l : List MsgD} (h : KMap 9 w b (namesK l k)) (hs : (msgAt l k).name.size ≤ maxLen) :
    (Instr.lookup 120 (.map (some b)) (.string (msgAt l k).name) false).run Try.prog w = .ok (.bool (!newM l k)) w := by
  have hk := keyOf_string_mk (P := Try.prog) (k := 9) (by kernel_rfl) hs
  cases hn : newM l k with
  | true =>
    refine h.look_none stringKeyed underlyingSB (zeroSB w) hk fun p hp => ?_
    obtain ⟨j, hj, rfl⟩ := List.mem_map.1 hp
    have := allN_iff.1 hn j (by simpa using hj)
    simp only [ne_eq, decide_not, Bool.not_eq_true', decide_eq_false_iff_not] at this
    intro e
    injection e with e
    exact this e
  | false =>
    have : ∃ j, j < k ∧ (msgAt l j).name = (msgAt l k).name := by
      by_cases hc : ∃ j, j < k ∧ (msgAt l j).name = (msgAt l k).name
      · exact hc
      · have : newM l k = true := allN_iff.2 fun j hj => by
          simp only [ne_eq, decide_not, Bool.not_eq_true', decide_eq_false_iff_not]
          exact fun e => hc ⟨j, hj, e⟩
        rw [hn] at this; cases this
    obtain ⟨j, hj, e⟩ := this
    refine h.look_some stringKeyed underlyingSB hk (u := .bool true) (fun v hv => ?_) ⟨.bool true, List.mem_map.2 ⟨j, by simpa using hj, by rw [e]⟩⟩
    obtain ⟨j, _, e⟩ := List.mem_map.1 hv
    simp only [Prod.mk.injEq] at e
    exact e.2.symm
theorem KMap.more {w : World} {b k : Nat} {l : List MsgD} (h : KMap 9 w b (namesK l k)) (hs : (msgAt l k).name.size ≤ maxLen) (hn : newM l k = true) :
    ∃ w', (Instr.mapUpdate 120 (.map (some b)) (.string (msgAt l k).name) (.bool true)).run Try.prog w = .ok () w' ∧ KMap 9 w' b (namesK l (k + 1)) ∧ Only b w w' := by
  have hk := keyOf_string_mk (P := Try.prog) (k := 9) (by kernel_rfl) hs
  rw [namesK_succ]
  refine h.put_new stringKeyed underlyingSB hk (fun p hp => ?_) _
  obtain ⟨j, hj, rfl⟩ := List.mem_map.1 hp
  have := allN_iff.1 hn j (by simpa using hj)
  simp only [ne_eq, decide_not, Bool.not_eq_true', decide_eq_false_iff_not] at this
  intro e
  injection e with e
  exact this e
theorem validB_bad {l : List MsgD} {k : Nat} (hk : k < l.length) (h : (okM (msgAt l k) && newM l k) = false) : validB l = false := by
  cases hv : validB l with
  | false => rfl
  | true =>
    unfold validB at hv
    rw [Bool.and_eq_true] at hv
    rw [allN_iff.1 hv.1 k hk] at h
    cases h

set_option maxRecDepth 100000 in
set_option maxHeartbeats 16000000 in
theorem valid_any (w : World) (A : Option Addr) (c : Nat) (l : List MsgD) (h : MsgsAt w w.heap.size A l) :
    Calls Try.prog 49 #[.slice A l.length c] w fun e w' => e = .returned (.bool (validB l)) ∧ Below w.heap.size w w' := by
  have HL := Lib.hid h
  have hll := h.1
  obtain ⟨n, hn⟩ : ∃ n, l.length = n := ⟨_, rfl⟩
  have HN := Lib.hid hn
  obtain ⟨R, hR⟩ : ∃ R, validB l = R := ⟨_, rfl⟩
  have HR := Lib.hid hR
  obtain ⟨W, hW⟩ : ∃ W, w.alloc (.map #[] 0) = W := ⟨_, rfl⟩
  have HW := Lib.hid hW
  have HM0 : Hid (KMap 9 W w.heap.size (namesK l 0)) := Lib.hid (by rw [← hW]; exact KMap.made _ _)
  have HB0 : Hid (Below w.heap.size w W) := Lib.hid (by rw [← hW]; exact (Below.refl _ _).alloc (Nat.le_refl _) _)
  obtain ⟨mb, hmb⟩ : ∃ mb, w.heap.size = mb := ⟨_, rfl⟩
  have HMB := Lib.hid hmb
  have HLT : Hid (mb < W.heap.size) := Lib.hid (by rw [← hmb]; exact HM0.out.lt)
  have HFIN : Hid (∀ (e : Ending) (w' : World), e = .returned (.bool R) → Below w.heap.size w w' → e = .returned (.bool R) ∧ Below w.heap.size w w') := Lib.hid fun _ _ a b => ⟨a, b⟩
  have hBW : Hid (∀ w', Below w.heap.size w w' → Below mb w w') := Lib.hid fun _ h => by rw [← hmb]; exact h
  rw [hn] at hll ⊢
  rw [hR]
  rw [hmb] at HM0
  clear h hn hR
  have hmm := @run_makeMap Try.prog
  go_enter Try.func49, Try.ntmps49
  go_wp2_with fail
  go_loopw [9] (fun i wr => ∃ k : Nat, k ≤ n ∧ i = .int .i64 k ∧ Hid (Below w.heap.size w wr ∧ KMap 9 wr mb (namesK l k) ∧ (∀ j, j < k → (okM (msgAt l j) && newM l j) = true))) (fun i _ => n - (intOf i).toNat)
  case atStart => exact ⟨0, Nat.zero_le _, rfl, Lib.hid ⟨HB0.out, HM0.out, fun j hj => absurd hj (Nat.not_lt_zero j)⟩⟩
  case round =>
    obtain ⟨k, hk, rfl, hs⟩ := hrel
    clear hW hmb hmm
    by_cases hlt : k < n
    · have hki : (k : Int) < (n : Int) := by omega
      have h0k : (0 : Int) ≤ (k : Int) := by omega
      have hlt' : k < l.length := by rw [HN.out]; exact hlt
      obtain ⟨b, off, rfl, _, d0, d1, d2, d3⟩ := Sl.at4 (Sl.below HL.out hs.out.1) hlt'
      obtain ⟨⟨nm, sz, per, dd⟩, hr⟩ : ∃ r, l.getD k msg0 = r := ⟨_, rfl⟩
      have hmk : msgAt l k = ⟨nm, sz, per, dd⟩ := hr
      rw [hr] at d0 d1 d2 d3
      simp only [msgC] at d0 d1 d2 d3
      obtain ⟨b1, hb1⟩ : ∃ b, inB nm.size 1 32 = b := ⟨_, rfl⟩
      obtain ⟨b2, hb2⟩ : ∃ b, inB per 1 1000 = b := ⟨_, rfl⟩
      obtain ⟨b3, hb3⟩ : ∃ b, inB dd 1 per = b := ⟨_, rfl⟩
      obtain ⟨b4, hb4⟩ : ∃ b, inB sz 1 dd = b := ⟨_, rfl⟩
      obtain ⟨sn, hsn⟩ : ∃ b, newM l k = b := ⟨_, rfl⟩
      have HOK : Hid ((okM (msgAt l k) && newM l k) = (b1 && b2 && b3 && b4 && sn)) := Lib.hid (by rw [hmk, hsn]; unfold okM; simp only; rw [hb1, hb2, hb3, hb4])
      have HI1 : Hid (∀ w', Calls Try.prog 41 #[.int .i64 nm.size, .int .i64 1, .int .i64 32] w' fun e w'' => e = .returned (.bool b1) ∧ w' = w'') := Lib.hid fun w' => by rw [← hb1]; exact within_any _ _ _ w'
      have HI2 : Hid (∀ w', Calls Try.prog 41 #[.int .i64 per, .int .i64 1, .int .i64 1000] w' fun e w'' => e = .returned (.bool b2) ∧ w' = w'') := Lib.hid fun w' => by rw [← hb2]; exact within_any _ _ _ w'
      have HI3 : Hid (∀ w', Calls Try.prog 41 #[.int .i64 dd, .int .i64 1, .int .i64 per] w' fun e w'' => e = .returned (.bool b3) ∧ w' = w'') := Lib.hid fun w' => by rw [← hb3]; exact within_any _ _ _ w'
      have HI4 : Hid (∀ w', Calls Try.prog 41 #[.int .i64 sz, .int .i64 1, .int .i64 dd] w' fun e w'' => e = .returned (.bool b4) ∧ w' = w'') := Lib.hid fun w' => by rw [← hb4]; exact within_any _ _ _ w'
      have HBA : Hid (∀ o, Below wr.heap.size wr (wr.alloc o)) := Lib.hid fun o => (Below.refl _ _).alloc (Nat.le_refl _) _
      have HBE : Hid (∀ o, Below w.heap.size w (wr.alloc o)) := Lib.hid fun o => hs.out.1.trans ((HBA.out o).mono hs.out.1.size)
      have HS := Lib.hid hsn
      have HNM : Hid ((msgAt l k).name = nm) := Lib.hid (by rw [hmk])
      have HB1 := Lib.hid hb1
      clear hr hmk hb1 hb2 hb3 hb4 hsn
      cases b1 with
      | false =>
        go_wp2_with fail
        refine (HI1.out _).mono ?_
        rintro e w' ⟨rfl, rfl⟩
        go_wp2_with fail
        go_ret
        exact HFIN.out _ _ (by rw [← HR.out, validB_bad (by rw [HN.out]; exact hlt) (HOK.out.trans (by simp))]; rfl) (HBE.out _)
      | true =>
        have hsz : nm.size ≤ maxLen := by have := (inB_iff.1 HB1.out).2; unfold maxLen; omega
        have hlk : ∀ o, (Instr.lookup 120 (.map (some mb)) (.string nm) false).run Try.prog (wr.alloc o) = .ok (.bool (!sn)) (wr.alloc o) := fun o => by
          have h := (hs.out.2.1.below (HBA.out o)).names (k := k) (by rw [HNM.out]; exact hsz)
          rw [HNM.out, HS.out] at h; exact h
        cases sn with
        | false =>
          go_wp2_with fail
          refine (HI1.out _).mono ?_
          rintro e w' ⟨rfl, rfl⟩
          go_wp2_with fail
          go_ret
          exact HFIN.out _ _ (by rw [← HR.out, validB_bad (by rw [HN.out]; exact hlt) (HOK.out.trans (by simp))]; rfl) (HBE.out _)
        | true =>
          cases b2 with
          | false =>
            go_wp2_with fail
            refine (HI1.out _).mono ?_
            rintro e w' ⟨rfl, rfl⟩
            go_wp2_with fail
            refine (HI2.out _).mono ?_
            rintro e w' ⟨rfl, rfl⟩
            go_wp2_with fail
            go_ret
            exact HFIN.out _ _ (by rw [← HR.out, validB_bad (by rw [HN.out]; exact hlt) (HOK.out.trans (by simp))]; rfl) (HBE.out _)
          | true =>
            cases b3 with
            | false =>
              go_wp2_with fail
              refine (HI1.out _).mono ?_
              rintro e w' ⟨rfl, rfl⟩
              go_wp2_with fail
              refine (HI2.out _).mono ?_
              rintro e w' ⟨rfl, rfl⟩
              go_wp2_with fail
              refine (HI3.out _).mono ?_
              rintro e w' ⟨rfl, rfl⟩
              go_wp2_with fail
              go_ret
              exact HFIN.out _ _ (by rw [← HR.out, validB_bad (by rw [HN.out]; exact hlt) (HOK.out.trans (by simp))]; rfl) (HBE.out _)
            | true =>
              cases b4 with
              | false =>
                go_wp2_with fail
                refine (HI1.out _).mono ?_
                rintro e w' ⟨rfl, rfl⟩
                go_wp2_with fail
                refine (HI2.out _).mono ?_
                rintro e w' ⟨rfl, rfl⟩
                go_wp2_with fail
                refine (HI3.out _).mono ?_
                rintro e w' ⟨rfl, rfl⟩
                go_wp2_with fail
                refine (HI4.out _).mono ?_
                rintro e w' ⟨rfl, rfl⟩
                go_wp2_with fail
                go_ret
                exact HFIN.out _ _ (by rw [← HR.out, validB_bad (by rw [HN.out]; exact hlt) (HOK.out.trans (by simp))]; rfl) (HBE.out _)
              | true =>
                obtain ⟨w3, hup, hk3, ho3⟩ := (hs.out.2.1.below (HBA.out (.cells #[.string nm, .int .i64 sz, .int .i64 per, .int .i64 dd] 80))).more (k := k) (by rw [HNM.out]; exact hsz) HS.out
                rw [HNM.out] at hup
                have HK3 := Lib.hid hk3
                have HO3 : Hid (Below w.heap.size w w3) := Lib.hid ((HBE.out _).trans ⟨ho3.os, ho3.tape, ho3.output, by rw [ho3.size]; exact Nat.le_refl _, fun j hj => ho3.block j (by rw [← HMB.out]; omega)⟩)
                clear hk3 ho3
                go_wp2_with fail
                refine (HI1.out _).mono ?_
                rintro e w' ⟨rfl, rfl⟩
                go_wp2_with fail
                refine (HI2.out _).mono ?_
                rintro e w' ⟨rfl, rfl⟩
                go_wp2_with fail
                refine (HI3.out _).mono ?_
                rintro e w' ⟨rfl, rfl⟩
                go_wp2_with fail
                refine (HI4.out _).mono ?_
                rintro e w' ⟨rfl, rfl⟩
                go_wp2_with fail
                go_roundw
                case rel => exact ⟨k + 1, by omega, by go_num, Lib.hid ⟨HO3.out, HK3.out, fun j hj => by
                  by_cases e : j = k
                  · subst e; exact HOK.out
                  · exact hs.out.2.2 j (by omega)⟩⟩
                case measure => simp [intOf]; omega
    · obtain rfl : k = n := by omega
      have HI5 : Hid (∀ w', Calls Try.prog 41 #[.int .i64 k, .int .i64 1, .int .i64 16] w' fun e w'' => e = .returned (.bool R) ∧ w' = w'') := Lib.hid fun w' => by
        have e : R = inB k 1 16 := by
          rw [← HR.out]; unfold validB
          rw [HN.out, allN_iff.2 hs.out.2.2, Bool.true_and]
        rw [e]; exact within_any _ _ _ w'
      go_wp2_with fail
      refine (HI5.out _).mono ?_
      rintro e w' ⟨rfl, rfl⟩
      go_wp2_with fail
      go_ret
      exact HFIN.out _ _ rfl hs.out.1
end Go.Proofs.Ytnmccbjdfdbgpaa
/- What is proved: a contract of Cycle. Conditions: the messages lie in memory. -/
namespace Go.Proofs.Ytnmccbjdfdbgpaa
open Go.RowKit

def perN (l : List MsgD) (i : Nat) : Nat := (msgAt l i).per.toNat
def cntJ (per : Nat → Nat) (c : Nat) : Nat → Nat
  | 0 => 0
  | k + 1 => cntJ per c k + c / per k
theorem cntJ_le (per : Nat → Nat) (c : Nat) : ∀ k, cntJ per c k ≤ c * k
  | 0 => Nat.le_refl _
  | k + 1 => by
    have h1 := cntJ_le per c k
    have h2 := Nat.div_le_self c (per k)
    have h3 : c * (k + 1) = c * k + c := Nat.mul_succ c k
    unfold cntJ; omega
def cycleN (l : List MsgD) : Nat := lcmK (perN l) l.length
def cycleB (l : List MsgD) : Int × Int :=
  if validB l = false then (0, 2)
  else if 1000 < cycleN l then (0, 3)
  else if 256 < cntJ (perN l) (cycleN l) l.length then (0, 3)
  else (cycleN l, 0)
theorem validB_msg {l : List MsgD} (h : validB l = true) {k : Nat} (hk : k < l.length) : 1 ≤ (msgAt l k).per ∧ (msgAt l k).per ≤ 1000 ∧ 1 ≤ (msgAt l k).dead ∧ (msgAt l k).dead ≤ (msgAt l k).per ∧ 1 ≤ (msgAt l k).size ∧ (msgAt l k).size ≤ (msgAt l k).dead := by
  unfold validB at h
  rw [Bool.and_eq_true] at h
  have h1 := allN_iff.1 h.1 k hk
  unfold okM at h1
  simp only [Bool.and_eq_true, inB_iff] at h1
  omega
theorem validB_len {l : List MsgD} (h : validB l = true) : 1 ≤ l.length ∧ l.length ≤ 16 := by
  unfold validB at h
  rw [Bool.and_eq_true] at h
  have := inB_iff.1 h.2
  omega

set_option maxRecDepth 100000 in
set_option maxHeartbeats 16000000 in
theorem cycle_any (w : World) (A : Option Addr) (c : Nat) (l : List MsgD) (h : MsgsAt w w.heap.size A l) :
    Calls Try.prog 19 #[.slice A l.length c] w fun e w' => e = .returned (.tuple #[.int .i64 (cycleB l).1, .int .i64 (cycleB l).2]) ∧ Below w.heap.size w w' := by
  have HL := Lib.hid h
  have hll := h.1
  have HV := Lib.hid (valid_any w A c l h)
  obtain ⟨n, hn⟩ : ∃ n, l.length = n := ⟨_, rfl⟩
  have HN := Lib.hid hn
  have HFIN : Hid (∀ (e : Ending) (w' : World), e = .returned (.tuple #[.int .i64 (cycleB l).1, .int .i64 (cycleB l).2]) → Below w.heap.size w w' → e = .returned (.tuple #[.int .i64 (cycleB l).1, .int .i64 (cycleB l).2]) ∧ Below w.heap.size w w') := Lib.hid fun _ _ a b => ⟨a, b⟩
  obtain ⟨vb, hvb⟩ : ∃ b, validB l = b := ⟨_, rfl⟩
  have HVB := Lib.hid hvb
  rw [hn, hvb] at HV
  rw [hn] at hll ⊢
  have HCB : Hid (cycleB l = if validB l = false then (0, 2) else if 1000 < cycleN l then (0, 3) else if 256 < cntJ (perN l) (cycleN l) l.length then (0, 3) else ((cycleN l : Int), 0)) := Lib.hid rfl
  obtain ⟨R, hR⟩ : ∃ R, cycleB l = R := ⟨_, rfl⟩
  rw [hR] at HFIN HCB ⊢
  clear h hn hR
  cases vb with
  | false =>
    have HR : Hid (R = (0, 2)) := Lib.hid (by rw [HCB.out, if_pos hvb])
    clear hvb
    go_enter Try.func19, Try.ntmps19
    go_wp2_with fail
    refine HV.out.mono ?_
    rintro e w1 ⟨rfl, hb1⟩
    have HB1 := Lib.hid hb1
    clear hb1
    go_wp2_with fail
    go_ret2
    exact HFIN.out _ _ (by rw [HR.out]; rfl) HB1.out
  | true =>
    rw [if_neg (by rw [hvb]; decide), HN.out] at HCB
    have hn16 := validB_len hvb
    rw [HN.out] at hn16
    have HMS : Hid (∀ k, k < n → ∃ P : Nat, (msgAt l k).per = P ∧ perN l k = P ∧ 1 ≤ P ∧ P ≤ 1000) := Lib.hid fun k hk => by
      have := validB_msg hvb (by rw [HN.out]; exact hk)
      exact ⟨(msgAt l k).per.toNat, by omega, rfl, by omega, by omega⟩
    have HPOS : Hid (∀ i, i < n → 0 < perN l i) := Lib.hid fun i hi => by obtain ⟨P, _, h2, h3, _⟩ := HMS.out i hi; omega
    have HCN : Hid (cycleN l = lcmK (perN l) n) := Lib.hid (by unfold cycleN; rw [HN.out])
    clear hvb
    go_enter Try.func19, Try.ntmps19
    go_wp2_with fail
    refine HV.out.mono ?_
    rintro e w1 ⟨rfl, hb1⟩
    have HB1 := Lib.hid hb1
    clear hb1
    go_wp2_with fail
    go_loopw [4, 15] (fun s i wr => ∃ k : Nat, k ≤ n ∧ s = .int .i64 (lcmK (perN l) k) ∧ i = .int .i64 k ∧ lcmK (perN l) k ≤ 1000 ∧ Hid (Below w.heap.size w wr)) (fun _ i _ => n - (intOf i).toNat)
    case atStart => exact ⟨0, Nat.zero_le _, rfl, rfl, (by decide : 1 ≤ 1000), HB1⟩
    case round =>
      obtain ⟨k, hk, rfl, rfl, hc1, hs⟩ := hrel
      have hcp := lcmK_pos (per := perN l) (n := k) fun i hi => HPOS.out i (by omega)
      obtain ⟨C, hC⟩ : ∃ C, lcmK (perN l) k = C := ⟨_, rfl⟩
      have HC := Lib.hid hC
      rw [hC] at hc1 hcp ⊢
      clear hC
      by_cases hlt : k < n
      · have hki : (k : Int) < (n : Int) := by omega
        have h0k : (0 : Int) ≤ (k : Int) := by omega
        have hlt' : k < l.length := by rw [HN.out]; exact hlt
        obtain ⟨b, off, rfl, _, d0, d1, d2, d3⟩ := Sl.at4 (Sl.below HL.out hs.out) hlt'
        obtain ⟨P, hP1, hP2, hP3, hP4⟩ := HMS.out k hlt
        obtain ⟨⟨nm, sz, per, dd⟩, hr⟩ : ∃ r, l.getD k msg0 = r := ⟨_, rfl⟩
        have hmk : msgAt l k = ⟨nm, sz, per, dd⟩ := hr
        rw [hr] at d0 d1 d2 d3
        rw [hmk] at hP1
        simp only [msgC] at d0 d1 d2 d3 hP1
        subst hP1
        obtain ⟨g, hg⟩ : ∃ g, Nat.gcd C P = g := ⟨_, rfl⟩
        have hg0 : 0 < g := by rw [← hg]; exact Nat.gcd_pos_of_pos_left _ hcp
        have HG : Hid (∀ w', Calls Try.prog 50 #[.int .i64 C, .int .i64 P] w' fun e w'' => e = .returned (.int .i64 g) ∧ Below w'.heap.size w' w'') := Lib.hid fun w' => by
          rw [← hg]
          refine (gcd_any w' C P (by omega) (by omega)).mono ?_
          rintro e w'' ⟨rfl, q, rfl⟩
          exact ⟨rfl, below_drewN (Below.refl _ _) _⟩
        obtain ⟨Q, hQ⟩ : ∃ Q, P / g = Q := ⟨_, rfl⟩
        obtain ⟨L, hL⟩ : ∃ L, C * Q = L := ⟨_, rfl⟩
        have HLN : Hid (lcmK (perN l) (k + 1) = L) := Lib.hid (by
          show Nat.lcm (lcmK (perN l) k) (perN l k) = L
          rw [HC.out, hP2, ← lcm_step, hg, hQ, hL])
        have hQ1 : Q ≤ 1000 := by rw [← hQ]; exact Nat.le_trans (Nat.div_le_self _ _) hP4
        have hL1 : L ≤ 1000000 := by rw [← hL]; exact Nat.mul_le_mul hc1 hQ1
        have hLI : (C : Int) * (Q : Int) = (L : Int) := by rw [← hL]; exact (Int.natCast_mul _ _).symm
        have hgi : ¬ ((g : Int) = 0) := by omega
        have hgm : ¬ ((g : Int) = -1) := by omega
        have hdv : (P : Int).tdiv (g : Int) = (Q : Int) := by rw [← hQ, Int.tdiv_eq_ediv_of_nonneg (by omega)]; rfl
        obtain ⟨w3, hw3⟩ : ∃ w3, wr.alloc (.cells #[.string nm, .int .i64 sz, .int .i64 P, .int .i64 dd] 80) = w3 := ⟨_, rfl⟩
        have HB3 : Hid (Below w.heap.size w w3) := Lib.hid (by rw [← hw3]; exact hs.out.trans (((Below.refl _ _).alloc (Nat.le_refl _) _).mono hs.out.size))
        have HK3 : Hid (Bk w3 wr.heap.size 80 #[.string nm, .int .i64 sz, .int .i64 P, .int .i64 dd]) := Lib.hid (by rw [← hw3]; exact Bk.new _ _ _)
        have HC3 : Hid (∀ w1, Below w3.heap.size w3 w1 → w1.cell? ⟨wr.heap.size, 2, none⟩ = some (.int .i64 P)) := Lib.hid fun w1 h1 => (HK3.out.below h1 HK3.out.lt).cell 2
        clear hr hmk hg hQ hL
        go_upto_region 7 with (fail)
        clear hw3 d0 d1 d2 d3
        go_wp2_with fail
        refine wp_region_steps (by kernel_rfl) (by kernel_rfl) (fun w1 => Below w3.heap.size w3 w1) (fun _ _ _ => True)
          (fun ix u _ _ => match ix with
            | 0 => u = .int .i64 C
            | 1 => u = .pointer (some ⟨wr.heap.size, 2, none⟩)
            | 2 => u = .int .i64 P
            | 3 => u = .int .i64 C
            | 4 => u = .pointer (some ⟨wr.heap.size, 2, none⟩)
            | 5 => u = .int .i64 P
            | 6 => u = .int .i64 g
            | 7 => u = .int .i64 Q
            | 8 => u = .int .i64 L
            | _ => u = .int .i64 L) (Below.refl _ _).drew (fun _ _ _ _ _ _ _ _ h _ _ => h) ?_ ?_
        · refine ⟨?_, ?_, ?_, ?_, ?_, ?_, ?_, ?_, ?_, ?_, trivial⟩
          · intro a w1 vs K HJ HK HD HN kk
            have e4 := HK 4 (by decide)
            go_simp; exact kk _ _ (by simp) HJ trivial rfl
          · intro a w1 vs K HJ HK HD HN kk
            have e7 := HK 7 (by decide)
            go_simp; exact kk _ _ (by simp) HJ trivial rfl
          · intro a w1 vs K HJ HK HD HN kk
            have e20 := (HD 1 _ 20 rfl rfl rfl).1.trans (HD 1 _ 20 rfl rfl rfl).2
            have ca := HC3.out w1 HJ
            go_simp; exact kk _ _ (by simp) HJ trivial rfl
          · intro a w1 vs K HJ HK HD HN kk
            have e4 := HK 4 (by decide)
            go_simp; exact kk _ _ (by simp) HJ trivial rfl
          · intro a w1 vs K HJ HK HD HN kk
            have e7 := HK 7 (by decide)
            go_simp; exact kk _ _ (by simp) HJ trivial rfl
          · intro a w1 vs K HJ HK HD HN kk
            have e23 := (HD 4 _ 23 rfl rfl rfl).1.trans (HD 4 _ 23 rfl rfl rfl).2
            have ca := HC3.out w1 HJ
            go_simp; exact kk _ _ (by simp) HJ trivial rfl
          · intro a w1 vs K HJ HK HD HN kk
            have e22 := (HD 3 _ 22 rfl rfl rfl).1.trans (HD 3 _ 22 rfl rfl rfl).2
            have e24 := (HD 5 _ 24 rfl rfl rfl).1.trans (HD 5 _ 24 rfl rfl rfl).2
            exact wpo_call 50 _ _ rfl #[.int .i64 C, .int .i64 P] (by simp [Act.eval, e22, e24]) (fun args w => by kernel_rfl)
              ((HG.out w1).mono fun e w' ⟨he, hb⟩ => ⟨_, he, kk _ _ (by simp) (Below.trans HJ (hb.mono HJ.size)) trivial rfl⟩)
          · intro a w1 vs K HJ HK HD HN kk
            have e21 := (HD 2 _ 21 rfl rfl rfl).1.trans (HD 2 _ 21 rfl rfl rfl).2
            have e25 := (HD 6 _ 25 rfl rfl rfl).1.trans (HD 6 _ 25 rfl rfl rfl).2
            have hgn : ¬ g = 0 := by omega
            have hws : IntKind.i64.wrap (Q : Int) = Q := IntWalk.i64_in _ (by omega)
            go_simp; exact kk _ _ (by simp) HJ trivial (by first | rfl | (show Value.int _ _ = Value.int _ _; rw [hws]))
          · intro a w1 vs K HJ HK HD HN kk
            have e19 := (HD 0 _ 19 rfl rfl rfl).1.trans (HD 0 _ 19 rfl rfl rfl).2
            have e26 := (HD 7 _ 26 rfl rfl rfl).1.trans (HD 7 _ 26 rfl rfl rfl).2
            have hws : IntKind.i64.wrap (L : Int) = L := IntWalk.i64_in _ (by omega)
            go_simp; exact kk _ _ (by simp) HJ trivial (by first | rfl | (show Value.int _ _ = Value.int _ _; rw [hws]))
          · intro a w1 vs K HJ HK HD HN kk
            have e27 := (HD 8 _ 27 rfl rfl rfl).1.trans (HD 8 _ 27 rfl rfl rfl).2
            go_simp; exact kk _ _ (by simp) HJ trivial rfl
        · intro vs w4 hw4 hrr
          have e9 : vs 9 = .int .i64 L := hrr 9 _ rfl
          have HB4 : Hid (Below w.heap.size w w4) := Lib.hid (HB3.out.trans (hw4.mono HB3.out.size))
          clear hrr hw4
          simp only [putAll, Act.put, List.setIfInBounds_toArray, List.set_cons_zero, List.set_cons_succ]
          rw [e9]
          clear e9
          by_cases hl : 1000 < L
          · have hli : (1000 : Int) < (L : Int) := by omega
            have HR : Hid (R = (0, 3)) := Lib.hid (by
              rw [HCB.out, if_pos]
              rw [HCN.out]
              have := lcmK_mono (per := perN l) (n := n) HPOS.out (k := k + 1) hlt
              rw [HLN.out] at this
              omega)
            go_wp2_with fail
            go_ret2
            exact HFIN.out _ _ (by rw [HR.out]; rfl) HB4.out
          · have hli : ¬ (1000 : Int) < (L : Int) := by omega
            go_wp2_with fail
            go_roundw
            case rel => exact ⟨k + 1, by omega, by rw [HLN.out], by go_num, by rw [HLN.out]; omega, HB4⟩
            case measure => simp [intOf]; omega
      · obtain rfl : k = n := by omega
        have hC' := HC.out
        rw [HCN.out, hC', if_neg (by omega)] at HCB
        clear hC'
        go_wp2_with fail
        go_loopw [5, 33] (fun s i wr => ∃ q : Nat, q ≤ k ∧ s = .int .i64 (cntJ (perN l) C q) ∧ i = .int .i64 q ∧ Hid (Below w.heap.size w wr)) (fun _ i _ => k - (intOf i).toNat)
        case atStart => exact ⟨0, Nat.zero_le _, rfl, rfl, hs⟩
        case round =>
          clear hs
          obtain ⟨q, hq, rfl, rfl, hs⟩ := hrel
          have hj1 : cntJ (perN l) C q ≤ 16000 := Nat.le_trans (cntJ_le _ _ _) (Nat.le_trans (Nat.mul_le_mul hc1 (by omega : q ≤ 16)) (by decide))
          by_cases hlt : q < k
          · have hki : (q : Int) < (k : Int) := by omega
            have h0k : (0 : Int) ≤ (q : Int) := by omega
            have hlt' : q < l.length := by rw [HN.out]; exact hlt
            obtain ⟨b, off, rfl, _, d0, d1, d2, d3⟩ := Sl.at4 (Sl.below HL.out hs.out) hlt'
            obtain ⟨P, hP1, hP2, hP3, hP4⟩ := HMS.out q hlt
            have hjs : cntJ (perN l) C (q + 1) = cntJ (perN l) C q + C / P := by rw [← hP2]; rfl
            have HJS := Lib.hid hjs
            obtain ⟨Jq, hJq⟩ : ∃ J, cntJ (perN l) C q = J := ⟨_, rfl⟩
            rw [hJq] at hj1 HJS ⊢
            obtain ⟨⟨nm, sz, per, dd⟩, hr⟩ : ∃ r, l.getD q msg0 = r := ⟨_, rfl⟩
            have hmk : msgAt l q = ⟨nm, sz, per, dd⟩ := hr
            rw [hr] at d0 d1 d2 d3
            rw [hmk] at hP1
            simp only [msgC] at d0 d1 d2 d3 hP1
            subst hP1
            obtain ⟨Q, hQ⟩ : ∃ Q, C / P = Q := ⟨_, rfl⟩
            rw [hQ] at HJS
            have hQ1 : Q ≤ 1000 := by rw [← hQ]; exact Nat.le_trans (Nat.div_le_self _ _) hc1
            have hgi : ¬ ((P : Int) = 0) := by omega
            have hgm : ¬ ((P : Int) = -1) := by omega
            have hdv : (C : Int).tdiv (P : Int) = (Q : Int) := by rw [← hQ, Int.tdiv_eq_ediv_of_nonneg (by omega)]; rfl
            have HBE : Hid (∀ o, Below w.heap.size w (wr.alloc o)) := Lib.hid fun o => hs.out.trans (((Below.refl _ _).alloc (Nat.le_refl _) o).mono hs.out.size)
            clear hr hmk hQ hjs hJq
            go_wp2_with fail
            go_roundw
            case rel => exact ⟨q + 1, by omega, by rw [HJS.out]; go_num, by go_num, Lib.hid (HBE.out _)⟩
            case measure => simp [intOf]; omega
          · obtain rfl : k = q := by omega
            obtain ⟨J, hJ⟩ : ∃ J, cntJ (perN l) C k = J := ⟨_, rfl⟩
            rw [hJ] at HCB hj1 ⊢
            clear hJ
            by_cases hl : 256 < J
            · have hli : (256 : Int) < (J : Int) := by omega
              have HR : Hid (R = (0, 3)) := Lib.hid (by rw [HCB.out, if_pos hl])
              go_wp2_with fail
              go_ret2
              exact HFIN.out _ _ (by rw [HR.out]; rfl) hs.out
            · have hli : ¬ (256 : Int) < (J : Int) := by omega
              have HR : Hid (R = ((C : Int), 0)) := Lib.hid (by rw [HCB.out, if_neg hl])
              go_wp2_with fail
              go_ret2
              exact HFIN.out _ _ (by rw [HR.out]; rfl) hs.out
end Go.Proofs.Ytnmccbjdfdbgpaa
/- What is proved: a contract of jobs. Conditions: the messages lie in memory, are valid, and the cycle is one of theirs. -/
namespace Go.Proofs.Ytnmccbjdfdbgpaa
open Go.RowKit

theorem rowsL_succ (n k : Nat) (hk : 0 < k) (F : Nat → Nat → Value) : rowsL (n + 1) k F = rowsL n k F ++ (List.range k).map (F n) := by
  unfold rowsL
  rw [Nat.add_mul, Nat.one_mul, List.range_add, List.map_append, List.map_map]
  congr 1
  apply List.map_congr_left
  intro j hj
  have hj' := List.mem_range.1 hj
  simp only [Function.comp_apply]
  rw [Nat.mul_comm n k, Nat.mul_add_div hk, Nat.div_eq_of_lt hj', Nat.mul_add_mod, Nat.mod_eq_of_lt hj', Nat.add_zero]
theorem rowsL_congr (n k : Nat) (hk : 0 < k) {F G : Nat → Nat → Value} (h : ∀ i, i < n → ∀ j, j < k → F i j = G i j) : rowsL n k F = rowsL n k G := by
  unfold rowsL
  apply List.map_congr_left
  intro m hm
  have hm' := List.mem_range.1 hm
  exact h _ ((Nat.div_lt_iff_lt_mul hk).2 hm') _ (Nat.mod_lt _ hk)
/-- Only blocks of one type have turned. -/
def KT (t : TypeId) (w w' : World) : Prop := w.heap.size ≤ w'.heap.size ∧ ∀ b t' cs, t' ≠ t → Bk w b t' cs → Bk w' b t' cs
theorem KT.below {t : TypeId} {w w' : World} (h : Below w.heap.size w w') : KT t w w' := ⟨h.size, fun _ _ _ _ hb => hb.below h hb.lt⟩
theorem KT.grown {t : TypeId} {w w' : World} {B k n : Nat} {v : Value} {xs : List Value} (h : w.ownsRow B t k v n xs) (hg : w.grownBy w' v.ownBlock) : KT t w w' := by
  refine ⟨hg.size, fun b t' cs ht hb => ?_⟩
  have hne : some b ≠ v.ownBlock := by
    rcases h.2 with ⟨rfl, _⟩ | ⟨g, cap, cur, rfl, _, h3, _⟩
    · simp [Value.ownBlock]
    · intro e
      have e2 : b = g := by simpa [Value.ownBlock] using e
      subst e2
      have h4 := hb.symm.trans h3
      simp only [Option.some.injEq, Obj.cells.injEq] at h4
      exact ht h4.2.1
  exact (hg.block b hb.lt hne).trans hb

def msgN (l : List MsgD) : MsgN := ⟨l.length, perN l, fun i => (msgAt l i).dead.toNat, fun i => (msgAt l i).size.toNat⟩
def jobC (j : JobD) : Nat → Value
  | 0 => .int .i64 j.msg
  | 1 => .int .i64 j.src
  | 2 => .int .i64 j.fin
  | _ => .int .i64 j.left
def rowsJ (L : List JobD) : List Value := rowsL L.length 4 fun i => jobC (L.getD i job0)
theorem rowsJ_snoc (L : List JobD) (j : JobD) : rowsJ (L ++ [j]) = rowsJ L ++ [.int .i64 j.msg, .int .i64 j.src, .int .i64 j.fin, .int .i64 j.left] := by
  unfold rowsJ
  rw [List.length_append, List.length_singleton, rowsL_succ _ _ (by omega)]
  congr 1
  · refine rowsL_congr _ _ (by omega) fun i hi j' _ => ?_
    rw [List.getD_eq_getElem?_getD, List.getElem?_append_left hi, ← List.getD_eq_getElem?_getD]
  · have : (L ++ [j]).getD L.length job0 = j := by simp [List.getD_eq_getElem?_getD]
    rw [this]; rfl
def jobsQ (m : MsgN) (C k q : Nat) : List JobD := jobsTo m C k ++ (List.range q).map (jobM m k)
theorem jobsQ_zero (m : MsgN) (C k : Nat) : jobsQ m C k 0 = jobsTo m C k := by simp [jobsQ]
theorem jobsQ_succ (m : MsgN) (C k q : Nat) : jobsQ m C k (q + 1) = jobsQ m C k q ++ [jobM m k q] := by
  unfold jobsQ; rw [List.range_succ, List.map_append, List.append_assoc]; rfl
theorem jobsTo_le (m : MsgN) (C : Nat) : ∀ k, (jobsTo m C k).length ≤ C * k
  | 0 => Nat.le_refl _
  | k + 1 => by
    have h1 := jobsTo_le m C k
    have h2 := Nat.div_le_self C (m.per k)
    have h3 : C * (k + 1) = C * k + C := Nat.mul_succ C k
    rw [jobsTo_len]; omega
theorem jobsTo_cnt (m : MsgN) (C : Nat) : ∀ k, (jobsTo m C k).length = cntJ m.per C k
  | 0 => rfl
  | k + 1 => by rw [jobsTo_len, jobsTo_cnt m C k]; rfl
theorem jobsQ_len (m : MsgN) (C k q : Nat) : (jobsQ m C k q).length = (jobsTo m C k).length + q := by simp [jobsQ]
theorem infoJ : (Try.prog.info? 126).map (fun i => (i.zero, i.size, i.bytes)) = some (some (.agg #[.int .i64 0, .int .i64 0, .int .i64 0, .int .i64 0]), 4, 32) := by kernel_rfl
def JobsPost (w : World) (L : List JobD) (e : Ending) (w' : World) : Prop :=
  ∃ A c, e = .returned (.slice A L.length c) ∧ Cl w' w.heap.size 126 4 A L.length (fun i => jobC (L.getD i job0)) ∧ Below w.heap.size w w'

set_option maxRecDepth 100000 in
set_option maxHeartbeats 16000000 in
theorem jobs_any (w : World) (A : Option Addr) (c : Nat) (l : List MsgD) (C : Nat) (h : MsgsAt w w.heap.size A l) (hv : validB l = true) (hC : C ≤ 1000) (hd : ∀ i, i < l.length → perN l i ∣ C) (hL : (jobsB (msgN l) C).length ≤ 4096) :
    Calls Try.prog 53 #[.slice A l.length c, .int .i64 C] w (JobsPost w (jobsB (msgN l) C)) := by
  have HL := Lib.hid h
  have hll := h.1
  have hn16 := validB_len hv
  obtain ⟨n, hn⟩ : ∃ n, l.length = n := ⟨_, rfl⟩
  have HN := Lib.hid hn
  have HMS : Hid (∀ k, k < n → ∃ P E S : Nat, (msgAt l k).per = P ∧ (msgAt l k).dead = E ∧ (msgAt l k).size = S ∧ (msgN l).per k = P ∧ (msgN l).dead k = E ∧ (msgN l).size k = S ∧ 1 ≤ P ∧ P ≤ 1000 ∧ E ≤ 1000 ∧ S ≤ 1000 ∧ P ∣ C) := Lib.hid fun k hk => by
    have := validB_msg hv (by rw [hn]; exact hk)
    exact ⟨(msgAt l k).per.toNat, (msgAt l k).dead.toNat, (msgAt l k).size.toNat, by omega, by omega, by omega, rfl, rfl, rfl, by omega, by omega, by omega, by omega, hd k (by rw [hn]; exact hk)⟩
  obtain ⟨m, hm⟩ : ∃ m, msgN l = m := ⟨_, rfl⟩
  rw [hm] at HMS hL ⊢
  have HMN : Hid (m.n = n) := Lib.hid (by rw [← hm]; exact hn)
  have HFIN : Hid (∀ v w', w'.ownsRow w.heap.size 126 4 v (jobsTo m C n).length (rowsJ (jobsTo m C n)) → Below w.heap.size w w' → JobsPost w (jobsB m C) (.returned v) w') := Lib.hid fun v w' h1 h2 => by
    rw [← HMN.out] at h1
    obtain ⟨A', c', rfl, h3⟩ := Cl.of_own hL h1
    exact ⟨A', c', rfl, h3, h2⟩
  obtain ⟨i0, hi, hz0, hz1, hz2⟩ := info_parts infoJ
  rw [hn] at hll hn16 ⊢
  obtain ⟨JP, hJP⟩ : ∃ Q, JobsPost w (jobsB m C) = Q := ⟨_, rfl⟩
  rw [hJP] at HFIN ⊢
  clear h hn hv hd hL hm hJP
  go_enter Try.func53, Try.ntmps53
  go_wp2_with fail
  go_loopw [5, 11] (fun v i wr => ∃ k : Nat, k ≤ n ∧ i = .int .i64 k ∧ Hid (Below w.heap.size w wr ∧ wr.ownsRow w.heap.size 126 4 v (jobsTo m C k).length (rowsJ (jobsTo m C k)))) (fun _ i _ => n - (intOf i).toNat)
  case atStart => exact ⟨0, Nat.zero_le _, rfl, Lib.hid ⟨Below.refl _ _, World.ownsRow_nil _ _ _ _⟩⟩
  case round =>
    obtain ⟨k, hk, rfl, hs⟩ := hrel
    by_cases hlt : k < n
    · have hki : (k : Int) < (n : Int) := by omega
      have h0k : (0 : Int) ≤ (k : Int) := by omega
      have hlt' : k < l.length := by rw [HN.out]; exact hlt
      obtain ⟨b, off, rfl, _, d0, d1, d2, d3⟩ := Sl.at4 (Sl.below HL.out hs.out.1) hlt'
      obtain ⟨P, E, S, hP, hE, hS, hp, he, hsz, hP1, hP2, hE2, hS2, D, hCD⟩ := HMS.out k hlt
      obtain ⟨⟨nm, sz, per, dd⟩, hr⟩ : ∃ r, l.getD k msg0 = r := ⟨_, rfl⟩
      have hmk : msgAt l k = ⟨nm, sz, per, dd⟩ := hr
      rw [hr] at d0 d1 d2 d3
      rw [hmk] at hP hE hS
      simp only [msgC] at d0 d1 d2 d3 hP hE hS
      subst hP hE hS
      have HJM : Hid (∀ q, jobM m k q = ⟨k, q * P, q * P + E, S⟩) := Lib.hid fun q => by unfold jobM; rw [hp, he, hsz]
      have HALL : Hid (jobsQ m C k D = jobsTo m C (k + 1)) := Lib.hid (by
        show _ = jobsTo m C k ++ jobsOne m C k
        unfold jobsQ jobsOne
        rw [hp, hCD, Nat.mul_div_cancel_left _ (by omega)])
      have hj16 : (jobsTo m C k).length ≤ 16000 := Nat.le_trans (jobsTo_le m C k) (Nat.le_trans (Nat.mul_le_mul hC (by omega : k ≤ 16)) (by decide))
      have hCD' : C = D * P := by rw [hCD, Nat.mul_comm]
      have hD1 : D ≤ 1000 := by
        have : D * 1 ≤ D * P := Nat.mul_le_mul_left _ hP1
        omega
      have HCD := Lib.hid hCD'
      obtain ⟨w3, hw3⟩ : ∃ w3, wr.alloc (.cells #[.string nm, .int .i64 S, .int .i64 P, .int .i64 E] 80) = w3 := ⟨_, rfl⟩
      have HB3 : Hid (Below w.heap.size w w3) := Lib.hid (by rw [← hw3]; exact hs.out.1.trans (((Below.refl _ _).alloc (Nat.le_refl _) _).mono hs.out.1.size))
      have HK3 : Hid (Bk w3 wr.heap.size 80 #[.string nm, .int .i64 S, .int .i64 P, .int .i64 E]) := Lib.hid (by rw [← hw3]; exact Bk.new _ _ _)
      have HO3 : Hid (w3.ownsRow w.heap.size 126 4 u5 (jobsQ m C k 0).length (rowsJ (jobsQ m C k 0))) := Lib.hid (by rw [jobsQ_zero, ← hw3]; exact hs.out.2.alloc _)
      obtain ⟨mb, hmb⟩ : ∃ mb, wr.heap.size = mb := ⟨_, rfl⟩
      rw [hmb] at HK3
      clear hr hmk hp he hsz hCD hCD'
      go_upto_region 5 with (fail)
      clear hw3 d0 d1 d2 d3 hmb
      go_wp2_with fail
      go_loopw [5, 8] (fun v i wr => ∃ q : Nat, q ≤ D ∧ i = .int .i64 (q * P : Nat) ∧ Hid (Below w.heap.size w wr ∧ Bk wr mb 80 #[.string nm, .int .i64 S, .int .i64 P, .int .i64 E] ∧ wr.ownsRow w.heap.size 126 4 v (jobsQ m C k q).length (rowsJ (jobsQ m C k q)))) (fun _ i _ => C - (intOf i).toNat)
      case atStart => exact ⟨0, Nat.zero_le _, by rw [Nat.zero_mul]; rfl, Lib.hid ⟨HB3.out, HK3.out, HO3.out⟩⟩
      case round =>
        clear hs
        obtain ⟨q, hq, rfl, hs⟩ := hrel
        have hjl : (jobsQ m C k q).length ≤ 17000 := by have := jobsQ_len m C k q; omega
        have HSN : Hid (rowsJ (jobsQ m C k (q + 1)) = rowsJ (jobsQ m C k q) ++ [.int .i64 k, .int .i64 (q * P : Nat), .int .i64 ((q * P : Nat) + (E : Int)), .int .i64 S]) := Lib.hid (by rw [jobsQ_succ, rowsJ_snoc, HJM.out, Int.natCast_add])
        by_cases hqd : q < D
        · have hrP : q * P + P ≤ C := by
            have h1 : (q + 1) * P ≤ D * P := Nat.mul_le_mul_right _ hqd
            rw [Nat.add_mul, Nat.one_mul] at h1
            rw [HCD.out]; exact h1
          have HNX : Hid ((q + 1) * P = q * P + P) := Lib.hid (by rw [Nat.add_mul, Nat.one_mul])
          obtain ⟨r, hr⟩ : ∃ r, q * P = r := ⟨_, rfl⟩
          rw [hr] at hrP HSN HNX ⊢
          clear hr
          have hri : (r : Int) < (C : Int) := by omega
          have c1 : ∀ w', Below wr.heap.size wr w' → w'.cell? ⟨mb, 1, none⟩ = some (.int .i64 S) := fun w' hb => (hs.out.2.1.below hb hs.out.2.1.lt).cell 1
          have e1 : wr.cell? ⟨mb, 1, none⟩ = some (.int .i64 S) := hs.out.2.1.cell 1
          have e2 : wr.cell? ⟨mb, 2, none⟩ = some (.int .i64 P) := hs.out.2.1.cell 2
          have e3 : wr.cell? ⟨mb, 3, none⟩ = some (.int .i64 E) := hs.out.2.1.cell 3
          have hown := hs.out.2.2
          have hsz := hs.out.1.size
          obtain ⟨len, hlen⟩ : ∃ len, (jobsQ m C k q).length = len := ⟨_, rfl⟩
          rw [hlen] at hown hjl
          have HLEN : Hid ((jobsQ m C k (q + 1)).length = len + 1) := Lib.hid (by rw [← hlen, jobsQ_len, jobsQ_len]; omega)
          clear hlen c1
          go_wp2_with (at_builtin; refine wpList_append_own _ rfl _ _ 94 rfl w.heap.size 126 i0 (.agg #[.int .i64 0, .int .i64 0, .int .i64 0, .int .i64 0]) 4 32 Try.underlying94 hi hz0 hz1 hz2 rfl (by decide) _ _ _ rfl (hown.alloc _) ⟨wr.heap.size, 0, none⟩ 1 1 [.int .i64 k, .int .i64 r, .int .i64 ((r : Int) + (E : Int)), .int .i64 S] rfl rfl ?qc2 ?qc3 ?qc4 ?qc5 ?qc6 ?_)
          case qc2 => intro j u hj; match j, hj with | 0, hj => simp at hj; subst hj; simp [Addr.add] | 1, hj => simp at hj; subst hj; simp [Addr.add] | 2, hj => simp at hj; subst hj; simp [Addr.add] | 3, hj => simp at hj; subst hj; simp [Addr.add]
          case qc3 => intro u hu; simp at hu; rcases hu with rfl | rfl | rfl | rfl <;> rfl
          case qc4 => unfold maxLen; omega
          case qc5 => omega
          case qc6 => simp; omega
          intro v' w2 hown' hgrow _
          have HK2 : Hid (Bk w2 mb 80 #[.string nm, .int .i64 S, .int .i64 P, .int .i64 E]) := Lib.hid ((KT.grown (hown.alloc _) hgrow).2 _ _ _ (by decide) (hs.out.2.1.alloc _))
          have HB2 : Hid (Below w.heap.size w w2) := Lib.hid (by
            have h1 := hs.out.1.trans (((Below.refl _ wr).alloc (Nat.le_refl _) (.cells #[.int .i64 k, .int .i64 r, .int .i64 ((r : Int) + (E : Int)), .int .i64 S] 126)).mono hs.out.1.size)
            exact h1.grown hgrow h1.size fun g hg => ((hown.alloc (.cells #[] 0)).lt g hg).1)
          have f2 : w2.cell? ⟨mb, 2, none⟩ = some (.int .i64 P) := HK2.out.cell 2
          have HO2 : Hid (w2.ownsRow w.heap.size 126 4 v' (len + 1) (rowsJ (jobsQ m C k (q + 1)))) := Lib.hid (by rw [HSN.out]; exact hown')
          clear hgrow hown' hown e1 e2 e3
          go_wp2_with fail
          go_roundw
          case rel => exact ⟨q + 1, by omega, by rw [HNX.out]; go_num, Lib.hid (by rw [HLEN.out]; exact ⟨HB2.out, HK2.out, HO2.out⟩)⟩
          case measure => simp [intOf]; omega
        · obtain rfl : q = D := by omega
          have hCq := HCD.out
          rw [← hCq]
          go_wp2_with fail
          go_roundw
          case rel => first | exact ⟨k + 1, by omega, by go_num, Lib.hid (by rw [← HALL.out]; exact ⟨hs.out.1, hs.out.2.2⟩)⟩ | ((repeat apply Exists.intro); exact ⟨⟨k + 1, by omega, by go_num, Lib.hid (by rw [← HALL.out]; exact ⟨hs.out.1, hs.out.2.2⟩)⟩, rfl⟩)
          case measure => simp [intOf]; omega
    · obtain rfl : k = n := by omega
      go_wp2_with fail
      exact HFIN.out _ _ hs.out.2 hs.out.1
end Go.Proofs.Ytnmccbjdfdbgpaa
/- What is proved: a contract of witness. Conditions: the jobs lie in memory, end within the cycle, and lack no more than 1000 slots each. -/
namespace Go.Proofs.Ytnmccbjdfdbgpaa
open Go.RowKit

theorem moreK_le {L : List JobD} (h : ∀ i, i < L.length → (JobD.at_ L i).left ≤ 1000) (b a : Nat) : ∀ k, k ≤ L.length → moreK L b a k ≤ 1000 * k
  | 0, _ => Nat.le_refl _
  | k + 1, hk => by
    have h1 := moreK_le h b a k (by omega)
    have h2 := h k (by omega)
    unfold moreK
    split <;> omega
theorem demandK_le {L : List JobD} (h : ∀ i, i < L.length → (JobD.at_ L i).left ≤ 1000) (a b : Nat) : ∀ k, k ≤ L.length → demandK L a b k ≤ 1000 * k
  | 0, _ => Nat.le_refl _
  | k + 1, hk => by
    have h1 := demandK_le h a b k (by omega)
    have h2 := h k (by omega)
    unfold demandK
    split <;> omega
theorem infoI : (Try.prog.info? 3).map (fun i => (i.zero, i.size, i.bytes)) = some (some (.int .i64 0), 1, 8) := by kernel_rfl
theorem und2 : Try.prog.underlying 23 = some (.array 2 3) := by kernel_rfl
theorem info2 : (Try.prog.info? 23).map (·.size) = some 2 := by kernel_rfl
def witB (L : List JobD) (C : Nat) : Nat × Nat := (overB L C 1).getD (0, 0)
def WitPost (w : World) (p : Nat × Nat) (e : Ending) (w' : World) : Prop := e = .returned (.agg #[.int .i64 p.1, .int .i64 p.2]) ∧ Below w.heap.size w w'

set_option maxRecDepth 100000 in
set_option maxHeartbeats 16000000 in
theorem witness_any (w : World) (A : Option Addr) (c : Nat) (L : List JobD) (C : Nat) (h : Sl w w.heap.size 4 A L.length (fun i => jobC (L.getD i job0))) (hok : JobsOk L C) (hleft : ∀ i, i < L.length → (JobD.at_ L i).left ≤ 1000) (hC : C ≤ 1000) (hn : L.length ≤ 4096) :
    Calls Try.prog 54 #[.slice A L.length c, .int .i64 C] w (WitPost w (witB L C)) := by
  have HL := Lib.hid h
  have HOK := Lib.hid hok
  have HML := Lib.hid (moreK_le hleft)
  have HDL := Lib.hid (demandK_le hleft)
  obtain ⟨n, hnn⟩ : ∃ n, L.length = n := ⟨_, rfl⟩
  have HN := Lib.hid hnn
  have HLF : Hid (∀ i, i < n → (JobD.at_ L i).left ≤ 1000) := Lib.hid (by rw [← hnn]; exact hleft)
  obtain ⟨p, hp⟩ : ∃ p, witB L C = p := ⟨_, rfl⟩
  have HP : Hid (∀ o, overB L C 1 = o → p = o.getD (0, 0)) := Lib.hid fun o ho => by rw [← hp, ← ho]; rfl
  have HFIN : Hid (∀ (a b : Nat) w', p = (a, b) → Below w.heap.size w w' → WitPost w p (.returned (.agg #[.int .i64 a, .int .i64 b])) w') := Lib.hid fun a b w' h1 h2 => by rw [h1]; exact ⟨rfl, h2⟩
  obtain ⟨W0, hW0⟩ : ∃ W0, (w.alloc (.cells #[.int .i64 0, .int .i64 0] 23)).alloc (.cells #[.int .i64 0, .int .i64 0] 23) = W0 := ⟨_, rfl⟩
  have hsz0 : W0.heap.size = w.heap.size + 1 + 1 := by rw [← hW0]; simp
  have HB0 : Hid (Below w.heap.size w W0) := Lib.hid (by rw [← hW0]; exact ((Below.refl _ w).alloc (Nat.le_refl _) _).alloc (by simp) _)
  have HR0 : Hid (Bk W0 w.heap.size 23 #[.int .i64 0, .int .i64 0]) := Lib.hid (by rw [← hW0]; exact (Bk.new _ _ _).alloc _)
  have HF0 : Hid (Bk W0 (w.heap.size + 1) 23 #[.int .i64 0, .int .i64 0]) := Lib.hid (by rw [← hW0]; have := Bk.new (w.alloc (.cells #[.int .i64 0, .int .i64 0] 23)) (23) #[.int .i64 0, .int .i64 0]; simpa using this)
  have KM : ∀ w : World, (Instr.makeSlice 36 (.int .i64 (C : Int)) (.int .i64 (C : Int))).run Try.prog w = .ok (.slice (some ⟨w.heap.size, 0, none⟩) C C) (w.alloc (.cells (intA C fun _ => 0) 3)) := fun w => by
    have hm := run_make_row' (P := Try.prog) 36 3 (.int .i64 0) 8 Try.underlying36 infoI rfl .i64 .i64 C (by omega) (by omega) w
    rw [hm, ← intA_zero 0 0 C, ← made_rep (.int .i64 0) (.int .i64 0) rfl C]
    rfl
  rw [hnn] at h hn HML HDL ⊢
  rw [hp]
  obtain ⟨JP, hJP⟩ : ∃ Q, WitPost w p = Q := ⟨_, rfl⟩
  rw [hJP] at HFIN ⊢
  clear h hok hleft hnn hp hJP
  go_enter Try.func54, Try.ntmps54
  go_wp2_with fail
  go_step3
  go_wp2_with fail
  go_step3
  go_wp2_with fail

  go_loopw [6] (fun i wr => ∃ b : Nat, 1 ≤ b ∧ b ≤ C + 1 ∧ i = .int .i64 b ∧ Hid (Below W0.heap.size W0 wr ∧ overB L C 1 = overB L (C + 1 - b) b)) (fun i _ => C + 1 - (intOf i).toNat)
  case atStart => exact ⟨1, Nat.le_refl _, by omega, rfl, Lib.hid ⟨Below.refl _ _, rfl⟩⟩
  case round =>
    clear hW0
    obtain ⟨b, hb1, hb2, rfl, hs⟩ := hrel
    by_cases hbc : b ≤ C
    · have hbi : (b : Int) ≤ (C : Int) := by omega
      obtain ⟨mb, hmb⟩ : ∃ mb, wr.heap.size = mb := ⟨_, rfl⟩
      have hmb0 : W0.heap.size ≤ mb := by rw [← hmb]; exact hs.out.1.size
      have HM3 : Hid (∃ w3, wr.alloc (.cells (intA C fun _ => 0) 3) = w3 ∧ Below W0.heap.size W0 w3 ∧ Bk w3 mb 3 (intA C fun a => (moreK L b a 0 : Nat))) := Lib.hid ⟨_, rfl, hs.out.1.trans (((Below.refl _ _).alloc (Nat.le_refl _) _).mono hs.out.1.size), by rw [← hmb]; exact Bk.new _ _ _⟩
      obtain ⟨w3, hw3, hb3, hk3⟩ := HM3.out
      have HM4 : Hid (Below W0.heap.size W0 w3 ∧ Bk w3 mb 3 (intA C fun a => (moreK L b a 0 : Nat))) := Lib.hid ⟨hb3, hk3⟩
      clear HM3 hb3 hk3
      go_upto_region 6 with (fail)
      clear hw3 hmb
      go_wp2_with fail
      go_loopw [21] (fun i wr => ∃ k : Nat, k ≤ n ∧ i = .int .i64 k ∧ Hid (Below W0.heap.size W0 wr ∧ Bk wr mb 3 (intA C fun a => (moreK L b a k : Nat)))) (fun i _ => n - (intOf i).toNat)
      case atStart => exact ⟨0, Nat.zero_le _, rfl, HM4⟩
      case round =>
        clear HM4
        obtain ⟨k, hk, rfl, h2⟩ := hrel
        by_cases hlt : k < n
        · have hki : (k : Int) < (n : Int) := by omega
          have h0k : (0 : Int) ≤ (k : Int) := by omega
          have hlt' : k < L.length := by rw [HN.out]; exact hlt
          have hbw : Below w.heap.size w wr := HB0.out.trans (h2.out.1.mono HB0.out.size)
          obtain ⟨bb, off, rfl, _, d0, d1, d2, d3⟩ := Sl.at4 (Sl.below HL.out hbw) hlt'
          obtain ⟨⟨ms, src, fn, lf⟩, hr⟩ : ∃ r, L.getD k job0 = r := ⟨_, rfl⟩
          have hj : JobD.at_ L k = ⟨ms, src, fn, lf⟩ := hr
          rw [hr] at d0 d1 d2 d3
          simp only [jobC] at d0 d1 d2 d3
          have hjf := HOK.out.fin k hlt'
          have hjl := HLF.out k hlt
          rw [hj] at hjf hjl
          simp only at hjf hjl
          have HJD := Lib.hid hj
          have hmo := HML.out b src k (by omega)
          have hmk : ∀ a, moreK L b a (k + 1) = moreK L b a k + if fn ≤ b ∧ src = a then lf else 0 := fun a => by
            show moreK L b a k + (if (JobD.at_ L k).fin ≤ b ∧ (JobD.at_ L k).src = a then (JobD.at_ L k).left else 0) = _
            rw [hj]
          have HMK := Lib.hid hmk
          obtain ⟨jb, hjb⟩ : ∃ jb, wr.heap.size = jb := ⟨_, rfl⟩
          obtain ⟨w4, hw4⟩ : ∃ w4, wr.alloc (.cells #[.int .i64 ms, .int .i64 src, .int .i64 fn, .int .i64 lf] 126) = w4 := ⟨_, rfl⟩
          have HB4 : Hid (Below W0.heap.size W0 w4) := Lib.hid (by rw [← hw4]; exact h2.out.1.trans (((Below.refl _ _).alloc (Nat.le_refl _) _).mono h2.out.1.size))
          have HJ4 : Hid (Bk w4 jb 126 #[.int .i64 ms, .int .i64 src, .int .i64 fn, .int .i64 lf]) := Lib.hid (by rw [← hw4, ← hjb]; exact Bk.new _ _ _)
          have HM4 : Hid (Bk w4 mb 3 (intA C fun a => (moreK L b a k : Nat))) := Lib.hid (by rw [← hw4]; exact h2.out.2.alloc _)
          obtain ⟨mo, hmoe⟩ : ∃ mo, moreK L b src k = mo := ⟨_, rfl⟩
          have HC4 : Hid (∀ w1, Below w4.heap.size w4 w1 → w1.cell? ⟨jb, 1, none⟩ = some (.int .i64 src) ∧ w1.cell? ⟨jb, 3, none⟩ = some (.int .i64 lf) ∧ w1.cell? ⟨mb, src, none⟩ = some (.int .i64 mo) ∧ w1.frozen? ⟨mb, src, none⟩ = false) := Lib.hid fun w1 h1 => by
            have hjk := HJ4.out.below h1 HJ4.out.lt
            have hmk := HM4.out.below h1 HM4.out.lt
            refine ⟨hjk.cell 1, hjk.cell 3, ?_, hmk.free src⟩
            rw [hmk.cell, intA_get _ _ _ (by omega), hmoe]
          have HMO := Lib.hid hmoe
          rw [hmoe] at hmo
          have hc2 : w4.cell? ⟨jb, 2, none⟩ = some (.int .i64 fn) := HJ4.out.cell 2
          have hsC : (src : Int) < (C : Int) := by omega
          have h0s : (0 : Int) ≤ (src : Int) := by omega
          clear hr hj hmk hmoe hbw
          go_upto_region 9 with (fail)
          clear hw4 hjb d0 d1 d2 d3
          by_cases hfb : fn ≤ b
          · have hfi : (fn : Int) ≤ (b : Int) := by omega
            go_wp2_with fail
            refine wp_region_stepsM (by kernel_rfl) (by kernel_rfl) 9 (by decide) (fun bq w1 => if bq = true then ∃ w0, Below w4.heap.size w4 w0 ∧ w1 = w0.setCell ⟨mb, src, none⟩ (.int .i64 (mo + lf : Nat)) else Below w4.heap.size w4 w1) (fun _ _ _ => True)
              (fun ix u _ _ => match ix with
                | 0 => u = .slice (some ⟨mb, 0, none⟩) C C
                | 1 => u = .pointer (some ⟨jb, 1, none⟩)
                | 2 => u = .int .i64 src
                | 3 => u = .pointer (some ⟨mb, src, none⟩)
                | 4 => u = .int .i64 mo
                | 5 => u = .pointer (some ⟨jb, 3, none⟩)
                | 6 => u = .int .i64 lf
                | 7 => u = .int .i64 (mo + lf : Nat)
                | 8 => u = .pointer (some ⟨mb, src, none⟩)
                | _ => True) (Below.refl _ _).drew (fun _ _ _ _ _ _ _ _ h _ => h) ?_ ?_
            · refine ⟨?_, ?_, ?_, ?_, ?_, ?_, ?_, ?_, ?_, ?_, trivial⟩
              · intro a w1 vs K bq Hb HJ HK HD HN kk
                obtain rfl : bq = false := by cases bq with | false => rfl | true => exact absurd (Hb rfl).2 (by decide)
                have HJ' : Below w4.heap.size w4 w1 := HJ
                have e7 := HK 7 (by decide)
                go_simp; exact kk _ _ (by simp) HJ trivial rfl
              · intro a w1 vs K bq Hb HJ HK HD HN kk
                obtain rfl : bq = false := by cases bq with | false => rfl | true => exact absurd (Hb rfl).2 (by decide)
                have HJ' : Below w4.heap.size w4 w1 := HJ
                have e9 := HK 9 (by decide)
                go_simp; exact kk _ _ (by simp) HJ trivial rfl
              · intro a w1 vs K bq Hb HJ HK HD HN kk
                obtain rfl : bq = false := by cases bq with | false => rfl | true => exact absurd (Hb rfl).2 (by decide)
                have HJ' : Below w4.heap.size w4 w1 := HJ
                have e30 := (HD 1 _ 30 rfl rfl rfl).1.trans (HD 1 _ 30 rfl rfl rfl).2
                have ca := (HC4.out w1 HJ').1
                go_simp; exact kk _ _ (by simp) HJ trivial rfl
              · intro a w1 vs K bq Hb HJ HK HD HN kk
                obtain rfl : bq = false := by cases bq with | false => rfl | true => exact absurd (Hb rfl).2 (by decide)
                have HJ' : Below w4.heap.size w4 w1 := HJ
                have e29 := (HD 0 _ 29 rfl rfl rfl).1.trans (HD 0 _ 29 rfl rfl rfl).2
                have e31 := (HD 2 _ 31 rfl rfl rfl).1.trans (HD 2 _ 31 rfl rfl rfl).2
                go_simp; exact kk _ _ (by simp) HJ trivial rfl
              · intro a w1 vs K bq Hb HJ HK HD HN kk
                obtain rfl : bq = false := by cases bq with | false => rfl | true => exact absurd (Hb rfl).2 (by decide)
                have HJ' : Below w4.heap.size w4 w1 := HJ
                have e32 := (HD 3 _ 32 rfl rfl rfl).1.trans (HD 3 _ 32 rfl rfl rfl).2
                have ca := (HC4.out w1 HJ').2.2.1
                go_simp; exact kk _ _ (by simp) HJ trivial rfl
              · intro a w1 vs K bq Hb HJ HK HD HN kk
                obtain rfl : bq = false := by cases bq with | false => rfl | true => exact absurd (Hb rfl).2 (by decide)
                have HJ' : Below w4.heap.size w4 w1 := HJ
                have e9 := HK 9 (by decide)
                go_simp; exact kk _ _ (by simp) HJ trivial rfl
              · intro a w1 vs K bq Hb HJ HK HD HN kk
                obtain rfl : bq = false := by cases bq with | false => rfl | true => exact absurd (Hb rfl).2 (by decide)
                have HJ' : Below w4.heap.size w4 w1 := HJ
                have e34 := (HD 5 _ 34 rfl rfl rfl).1.trans (HD 5 _ 34 rfl rfl rfl).2
                have ca := (HC4.out w1 HJ').2.1
                go_simp; exact kk _ _ (by simp) HJ trivial rfl
              · intro a w1 vs K bq Hb HJ HK HD HN kk
                obtain rfl : bq = false := by cases bq with | false => rfl | true => exact absurd (Hb rfl).2 (by decide)
                have HJ' : Below w4.heap.size w4 w1 := HJ
                have e33 := (HD 4 _ 33 rfl rfl rfl).1.trans (HD 4 _ 33 rfl rfl rfl).2
                have e35 := (HD 6 _ 35 rfl rfl rfl).1.trans (HD 6 _ 35 rfl rfl rfl).2
                have hws : IntKind.i64.wrap ((mo : Int) + (lf : Int)) = ((mo + lf : Nat) : Int) := by rw [IntWalk.i64_in _ (by omega)]; exact (Int.natCast_add _ _).symm
                go_simp; exact kk _ _ (by simp) HJ' trivial (by first | rfl | (show Value.int _ _ = Value.int _ _; rw [hws]))
              · intro a w1 vs K bq Hb HJ HK HD HN kk
                obtain rfl : bq = false := by cases bq with | false => rfl | true => exact absurd (Hb rfl).2 (by decide)
                have HJ' : Below w4.heap.size w4 w1 := HJ
                have e29 := (HD 0 _ 29 rfl rfl rfl).1.trans (HD 0 _ 29 rfl rfl rfl).2
                have e31 := (HD 2 _ 31 rfl rfl rfl).1.trans (HD 2 _ 31 rfl rfl rfl).2
                go_simp; exact kk _ _ (by simp) HJ trivial rfl
              · intro a w1 vs K bq Hb HJ HK HD HN kk
                obtain rfl : bq = false := by cases bq with | false => rfl | true => exact absurd rfl (Hb rfl).1
                have HJ' : Below w4.heap.size w4 w1 := HJ
                have e37 := (HD 8 _ 37 rfl rfl rfl).1.trans (HD 8 _ 37 rfl rfl rfl).2
                have e36 := (HD 7 _ 36 rfl rfl rfl).1.trans (HD 7 _ 36 rfl rfl rfl).2
                have ca := (HC4.out w1 HJ').2.2.1
                have cf := (HC4.out w1 HJ').2.2.2
                go_simp; exact kk undef _ (by simp) ⟨w1, HJ', rfl⟩ trivial trivial
            · intro vs w5 hw5 hrr
              obtain ⟨w0, hb5, rfl⟩ := hw5
              have HX5 : Hid (Below W0.heap.size W0 (w0.setCell ⟨mb, src, none⟩ (.int .i64 (mo + lf : Nat))) ∧ Bk (w0.setCell ⟨mb, src, none⟩ (.int .i64 (mo + lf : Nat))) mb 3 (intA C fun a => (moreK L b a (k + 1) : Nat))) := Lib.hid (by
                refine ⟨(HB4.out.trans (hb5.mono HB4.out.size)).setCell (p := ⟨mb, src, none⟩) hmb0 _, ?_⟩
                have h6 := (HM4.out.below hb5 HM4.out.lt).set src (.int .i64 (mo + lf : Nat))
                rw [intA_set] at h6
                rw [show (fun a => ((moreK L b a (k + 1) : Nat) : Int)) = fun a => if a = src then ((mo + lf : Nat) : Int) else ((moreK L b a k : Nat) : Int) from funext fun a => by
                  rw [HMK.out a]
                  by_cases e : a = src
                  · subst e; rw [if_pos ⟨hfb, rfl⟩, if_pos rfl, HMO.out]
                  · rw [if_neg (fun h => e h.2.symm), if_neg e]; rfl]
                exact h6)
              obtain ⟨w6, hw6⟩ : ∃ w6, w0.setCell ⟨mb, src, none⟩ (.int .i64 (mo + lf : Nat)) = w6 := ⟨_, rfl⟩
              rw [hw6] at HX5 ⊢
              clear hrr hb5 hw6
              simp only [putAll, Act.put, List.setIfInBounds_toArray, List.set_cons_zero, List.set_cons_succ]
              go_wp2_with fail
              go_roundw
              case rel => first | exact ⟨k + 1, by omega, by go_num, HX5⟩ | ((repeat apply Exists.intro); exact ⟨⟨k + 1, by omega, by go_num, HX5⟩, rfl⟩)
              case measure => simp [intOf]; omega
          · have hfi : ¬ (fn : Int) ≤ (b : Int) := by omega
            have HX5 : Hid (Below W0.heap.size W0 w4 ∧ Bk w4 mb 3 (intA C fun a => (moreK L b a (k + 1) : Nat))) := Lib.hid (by
              refine ⟨HB4.out, ?_⟩
              rw [show (fun a => ((moreK L b a (k + 1) : Nat) : Int)) = fun a => ((moreK L b a k : Nat) : Int) from funext fun a => by rw [HMK.out a, if_neg (fun h => hfb h.1)]; rfl]
              exact HM4.out)
            go_wp2_with fail
            go_roundw
            case rel => first | exact ⟨k + 1, by omega, by go_num, HX5⟩ | ((repeat apply Exists.intro); exact ⟨⟨k + 1, by omega, by go_num, HX5⟩, rfl⟩)
            case measure => simp [intOf]; omega
        · obtain rfl : k = n := by omega
          have HD0 : Hid (demandB L b b = 0) := Lib.hid (demandB_end HOK.out b)
          go_wp2_with fail
          go_loopw [10, 11] (fun s i wr => ∃ a : Nat, a ≤ b ∧ s = .int .i64 (demandB L a b : Nat) ∧ i = .int .i64 ((a : Int) - 1) ∧ Hid (Below W0.heap.size W0 wr ∧ Bk wr mb 3 (intA C fun a => (moreK L b a k : Nat)) ∧ overA L b b = overA L b a)) (fun _ i _ => (intOf i + 1).toNat)
          case atStart => exact ⟨b, Nat.le_refl _, by rw [HD0.out]; rfl, rfl, Lib.hid ⟨h2.out.1, h2.out.2, rfl⟩⟩
          case round =>
            clear h2
            obtain ⟨a, ha, rfl, rfl, h3⟩ := hrel
            rcases Nat.eq_zero_or_pos a with h0 | h0
            · subst h0
              have HOV : Hid (overB L C 1 = overB L (C + 1 - (b + 1)) (b + 1)) := Lib.hid (by
                rw [hs.out.2, show C + 1 - b = (C + 1 - (b + 1)) + 1 from by omega]
                show (match overA L b b with | some a => some (a, b) | none => overB L (C + 1 - (b + 1)) (b + 1)) = _
                rw [h3.out.2.2]
                rfl)
              have hneg : ¬ (0 : Int) ≤ ((0 : Nat) : Int) - 1 := by omega
              go_wp2_with fail
              go_roundw
              case rel => first | exact ⟨b + 1, by omega, by omega, by go_num, Lib.hid ⟨h3.out.1, HOV.out⟩⟩ | ((repeat apply Exists.intro); exact ⟨⟨b + 1, by omega, by omega, by go_num, Lib.hid ⟨h3.out.1, HOV.out⟩⟩, rfl⟩)
              case measure => simp [intOf]; omega
            · obtain ⟨a', rfl⟩ : ∃ a', a = a' + 1 := ⟨a - 1, by omega⟩
              have hia : ((a' + 1 : Nat) : Int) - 1 = (a' : Int) := by omega
              rw [hia]
              clear hia
              have h0a : (0 : Int) ≤ (a' : Int) := by omega
              have haC : (a' : Int) < (C : Int) := by omega
              have hst := demandB_step L a' b
              rw [HN.out] at hst
              have hb1' := HDL.out (a' + 1) b k (Nat.le_refl _)
              have hb2' := HML.out b a' k (Nat.le_refl _)
              have hde : demandK L (a' + 1) b k = demandB L (a' + 1) b := by unfold demandB; rw [HN.out]
              rw [hde] at hb1'
              have hoa : overA L b (a' + 1) = if b - a' < demandB L a' b then some a' else overA L b a' := rfl
              obtain ⟨s1, hs1⟩ : ∃ s1, demandB L (a' + 1) b = s1 := ⟨_, rfl⟩
              obtain ⟨mo, hmo⟩ : ∃ mo, moreK L b a' k = mo := ⟨_, rfl⟩
              rw [hs1, hmo] at hst
              rw [hs1] at hb1' ⊢
              rw [hmo] at hb2'
              rw [hst] at hoa
              have HST := Lib.hid hst
              have HOA := Lib.hid hoa
              have ca : wr.cell? ⟨mb, a', none⟩ = some (.int .i64 mo) := by rw [h3.out.2.1.cell, intA_get _ _ _ (by omega), hmo]
              clear hs1 hmo hde hst hoa
              by_cases hbig : b - a' < s1 + mo
              · have hbi' : (b : Int) - (a' : Int) < (s1 : Int) + (mo : Int) := by omega
                have HPE : Hid (p = (a', b)) := Lib.hid (by
                  have h4 : overA L b b = some a' := by rw [h3.out.2.2, HOA.out, if_pos hbig]
                  have h5 : overB L C 1 = some (a', b) := by
                    rw [hs.out.2, show C + 1 - b = (C + 1 - (b + 1)) + 1 from by omega]
                    show (match overA L b b with | some a => some (a, b) | none => overB L (C + 1 - (b + 1)) (b + 1)) = _
                    rw [h4]
                  rw [HP.out _ h5]; rfl)
                have hkr := (HR0.out.below h3.out.1 HR0.out.lt)
                have hkf := (HF0.out.below h3.out.1 HF0.out.lt)
                have r0 : wr.cell? ⟨w.heap.size, 0, none⟩ = some (.int .i64 0) := hkr.cell 0
                have r1 : wr.cell? ⟨w.heap.size, 1, none⟩ = some (.int .i64 0) := hkr.cell 1
                have rf := hkr.free
                have f0 : wr.cell? ⟨w.heap.size + 1, 0, none⟩ = some (.int .i64 0) := hkf.cell 0
                have f1 : wr.cell? ⟨w.heap.size + 1, 1, none⟩ = some (.int .i64 0) := hkf.cell 1
                have ff := hkf.free
                have HKR := Lib.hid hkr
                have HBW : Hid (Below w.heap.size w wr) := Lib.hid (HB0.out.trans (h3.out.1.mono HB0.out.size))
                clear hkr hkf
                go_wp2_with fail
                try rw [Exit.noGoto_ret]
                refine bodyPost_ret (v := .agg #[.int .i64 a', .int .i64 b]) (results_cellS rfl _ _ w.heap.size 23 #[.int .i64 a', .int .i64 b] _ rfl ?_ und2 rfl info2) rfl (HFIN.out a' b _ HPE.out ?_)
                · exact ((((HKR.out.far (p := ⟨w.heap.size + 1, 0, none⟩) (by simp) _).far (p := ⟨w.heap.size + 1, 1, none⟩) (by simp) _).set 0 _).set 1 _)
                · exact ((((HBW.out.setCell (p := ⟨w.heap.size + 1, 0, none⟩) (by simp) _).setCell (p := ⟨w.heap.size + 1, 1, none⟩) (by simp) _).setCell (p := ⟨w.heap.size, 0, none⟩) (by simp) _).setCell (p := ⟨w.heap.size, 1, none⟩) (by simp) _)
              · have hbi' : ¬ (b : Int) - (a' : Int) < (s1 : Int) + (mo : Int) := by omega
                go_wp2_with fail
                go_roundw
                case rel => exact ⟨a', by omega, by rw [HST.out]; rfl, rfl, Lib.hid ⟨h3.out.1, h3.out.2.1, by rw [h3.out.2.2, HOA.out, if_neg hbig]⟩⟩
                case measure => simp [intOf] <;> omega
    · obtain rfl : b = C + 1 := by omega
      have HPE : Hid (p = (0, 0)) := Lib.hid (by
        have h5 := hs.out.2
        rw [Nat.sub_self] at h5
        rw [HP.out _ h5]; rfl)
      have hbi : ¬ ((C + 1 : Nat) : Int) ≤ (C : Int) := by omega
      have hkr := (HR0.out.below hs.out.1 HR0.out.lt)
      have hkf := (HF0.out.below hs.out.1 HF0.out.lt)
      have r0 : wr.cell? ⟨w.heap.size, 0, none⟩ = some (.int .i64 0) := hkr.cell 0
      have r1 : wr.cell? ⟨w.heap.size, 1, none⟩ = some (.int .i64 0) := hkr.cell 1
      have rf := hkr.free
      have f0 : wr.cell? ⟨w.heap.size + 1, 0, none⟩ = some (.int .i64 0) := hkf.cell 0
      have f1 : wr.cell? ⟨w.heap.size + 1, 1, none⟩ = some (.int .i64 0) := hkf.cell 1
      have HKR := Lib.hid hkr
      have HBW : Hid (Below w.heap.size w wr) := Lib.hid (HB0.out.trans (hs.out.1.mono HB0.out.size))
      clear hkr hkf
      go_wp2_with fail
      try rw [Exit.noGoto_ret]
      refine bodyPost_ret (v := .agg #[.int .i64 (0 : Nat), .int .i64 (0 : Nat)]) (results_cellS rfl _ _ w.heap.size 23 #[.int .i64 (0 : Nat), .int .i64 (0 : Nat)] _ rfl ?_ und2 rfl info2) rfl (HFIN.out 0 0 _ HPE.out ?_)
      · exact ((HKR.out.set 0 _).set 1 _)
      · exact ((HBW.out.setCell (p := ⟨w.heap.size, 0, none⟩) (by simp) _).setCell (p := ⟨w.heap.size, 1, none⟩) (by simp) _)
end Go.Proofs.Ytnmccbjdfdbgpaa
