/- What is proved: the texts Ca Cb, one behind the other; each says at its head what it proves, and under which conditions. -/
import Derived.Test.Ytnmccbjdfdbgpaan14
/- What is proved: a contract of the document's cuts. Conditions: the council, the votes and the lies lie in memory. -/
namespace Go.Proofs.Ytnmccbjdfdbgpaa
open Go.RowKit

set_option maxRecDepth 100000 in
set_option maxHeartbeats 8000000 in
theorem refCuts_any (N F : Nat) (Af : Option Addr) (cf : Nat) (fl : List Int) (A : Option Addr) (c : Nat) (l : List LieD) (fr : Int) (hN : N ≤ 7) (hF : F ≤ 2) (w : World) (Ar : Option Addr) (cr : Nat) (row : List Int) (i : Nat)
    (hf : IntsAt w w.heap.size Af fl) (hl : LiesAt w w.heap.size A l) (hr : IntsAt w w.heap.size Ar row) (hrl : row.length = N) :
    Calls Try.prog 67 #[.agg #[.int .i64 N, .int .i64 F, .slice Af fl.length cf], .slice Ar N cr, .slice A l.length c, .int .i64 fr, .int .i64 i] w fun e w' => e = .returned (.bool (decide ((F : Int) < yesP (learnB N F fr l) fl N F row N i))) ∧ Below w.heap.size w w' := by
  have hll := hl.len
  have hff := hf.1
  obtain ⟨qb, hqb⟩ : ∃ qb, w.heap.size = qb := ⟨_, rfl⟩
  have HQB := Lib.hid hqb
  have HTR : Hid (∀ a b, Below qb w a → Below a.heap.size a b → Below qb w b) := Lib.hid fun _ _ h1 h2 => h1.trans (h2.mono (by rw [← hqb]; exact h1.size))
  obtain ⟨W0, hW0⟩ : ∃ W0, w.alloc (.cells #[.int .i64 N, .int .i64 F, .slice Af fl.length cf] 48) = W0 := ⟨_, rfl⟩
  have hb0 : Below w.heap.size w W0 := by rw [← hW0]; exact (Below.refl _ w).alloc (Nat.le_refl _) _
  have HB0 : Hid (Below qb w W0) := Lib.hid (by rw [← hqb]; exact hb0)
  have HK0 : Hid (Bk W0 qb 48 #[.int .i64 N, .int .i64 F, .slice Af fl.length cf]) := Lib.hid (by rw [← hW0, ← hqb]; exact Bk.new _ _ _)
  have HDE : Hid (∀ (g : Nat), g < N → ∀ (w1 : World), Below qb w w1 → Calls Try.prog 61 #[.agg (talkA N F Af fl.length cf A l.length c fr (getI row g)), .int .i64 g, .int .i64 i] w1 fun e w' => e = .returned (.int .i64 (decP (learnB N F fr l) fl N F (getI row g) g i)) ∧ Below w1.heap.size w1 w') := Lib.hid fun g hg w1 hb => by
    rw [dec_link hg]
    exact refDecide_any N F Af cf fl A c l fr (getI row g) hN hF w1 g i (Sl.mono (Sl.below hf (by rw [hqb]; exact hb)) hb.size) ((hl.below (by rw [hqb]; exact hb)).mono hb.size)
  have HRR : Hid (∀ w1, Below qb w w1 → IntsAt w1 qb Ar row) := Lib.hid fun w1 hb => by have := Sl.below hr (by rw [hqb]; exact hb); rw [hqb] at this; exact this
  have HRL := Lib.hid hrl
  obtain ⟨q, hq⟩ : ∃ q, learnB N F fr l = q := ⟨_, rfl⟩
  rw [hq] at HDE ⊢
  obtain ⟨R, hR⟩ : ∃ R, decide ((F : Int) < yesP q fl N F row N i) = R := ⟨_, rfl⟩
  have HRE := Lib.hid hR
  have HFIN : Hid (∀ (x : Bool) (w' : World), x = R → Below qb w w' → Ending.returned (.bool x) = .returned (.bool R) ∧ Below qb w w') := Lib.hid fun x w' h1 h2 => by subst h1; exact ⟨rfl, h2⟩
  obtain ⟨nf, hnf⟩ : ∃ nf, fl.length = nf := ⟨_, rfl⟩
  obtain ⟨nl, hnl⟩ : ∃ nl, l.length = nl := ⟨_, rfl⟩
  rw [hnf] at hff hW0 HK0 HDE ⊢
  rw [hnl] at hll HDE ⊢
  rw [hqb, hR]
  unfold talkA at HDE
  clear hf hl hr hrl hnf hnl hb0 hR hq
  go_enter Try.func67, Try.ntmps67
  go_upto_region 1 with (fail)
  clear hqb hW0
  go_wp2_with fail
  go_loopw [11, 12] (fun v gi wr => ∃ k : Nat, k ≤ N ∧ gi = .int .i64 k ∧ v = .int .i64 (yesP q fl N F row k i) ∧ Hid (Below W0.heap.size W0 wr)) (fun _ gi _ => N - (intOf gi).toNat)
  case atStart => exact ⟨0, Nat.zero_le _, rfl, rfl, Lib.hid (Below.refl _ _)⟩
  case round =>
    obtain ⟨k, hk, rfl, rfl, hs⟩ := hrel
    have HBR := Lib.hid (HTR.out _ _ HB0.out hs.out)
    have HKR := Lib.hid (HK0.out.below hs.out HK0.out.lt)
    have q0 : wr.cell? ⟨qb, 0, none⟩ = some (.int .i64 N) := HKR.out.cell 0
    have q1 : wr.cell? ⟨qb, 1, none⟩ = some (.int .i64 F) := HKR.out.cell 1
    have hyb : 0 ≤ yesP q fl N F row k i ∧ yesP q fl N F row k i ≤ k := by
      unfold yesP
      have := List.length_filter_le (fun g => decide (decP q fl N F (getI row g) g i = 1)) (List.range k)
      rw [List.length_range] at this
      omega
    obtain ⟨y, hy⟩ : ∃ y, yesP q fl N F row k i = y := ⟨_, rfl⟩
    by_cases hlt : k < N
    · have hki : (k : Int) < (N : Int) := by omega
      have h0k : (0 : Int) ≤ (k : Int) := by omega
      have HYS := Lib.hid (yesP_succ q fl N F row k i)
      have HDK := Lib.hid (HDE.out k hlt)
      obtain ⟨bb, off, rfl, _, d0⟩ := Sl.at1 (HRR.out wr HBR.out) (i := k) (by rw [HRL.out]; exact hlt)
      try dsimp only at d0
      obtain ⟨x, hx⟩ : ∃ x, getI row k = x := ⟨_, rfl⟩
      rw [hx] at d0 HYS HDK
      rw [hy] at HYS hyb ⊢
      obtain ⟨d, hd⟩ : ∃ d, decP q fl N F x k i = d := ⟨_, rfl⟩
      rw [hd] at HYS HDK
      have x0 : ∀ z : Ext wr, z.w.cell? ⟨qb, 0, none⟩ = some (.int .i64 N) := Ext.cell q0
      have x1 : ∀ z : Ext wr, z.w.cell? ⟨qb, 1, none⟩ = some (.int .i64 F) := Ext.cell q1
      have x2 : ∀ z : Ext wr, z.w.cell? ⟨qb, 2, none⟩ = some (.slice Af nf cf) := Ext.cell (HKR.out.cell 2)
      have x3 : ∀ z : Ext wr, z.w.cell? ⟨bb, off + k, none⟩ = some (.int .i64 x) := Ext.cell d0
      have HDX := Lib.hid fun z : Ext wr => HDK.out z.w (HTR.out _ _ HBR.out z.h)
      clear hy hx hd d0
      by_cases hd1 : d = 1
      · have HN1 : Hid (yesP q fl N F row (k + 1) i = y + 1) := Lib.hid (by rw [HYS.out, if_pos hd1])
        subst hd1
        go_wp2_with fail
        refine wp_region_ext_quiet (by kernel_rfl) (by kernel_rfl) ?_
        repeat (go_big_quiet_step ((go_at_call 61; exact Ext.calls (HDX.out _))))
        refine wpQuiet_nil ?_
        intro w4 hb4
        clear x0 x1 x2 x3 q0 q1
        go_wp2_with fail
        go_roundw
        case rel => exact ⟨k + 1, by omega, by go_num, by rw [HN1.out], Lib.hid (hs.out.trans (hb4.mono hs.out.size))⟩
        case measure => simp [intOf]; omega
      · have HN1 : Hid (yesP q fl N F row (k + 1) i = y) := Lib.hid (by rw [HYS.out, if_neg hd1, Int.add_zero])
        go_wp2_with fail
        refine wp_region_ext_quiet (by kernel_rfl) (by kernel_rfl) ?_
        repeat (go_big_quiet_step ((go_at_call 61; exact Ext.calls (HDX.out _))))
        refine wpQuiet_nil ?_
        intro w4 hb4
        clear x0 x1 x2 x3 q0 q1
        go_wp2_with fail
        go_roundw
        case rel => exact ⟨k + 1, by omega, by go_num, by rw [HN1.out], Lib.hid (hs.out.trans (hb4.mono hs.out.size))⟩
        case measure => simp [intOf]; omega
    · obtain rfl : k = N := by omega
      have HYE := Lib.hid hy
      rw [hy] at hyb ⊢
      clear hy
      by_cases hgo : (F : Int) + 1 ≤ y
      · have HR : Hid (true = R) := Lib.hid (by rw [← HRE.out, HYE.out]; exact (decide_eq_true (by omega)).symm)
        go_wp2_with fail
        go_ret
        exact HFIN.out _ _ HR.out HBR.out
      · have HR : Hid (false = R) := Lib.hid (by rw [← HRE.out, HYE.out]; exact (decide_eq_false (by omega)).symm)
        go_wp2_with fail
        go_ret
        exact HFIN.out _ _ HR.out HBR.out
end Go.Proofs.Ytnmccbjdfdbgpaa
/- What is proved: a contract of the document's CutOff. Conditions: the council, the votes and the lies lie in memory. -/
namespace Go.Proofs.Ytnmccbjdfdbgpaa
open Go.RowKit

theorem cutP_stay {N F : Nat} {fl : List Int} {vs : List (List Int)} {lies : List LieD} {i k : Nat} (h : 0 ≤ cutP lies fl N F vs k i) : ∀ d, cutP lies fl N F vs (k + d) i = cutP lies fl N F vs k i
  | 0 => rfl
  | d + 1 => by
    show frameP lies fl N F (rowAt vs (k + d)) (k + d) (cutP lies fl N F vs (k + d) i) i = _
    rw [cutP_stay h d]
    unfold frameP
    rw [if_neg (by omega)]
/-- The list of frames, of which the first i are done; member i has x. -/
def outC (f : Nat → Int) (i : Nat) (x : Int) (j : Nat) : Int := if j < i then f j else if j = i then x else 0
theorem outC_set (f : Nat → Int) (N i : Nat) (x y : Int) : (intA N (outC f i x)).setIfInBounds i (.int .i64 y) = intA N (outC f i y) := by
  rw [intA_set]
  refine intA_congr fun j _ => ?_
  unfold outC
  by_cases e : j = i
  · subst e; rw [if_pos rfl, if_neg (Nat.lt_irrefl j), if_pos rfl]
  · rw [if_neg e]
    by_cases e2 : j < i
    · rw [if_pos e2, if_pos e2]
    · rw [if_neg e2, if_neg e2, if_neg e, if_neg e]
theorem outC_next (f : Nat → Int) (N i : Nat) : intA N (outC f i (f i)) = intA N (outC f (i + 1) 0) := by
  refine intA_congr fun j _ => ?_
  unfold outC
  by_cases e : j = i
  · subst e; rw [if_neg (Nat.lt_irrefl j), if_pos rfl, if_pos (Nat.lt_succ_self j)]
  · by_cases e2 : j < i
    · rw [if_pos e2, if_pos (by omega)]
    · rw [if_neg e2, if_neg e, if_neg (by omega)]
      by_cases e3 : j = i + 1
      · rw [if_pos e3]
      · rw [if_neg e3]
theorem outC_last (f : Nat → Int) (N : Nat) (x : Int) : intA N (outC f N x) = intA N f := intA_congr fun j hj => by unfold outC; rw [if_pos hj]
theorem rowOk_no {N : Int} {vs : List (List Int)} {k : Nat} (hk : k < vs.length) (h : rowOk N (rowAt vs k) = false) : (allN vs.length fun k => rowOk N (rowAt vs k)) = false := by
  cases ha : (allN vs.length fun k => rowOk N (rowAt vs k)) with
  | false => rfl
  | true => rw [allN_iff.1 ha k hk] at h; cases h
set_option maxRecDepth 100000 in
set_option maxHeartbeats 16000000 in
theorem refCutOff_any (w : World) (N F : Int) (Af : Option Addr) (cf : Nat) (fl : List Int) (Av : Option Addr) (cv : Nat) (vs : List (List Int)) (A : Option Addr) (c : Nat) (l : List LieD) (hf : IntsAt w w.heap.size Af fl) (hvs : RowsAt w w.heap.size Av vs) (hl : LiesAt w w.heap.size A l) :
    Calls Try.prog 30 #[.agg #[.int .i64 N, .int .i64 F, .slice Af fl.length cf], .slice Av vs.length cv, .slice A l.length c] w (ListPost w (cutB N F fl vs l)) := by
  have hll := hl.len
  have hlv := hvs.len
  have hff := hf.1
  obtain ⟨qb, hqb⟩ : ∃ qb, w.heap.size = qb := ⟨_, rfl⟩
  have HQB := Lib.hid hqb
  have HTR : Hid (∀ a b, Below qb w a → Below a.heap.size a b → Below qb w b) := Lib.hid fun _ _ h1 h2 => h1.trans (h2.mono (by rw [← hqb]; exact h1.size))
  obtain ⟨W0, hW0⟩ : ∃ W0, w.alloc (.cells #[.int .i64 N, .int .i64 F, .slice Af fl.length cf] 48) = W0 := ⟨_, rfl⟩
  have hb0 : Below w.heap.size w W0 := by rw [← hW0]; exact (Below.refl _ w).alloc (Nat.le_refl _) _
  have HB0 : Hid (Below qb w W0) := Lib.hid (by rw [← hqb]; exact hb0)
  have HK0 : Hid (Bk W0 qb 48 #[.int .i64 N, .int .i64 F, .slice Af fl.length cf]) := Lib.hid (by rw [← hW0, ← hqb]; exact Bk.new _ _ _)
  have HCO := Lib.hid (refCouncil_any W0 N F Af cf fl (Sl.mono (Sl.below hf hb0) hb0.size))
  have HCU0 := Lib.hid fun (Nn Fn : Nat) (hN : Nn ≤ 7) (hF : Fn ≤ 2) (fr : Int) (Ar : Option Addr) (cr : Nat) (row : List Int) (i : Nat) (w1 : World) (hb : Below qb w w1) (hr : IntsAt w1 w1.heap.size Ar row) (hrl : row.length = Nn) => refCuts_any Nn Fn Af cf fl A c l fr hN hF w1 Ar cr row i (Sl.mono (Sl.below hf (by rw [hqb]; exact hb)) hb.size) ((hl.below (by rw [hqb]; exact hb)).mono hb.size) hr hrl
  have HHAS := Lib.hid fun (i : Nat) (w1 : World) (hb : Below qb w w1) => has_any w1 Af cf fl i (Sl.mono (Sl.below hf (by rw [hqb]; exact hb)) hb.size)
  obtain ⟨P, cc, hvr, hvi⟩ := hvs.sl
  have HVR := Lib.hid hvr
  have HVI := Lib.hid hvi
  have HERR : Hid (∀ (er : Int) (w' : World), cutB N F fl vs l = ([], er) → Below qb w w' → ListPost w (cutB N F fl vs l) (.returned (.tuple #[.slice none 0 0, .int .i64 er])) w') := Lib.hid fun er w' h1 h2 => by
    rw [h1]; exact ⟨none, 0, rfl, Cl.nil _ _ _ _ _ _, by rw [hqb]; exact h2⟩
  have HGD : Hid (∀ (Nn : Nat) (f : Nat → Int) (ob : Nat) (w' : World), cutB N F fl vs l = ((List.range Nn).map f, 0) → Nn ≤ 7 → Bk w' ob 3 (intA Nn f) → qb ≤ ob → Below qb w w' → ListPost w (cutB N F fl vs l) (.returned (.tuple #[.slice (some ⟨ob, 0, none⟩) Nn Nn, .int .i64 0])) w') := Lib.hid fun Nn f ob w' h1 h2 h3 h4 h5 => by
    rw [h1]
    refine ⟨some ⟨ob, 0, none⟩, Nn, by simp, ⟨by simp; omega, fun hn => ⟨ob, _, rfl, by rw [hqb]; exact h4, h3, fun i hi j hj => ?_⟩⟩, by rw [hqb]; exact h5⟩
    obtain rfl : j = 0 := by omega
    have hi2 : i < Nn := by simpa using hi
    rw [Nat.mul_one, Nat.add_zero, intA_get _ _ _ hi2]
    show some (Value.int .i64 _) = some (Value.int .i64 (getI ((List.range Nn).map f) i))
    rw [mapI_get _ hi2]
  have HAD : Hid (cutB N F fl vs l = if councilB N F fl = false then ([], 2) else if 20 < vs.length ∨ 1000 < l.length then ([], 3) else if (allN vs.length fun k => rowOk N (rowAt vs k)) = false then ([], 2) else ((List.range N.toNat).map (cutP l fl N.toNat F.toNat vs vs.length), 0)) := Lib.hid rfl
  have HRNO : Hid (∀ k, k < vs.length → rowOk N (rowAt vs k) = false → (allN vs.length fun k => rowOk N (rowAt vs k)) = false) := Lib.hid fun k hk h => rowOk_no hk h
  obtain ⟨JP, hJP⟩ : ∃ Q, ListPost w (cutB N F fl vs l) = Q := ⟨_, rfl⟩
  rw [hJP] at HERR HGD ⊢
  obtain ⟨nf, hnf⟩ : ∃ nf, fl.length = nf := ⟨_, rfl⟩
  obtain ⟨nl, hnl⟩ : ∃ nl, l.length = nl := ⟨_, rfl⟩
  obtain ⟨nv, hnv⟩ : ∃ nv, vs.length = nv := ⟨_, rfl⟩
  have HNV := Lib.hid hnv
  rw [hnf] at hff hW0 HK0 HCO HCU0 HHAS ⊢
  rw [hnl] at hll HCU0 HAD ⊢
  rw [hnv] at hlv HAD HRNO ⊢
  obtain ⟨b1, hb1⟩ : ∃ b1, councilB N F fl = b1 := ⟨_, rfl⟩
  have HB1E := Lib.hid hb1
  rw [hb1] at HCO HAD
  clear hf hl hvs hvr hvi hnf hnl hnv hb0 hJP hb1
  go_enter Try.func30, Try.ntmps30
  go_upto_region 1 with (fail)
  clear hqb hW0
  have q0 : W0.cell? ⟨qb, 0, none⟩ = some (.int .i64 N) := HK0.out.cell 0
  have q1 : W0.cell? ⟨qb, 1, none⟩ = some (.int .i64 F) := HK0.out.cell 1
  have q2 : W0.cell? ⟨qb, 2, none⟩ = some (.slice Af nf cf) := HK0.out.cell 2
  go_wp2_with fail
  refine HCO.out.mono ?_
  rintro e w1 ⟨rfl, hb1⟩
  have HB1 := Lib.hid (HTR.out _ _ HB0.out hb1)
  have HK1 := Lib.hid (HK0.out.below hb1 HK0.out.lt)
  clear hb1 q0 q1 q2 HCO
  cases b1 with
  | false =>
    go_wp2_with fail
    exact HERR.out 2 _ (by rw [HAD.out]; rfl) HB1.out
  | true =>
  obtain ⟨c1, c2, c3, c4, c5, c6, _⟩ := council_ok HB1E.out
  obtain ⟨Nn, rfl⟩ : ∃ Nn : Nat, N = Nn := ⟨N.toNat, by omega⟩
  obtain ⟨Fn, rfl⟩ : ∃ Fn : Nat, F = Fn := ⟨F.toNat, by omega⟩
  by_cases h20 : 20 < nv
  · have h20i : (20 : Int) < (nv : Int) := by omega
    go_wp2_with fail
    exact HERR.out 3 _ (by rw [HAD.out, if_neg (by decide), if_pos (Or.inl h20)]) HB1.out
  have h20i : ¬ (20 : Int) < (nv : Int) := by omega
  by_cases h10 : 1000 < nl
  · have h10i : (1000 : Int) < (nl : Int) := by omega
    go_wp2_with fail
    exact HERR.out 3 _ (by rw [HAD.out, if_neg (by decide), if_pos (Or.inr h10)]) HB1.out
  have h10i : ¬ (1000 : Int) < (nl : Int) := by omega
  have HAD2 : Hid (cutB Nn Fn fl vs l = if (allN nv fun k => rowOk Nn (rowAt vs k)) = false then ([], 2) else ((List.range Nn).map (cutP l fl Nn Fn vs nv), 0)) := Lib.hid (by
    rw [HAD.out, if_neg (by decide), if_neg (by omega), Int.toNat_natCast, Int.toNat_natCast])
  have hN7 : Nn ≤ 7 := by omega
  have hF2 : Fn ≤ 2 := by omega
  have HCU := Lib.hid (HCU0.out Nn Fn hN7 hF2)
  clear HAD HCU0 h20 h10
  go_wp2_with fail
  go_loopw [8] (fun i wr => ∃ k : Nat, k ≤ nv ∧ i = .int .i64 k ∧ Hid (Below w1.heap.size w1 wr ∧ ∀ j, j < k → rowOk Nn (rowAt vs j) = true)) (fun i _ => nv - (intOf i).toNat)
  case atStart => exact ⟨0, Nat.zero_le _, rfl, Lib.hid ⟨Below.refl _ _, fun j hj => absurd hj (Nat.not_lt_zero j)⟩⟩
  case round =>
    obtain ⟨k, hk, rfl, hs⟩ := hrel
    have HBR := Lib.hid (HTR.out _ _ HB1.out hs.out.1)
    have HKR := Lib.hid (HK1.out.below hs.out.1 HK1.out.lt)
    have q0 : wr.cell? ⟨qb, 0, none⟩ = some (.int .i64 Nn) := HKR.out.cell 0
    by_cases hlt : k < nv
    · have hki : (k : Int) < (nv : Int) := by omega
      have h0k : (0 : Int) ≤ (k : Int) := by omega
      obtain ⟨bb, off, rfl, _, d0⟩ := Sl.at1 (Sl.below HVR.out (by rw [HQB.out]; exact HBR.out)) (i := k) (by rw [HNV.out]; exact hlt)
      have hrd := Sl.below (HVI.out k (by rw [HNV.out]; exact hlt)) (w' := wr) (by rw [HQB.out]; exact HBR.out)
      try dsimp only at d0
      obtain ⟨row, hrow⟩ : ∃ row, rowAt vs k = row := ⟨_, rfl⟩
      have HROW := Lib.hid hrow
      have HRK := Lib.hid (HRNO.out k hlt)
      rw [hrow] at d0 hrd HRK
      have HRD := Lib.hid hrd
      obtain ⟨rn, hrn⟩ : ∃ rn, row.length = rn := ⟨_, rfl⟩
      have HRN := Lib.hid hrn
      have hrn2 : rn ≤ 9223372036854775807 := by rw [← hrn]; exact hrd.1
      obtain ⟨pk, hpk⟩ : ∃ pk, P k = pk := ⟨_, rfl⟩
      obtain ⟨ck, hck⟩ : ∃ ck, cc k = ck := ⟨_, rfl⟩
      rw [hrn, hpk, hck] at d0
      rw [hpk] at HRD
      clear hrow hrd hrn hpk hck
      by_cases hne : rn = Nn
      case neg =>
        have hnei : ¬ (rn : Int) = (Nn : Int) := by omega
        have HNO : Hid (cutB Nn Fn fl vs l = ([], 2)) := Lib.hid (by
          rw [HAD2.out, HRK.out (by unfold rowOk; rw [HRN.out, decide_eq_false hnei]; rfl)]; rfl)
        go_wp2_with fail
        go_quiet (fail)
        go_wp2_with fail
        exact HERR.out 2 _ HNO.out (below_drewN HBR.out _)
      subst hne
      have HCE : Hid (∀ w4, Below wr.heap.size wr w4 → w4.cell? ⟨qb, 0, none⟩ = some (.int .i64 rn) ∧ w4.cell? ⟨bb, off + k, none⟩ = some (.slice pk rn ck)) := Lib.hid fun w4 h4 => by
        have hbb : bb < wr.heap.size := World.block_lt_of_cell? wr _ d0
        exact ⟨(HKR.out.below h4 HKR.out.lt).cell 0, (h4.cell (p := ⟨bb, off + k, none⟩) hbb).trans d0⟩
      obtain ⟨wo, hwo⟩ : ∃ wo, wo = wr := ⟨_, rfl⟩
      have HWO : Hid (Below wo.heap.size wo wr) := Lib.hid (by rw [hwo]; exact Below.refl _ _)
      rw [← hwo] at hs HCE HBR HRD
      clear hwo
      go_wp2_with fail
      go_quiet (fail)
      go_wp2_with fail
      clear q0 d0
      go_loopw [9] (fun i w4 => ∃ j : Nat, j ≤ rn ∧ i = .int .i64 j ∧ Hid (Below wo.heap.size wo w4 ∧ ∀ a, a < j → inB (getI row a) 0 1 = true)) (fun i _ => rn - (intOf i).toNat)
      case atStart => exact ⟨0, Nat.zero_le _, rfl, Lib.hid ⟨below_drewN HWO.out _, fun j hj => absurd hj (Nat.not_lt_zero j)⟩⟩
      case round =>
        clear HWO
        obtain ⟨j, hj, rfl, hs2⟩ := hrel
        obtain ⟨q0, d0⟩ := HCE.out wr hs2.out.1
        by_cases hjn : j < rn
        · have hji : (j : Int) < (rn : Int) := by omega
          have h0j : (0 : Int) ≤ (j : Int) := by omega
          have hrow2 : IntsAt wr w.heap.size pk row := Sl.below HRD.out (hs2.out.1.mono (by rw [HQB.out]; have := HBR.out.size; rw [HQB.out] at this; exact this))
          obtain ⟨b2, off2, hP, _, d1⟩ := Sl.at1 hrow2 (i := j) (by rw [HRN.out]; exact hjn)
          subst hP
          obtain ⟨x, hx⟩ : ∃ x, getI row j = x := ⟨_, rfl⟩
          have HX := Lib.hid hx
          try dsimp only at d1
          rw [hx] at d1
          have HIW := Lib.hid (fun w' => in_any x 0 1 w')
          obtain ⟨bx, hbx⟩ : ∃ bx, inB x 0 1 = bx := ⟨_, rfl⟩
          have HBX := Lib.hid hbx
          rw [hbx] at HIW
          clear hx hbx hrow2
          cases bx with
          | false =>
            have HNO : Hid (cutB rn Fn fl vs l = ([], 2)) := Lib.hid (by
              have h5 : (allN row.length fun i => inB (getI row i) 0 1) = false := by
                cases ha : (allN row.length fun i => inB (getI row i) 0 1) with
                | false => rfl
                | true =>
                  have := allN_iff.1 ha j (by rw [HRN.out]; exact hjn)
                  rw [HX.out, HBX.out] at this; cases this
              rw [HAD2.out, HRK.out (by unfold rowOk; rw [h5, Bool.and_false])]; rfl)
            go_wp2_with fail
            refine (HIW.out _).mono ?_
            rintro e w5 ⟨rfl, rfl⟩
            go_wp2_with fail
            exact HERR.out 2 _ HNO.out (HTR.out _ _ HBR.out hs2.out.1)
          | true =>
            go_wp2_with fail
            refine (HIW.out _).mono ?_
            rintro e w5 ⟨rfl, hw5⟩
            rw [← hw5]
            clear hw5
            go_wp2_with fail
            go_roundw
            case rel => exact ⟨j + 1, by omega, by go_num, Lib.hid ⟨hs2.out.1, fun a ha => by
              by_cases e : a = j
              · subst e; rw [HX.out]; exact HBX.out
              · exact hs2.out.2 a (by omega)⟩⟩
            case measure => simp [intOf]; omega
        · obtain rfl : j = rn := by omega
          have HNX : Hid (Below w1.heap.size w1 wr ∧ ∀ a, a < k + 1 → rowOk j (rowAt vs a) = true) := Lib.hid ⟨hs.out.1.trans (hs2.out.1.mono hs.out.1.size), fun a ha => by
            by_cases e : a = k
            · subst e
              rw [HROW.out]
              unfold rowOk
              rw [HRN.out, decide_eq_true rfl, Bool.true_and]
              exact allN_iff.2 hs2.out.2
            · exact hs.out.2 a (by omega)⟩
          go_wp2_with fail
          go_roundw
          case rel => first | exact ⟨k + 1, by omega, by go_num, HNX⟩ | ((repeat apply Exists.intro); exact ⟨⟨k + 1, by omega, by go_num, HNX⟩, rfl⟩)
          case measure => simp [intOf]; omega
    · obtain rfl : k = nv := by omega
      have HROWS := Lib.hid hs.out.2
      have HOK : Hid (cutB Nn Fn fl vs l = ((List.range Nn).map (cutP l fl Nn Fn vs k), 0)) := Lib.hid (by
        rw [HAD2.out, if_neg (by rw [allN_iff.2 hs.out.2]; decide)])
      obtain ⟨wo, hwo⟩ : ∃ wo, wo = wr := ⟨_, rfl⟩
      have KM := makeInts Nn (by omega) wo
      obtain ⟨ob, hob⟩ : ∃ ob, wo.heap.size = ob := ⟨_, rfl⟩
      obtain ⟨W3, hW3⟩ : ∃ W3, wo.alloc (.cells (intA Nn fun _ => 0) 3) = W3 := ⟨_, rfl⟩
      rw [← hwo] at HBR HKR q0 hs ⊢
      clear hwo
      have HB3 : Hid (Below qb w W3) := Lib.hid (HTR.out _ _ HBR.out (by rw [← hW3]; exact (Below.refl _ _).alloc (Nat.le_refl _) _))
      have HK3 : Hid (Bk W3 qb 48 #[.int .i64 Nn, .int .i64 Fn, .slice Af nf cf]) := Lib.hid (by rw [← hW3]; exact HKR.out.alloc _)
      have HOB : Hid (qb < ob) := Lib.hid (by rw [← hob]; exact HKR.out.lt)
      obtain ⟨f, hfe⟩ : ∃ f : Nat → Int, cutP l fl Nn Fn vs k = f := ⟨_, rfl⟩
      have HFE : Hid (∀ i, cutP l fl Nn Fn vs k i = f i) := Lib.hid fun i => by rw [hfe]
      rw [hfe] at HOK
      have HO3 : Hid (Bk W3 ob 3 (intA Nn (outC f 0 0))) := Lib.hid (by
        have e : (intA Nn fun _ => (0 : Int)) = intA Nn (outC f 0 0) := intA_congr fun j _ => by unfold outC; rw [if_neg (Nat.not_lt_zero j)]; split <;> rfl
        rw [← e, ← hW3, ← hob]; exact Bk.new _ _ _)
      rw [hW3, hob] at KM
      clear hs hfe
      go_wp2_with fail
      clear KM hW3 hob q0
      go_loopw [11] (fun i w4 => ∃ m : Nat, m ≤ Nn ∧ i = .int .i64 m ∧ Hid (Below qb w w4 ∧ Bk w4 qb 48 #[.int .i64 Nn, .int .i64 Fn, .slice Af nf cf] ∧ Bk w4 ob 3 (intA Nn (outC f m 0)))) (fun i _ => Nn - (intOf i).toNat)
      case atStart => exact ⟨0, Nat.zero_le _, rfl, Lib.hid ⟨HB3.out, HK3.out, HO3.out⟩⟩
      case round =>
        clear HO3 HK3 HB3
        obtain ⟨m, hm, rfl, hs⟩ := hrel
        have q0 : wr.cell? ⟨qb, 0, none⟩ = some (.int .i64 Nn) := hs.out.2.1.cell 0
        by_cases hmn : m < Nn
        · have hmi : (m : Int) < (Nn : Int) := by omega
          have h0m : (0 : Int) ≤ (m : Int) := by omega
          have o0 : wr.cell? ⟨ob, m, none⟩ = some (.int .i64 (outC f m 0 m)) := by rw [hs.out.2.2.cell, intA_get _ _ _ hmn]
          have o1 := hs.out.2.2.free m
          have HNX : Hid (Below qb w (wr.setCell ⟨ob, m, none⟩ (.int .i64 (-1))) ∧ Bk (wr.setCell ⟨ob, m, none⟩ (.int .i64 (-1))) qb 48 #[.int .i64 Nn, .int .i64 Fn, .slice Af nf cf] ∧ Bk (wr.setCell ⟨ob, m, none⟩ (.int .i64 (-1))) ob 3 (intA Nn (outC f m (cutP l fl Nn Fn vs 0 m)))) := Lib.hid
            ⟨hs.out.1.setCell (p := ⟨ob, m, none⟩) (Nat.le_of_lt HOB.out) _, hs.out.2.1.far (p := ⟨ob, m, none⟩) (Nat.ne_of_lt HOB.out) _, by rw [show cutP l fl Nn Fn vs 0 m = -1 from rfl, ← outC_set f Nn m 0 (-1)]; exact hs.out.2.2.set m _⟩
          obtain ⟨W5, hW5⟩ : ∃ W5, wr.setCell ⟨ob, m, none⟩ (.int .i64 (-1)) = W5 := ⟨_, rfl⟩
          rw [hW5] at HNX
          obtain ⟨bm, hbm⟩ : ∃ bm, hasB fl m = bm := ⟨_, rfl⟩
          have HBM := Lib.hid hbm
          clear hbm
          go_wp2_with fail
          try rw [hW5]
          clear hW5 o0 o1 q0
          go_loopw [12] (fun i w4 => ∃ j : Nat, j ≤ k ∧ i = .int .i64 j ∧ Hid (Below qb w w4 ∧ Bk w4 qb 48 #[.int .i64 Nn, .int .i64 Fn, .slice Af nf cf] ∧ Bk w4 ob 3 (intA Nn (outC f m (cutP l fl Nn Fn vs j m))))) (fun i _ => k - (intOf i).toNat)
          case atStart => exact ⟨0, Nat.zero_le _, rfl, HNX⟩
          case round =>
            clear HNX hs
            obtain ⟨j, hj, rfl, hs⟩ := hrel
            have HDONE : Hid (cutP l fl Nn Fn vs j m = f m → Below qb w wr ∧ Bk wr qb 48 #[.int .i64 Nn, .int .i64 Fn, .slice Af nf cf] ∧ Bk wr ob 3 (intA Nn (outC f (m + 1) 0))) := Lib.hid fun he => ⟨hs.out.1, hs.out.2.1, by
              have := hs.out.2.2
              rw [he, outC_next] at this; exact this⟩
            by_cases hjk : j < k
            · have hji : (j : Int) < (k : Int) := by omega
              have h0j : (0 : Int) ≤ (j : Int) := by omega
              obtain ⟨x, hx⟩ : ∃ x, cutP l fl Nn Fn vs j m = x := ⟨_, rfl⟩
              have HX := Lib.hid hx
              have o0 : wr.cell? ⟨ob, m, none⟩ = some (.int .i64 x) := by
                rw [hs.out.2.2.cell, intA_get _ _ _ hmn, hx]
                unfold outC
                rw [if_neg (Nat.lt_irrefl m), if_pos rfl]
              rw [hx] at HDONE
              clear hx
              by_cases hx0 : x < 0
              case neg =>
                have HEX := Lib.hid (HDONE.out (by
                  have h1 := cutP_stay (lies := l) (fl := fl) (N := Nn) (F := Fn) (vs := vs) (i := m) (k := j) (by rw [HX.out]; omega) (k - j)
                  rw [show j + (k - j) = k from by omega, HFE.out, HX.out] at h1
                  exact h1.symm))
                go_wp2_with fail
                go_roundw
                case rel => first | exact ⟨m + 1, by omega, by go_num, HEX⟩ | ((repeat apply Exists.intro); exact ⟨⟨m + 1, by omega, by go_num, HEX⟩, rfl⟩)
                case measure => simp [intOf]; omega
              have q2 : wr.cell? ⟨qb, 2, none⟩ = some (.slice Af nf cf) := hs.out.2.1.cell 2
              have HHM := Lib.hid (HHAS.out m wr hs.out.1)
              rw [HBM.out] at HHM
              cases bm with
              | true =>
                have HEX := Lib.hid (HDONE.out (by rw [← HX.out, ← HFE.out, cutP_bad HBM.out, cutP_bad HBM.out]))
                go_wp2_with fail
                refine HHM.out.mono ?_
                rintro e w6 ⟨rfl, rfl⟩
                go_wp2_with fail
                go_roundw
                case rel => first | exact ⟨m + 1, by omega, by go_num, HEX⟩ | ((repeat apply Exists.intro); exact ⟨⟨m + 1, by omega, by go_num, HEX⟩, rfl⟩)
                case measure => simp [intOf]; omega
              | false =>
                have HRO := Lib.hid (HROWS.out j hjk)
                obtain ⟨bb, off, rfl, _, d0⟩ := Sl.at1 (Sl.below HVR.out (by rw [HQB.out]; exact hs.out.1)) (i := j) (by rw [HNV.out]; exact hjk)
                have hrd := Sl.mono (Sl.below (HVI.out j (by rw [HNV.out]; exact hjk)) (w' := wr) (by rw [HQB.out]; exact hs.out.1)) hs.out.1.size
                try dsimp only at d0
                obtain ⟨row, hrow⟩ : ∃ row, rowAt vs j = row := ⟨_, rfl⟩
                have HCS : Hid (cutP l fl Nn Fn vs (j + 1) m = frameP l fl Nn Fn row j x m) := Lib.hid (by show frameP l fl Nn Fn (rowAt vs j) j (cutP l fl Nn Fn vs j m) m = _; rw [hrow, HX.out])
                rw [hrow] at d0 hrd HRO
                have hrl : row.length = Nn := by
                  have := HRO.out
                  unfold rowOk at this
                  rw [Bool.and_eq_true, decide_eq_true_eq] at this
                  omega
                rw [hrl] at d0
                obtain ⟨pk, hpk⟩ : ∃ pk, P j = pk := ⟨_, rfl⟩
                obtain ⟨ck, hck⟩ : ∃ ck, cc j = ck := ⟨_, rfl⟩
                rw [hpk, hck] at d0
                rw [hpk] at hrd
                have HCX := Lib.hid fun z : Ext wr => HCU.out j pk ck row m z.w (HTR.out _ _ hs.out.1 z.h) (Sl.mono (Sl.below hrd z.h) z.h.size) hrl
                obtain ⟨bc, hbc⟩ : ∃ bc, decide ((Fn : Int) < yesP (learnB Nn Fn j l) fl Nn Fn row Nn m) = bc := ⟨_, rfl⟩
                rw [hbc] at HCX
                have HCV : Hid (cutP l fl Nn Fn vs (j + 1) m = if bc = true then (j : Int) else x) := Lib.hid (by
                  rw [HCS.out]
                  unfold frameP
                  rw [← hbc]
                  by_cases hy : (Fn : Int) < yesP (learnB Nn Fn j l) fl Nn Fn row Nn m
                  · rw [if_pos ⟨hx0, hy, HBM.out⟩, decide_eq_true hy, if_pos rfl]
                  · rw [if_neg (fun h => hy h.2.1), decide_eq_false hy, if_neg (by decide)])
                have x0 : ∀ z : Ext wr, z.w.cell? ⟨qb, 0, none⟩ = some (.int .i64 Nn) := Ext.cell (hs.out.2.1.cell 0)
                have x1 : ∀ z : Ext wr, z.w.cell? ⟨qb, 1, none⟩ = some (.int .i64 Fn) := Ext.cell (hs.out.2.1.cell 1)
                have x2 : ∀ z : Ext wr, z.w.cell? ⟨qb, 2, none⟩ = some (.slice Af nf cf) := Ext.cell q2
                have x3 : ∀ z : Ext wr, z.w.cell? ⟨bb, off + j, none⟩ = some (.slice pk Nn ck) := Ext.cell d0
                clear hrd hrow hrl hpk hck hbc
                go_wp2_with fail
                refine HHM.out.mono ?_
                rintro e w6 ⟨rfl, hw6⟩
                rw [hw6]
                clear hw6
                go_wp2_with fail
                refine wp_region_ext_quiet (by kernel_rfl) (by kernel_rfl) ?_
                repeat (go_big_quiet_step ((go_at_call 67; exact Ext.calls (HCX.out _))))
                refine wpQuiet_nil ?_
                intro w7 hb7
                have HB7 := Lib.hid (HTR.out _ _ hs.out.1 hb7)
                have HK7 := Lib.hid (hs.out.2.1.below hb7 hs.out.2.1.lt)
                have HO7 := Lib.hid (hs.out.2.2.below hb7 hs.out.2.2.lt)
                have o0 : w7.cell? ⟨ob, m, none⟩ = some (.int .i64 x) := by
                  rw [HO7.out.cell, intA_get _ _ _ hmn, HX.out]
                  unfold outC
                  rw [if_neg (Nat.lt_irrefl m), if_pos rfl]
                have o1 := HO7.out.free m
                clear x0 x1 x2 x3 d0 q2 hb7
                cases bc with
                | false =>
                  have HNY : Hid (Below qb w w7 ∧ Bk w7 qb 48 #[.int .i64 Nn, .int .i64 Fn, .slice Af nf cf] ∧ Bk w7 ob 3 (intA Nn (outC f m (cutP l fl Nn Fn vs (j + 1) m)))) := Lib.hid ⟨HB7.out, HK7.out, by
                    rw [HCV.out]
                    have := HO7.out
                    rw [HX.out] at this; exact this⟩
                  go_wp2_with fail
                  go_roundw
                  case rel => first | exact ⟨j + 1, by omega, by go_num, HNY⟩ | ((repeat apply Exists.intro); exact ⟨⟨j + 1, by omega, by go_num, HNY⟩, rfl⟩)
                  case measure => simp [intOf]; omega
                | true =>
                  have HNY : Hid (Below qb w (w7.setCell ⟨ob, m, none⟩ (.int .i64 j)) ∧ Bk (w7.setCell ⟨ob, m, none⟩ (.int .i64 j)) qb 48 #[.int .i64 Nn, .int .i64 Fn, .slice Af nf cf] ∧ Bk (w7.setCell ⟨ob, m, none⟩ (.int .i64 j)) ob 3 (intA Nn (outC f m (cutP l fl Nn Fn vs (j + 1) m)))) := Lib.hid
                    ⟨HB7.out.setCell (p := ⟨ob, m, none⟩) (Nat.le_of_lt HOB.out) _, HK7.out.far (p := ⟨ob, m, none⟩) (Nat.ne_of_lt HOB.out) _, by
                      rw [HCV.out, if_pos rfl, ← outC_set f Nn m (cutP l fl Nn Fn vs j m) j]; exact HO7.out.set m _⟩
                  obtain ⟨w8, hw8⟩ : ∃ w8, w7.setCell ⟨ob, m, none⟩ (.int .i64 j) = w8 := ⟨_, rfl⟩
                  rw [hw8] at HNY
                  go_wp2_with fail
                  try rw [hw8]
                  clear hw8 o0 o1
                  go_roundw
                  case rel => first | exact ⟨j + 1, by omega, by go_num, HNY⟩ | ((repeat apply Exists.intro); exact ⟨⟨j + 1, by omega, by go_num, HNY⟩, rfl⟩)
                  case measure => simp [intOf]; omega
            · obtain rfl : j = k := by omega
              have HEX := Lib.hid (HDONE.out (HFE.out m))
              go_wp2_with fail
              go_roundw
              case rel => first | exact ⟨m + 1, by omega, by go_num, HEX⟩ | ((repeat apply Exists.intro); exact ⟨⟨m + 1, by omega, by go_num, HEX⟩, rfl⟩)
              case measure => simp [intOf]; omega
        · obtain rfl : m = Nn := by omega
          have HOL : Hid (Bk wr ob 3 (intA m f)) := Lib.hid (by have := hs.out.2.2; rw [outC_last] at this; exact this)
          go_wp2_with fail
          exact HGD.out m f ob _ HOK.out (by omega) HOL.out (Nat.le_of_lt HOB.out) hs.out.1
end Go.Proofs.Ytnmccbjdfdbgpaa
