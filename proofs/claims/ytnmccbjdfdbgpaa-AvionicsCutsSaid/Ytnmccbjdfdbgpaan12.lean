/- What is proved: the texts Br Bs, one behind the other; each says at its head what it proves, and under which conditions. -/
import Derived.Test.Ytnmccbjdfdbgpaan11
/- What is proved: the plain law of AvionicsOnce: when loyal strings cut. Conditions: those that each lemma states. -/
namespace Go.Proofs.Ytnmccbjdfdbgpaa
open Go.RowKit

/-- The loyal ones' votes of a frame, summed; how many loyal ones there are. -/
def sumG (fl row : List Int) : Nat → Int
  | 0 => 0
  | k + 1 => if hasB fl (k : Nat) then sumG fl row k else sumG fl row k + getI row k
def loyK (fl : List Int) : Nat → Nat
  | 0 => 0
  | k + 1 => if hasB fl (k : Nat) then loyK fl k else loyK fl k + 1
def oneK (fl : List Int) (vs : List (List Int)) (N : Nat) : Nat → Int
  | 0 => -1
  | k + 1 => if 0 < sumG fl (rowAt vs k) N ∧ oneK fl vs N k < 0 then k else oneK fl vs N k
def allK (fl : List Int) (vs : List (List Int)) (N : Nat) : Nat → Int
  | 0 => -1
  | k + 1 => if sumG fl (rowAt vs k) N = loyK fl N ∧ allK fl vs N k < 0 then k else allK fl vs N k
theorem loyK_le (fl : List Int) : ∀ k, loyK fl k ≤ k
  | 0 => Nat.le_refl _
  | k + 1 => by have := loyK_le fl k; unfold loyK; split <;> omega
theorem sumG_bd {fl row : List Int} {N : Nat} (h : ∀ i, i < N → 0 ≤ getI row i ∧ getI row i ≤ 1) : ∀ k, k ≤ N → 0 ≤ sumG fl row k ∧ sumG fl row k ≤ loyK fl k
  | 0, _ => by simp [sumG, loyK]
  | k + 1, hk => by
    have h1 := sumG_bd (fl := fl) h k (by omega)
    have h2 := h k (by omega)
    unfold sumG loyK
    split <;> omega
theorem sumG_ge {fl row : List Int} {N : Nat} (h : ∀ i, i < N → 0 ≤ getI row i ∧ getI row i ≤ 1) {g : Nat} (hg : hasB fl g = false) : ∀ k, k ≤ N → g < k → getI row g ≤ sumG fl row k
  | 0, _, hk => absurd hk (by omega)
  | k + 1, hN, hk => by
    have h1 := sumG_bd (fl := fl) h k (by omega)
    have h2 := h k (by omega)
    unfold sumG
    by_cases e : g = k
    · subst e; rw [hg]; simp; omega
    · have := sumG_ge h hg k (by omega) (by omega)
      split <;> omega
theorem sumG_all {fl row : List Int} {N : Nat} (h : ∀ i, i < N → 0 ≤ getI row i ∧ getI row i ≤ 1) : ∀ k, k ≤ N → sumG fl row k = loyK fl k → ∀ g, g < k → hasB fl g = false → getI row g = 1
  | 0, _, _, g, hg, _ => absurd hg (by omega)
  | k + 1, hN, he, g, hg, hb => by
    have h1 := sumG_bd (fl := fl) h k (by omega)
    have h2 := h k (by omega)
    unfold sumG loyK at he
    by_cases e : g = k
    · subst e; rw [hb] at he; simp at he; omega
    · refine sumG_all h k (by omega) ?_ g (by omega) hb
      split at he <;> omega
theorem oneK_lt (fl : List Int) (vs : List (List Int)) (N : Nat) : ∀ k, -1 ≤ oneK fl vs N k ∧ oneK fl vs N k < k
  | 0 => by simp [oneK]
  | k + 1 => by have := oneK_lt fl vs N k; unfold oneK; split <;> omega
theorem oneK_le {fl : List Int} {vs : List (List Int)} {N f : Nat} (hf : 0 < sumG fl (rowAt vs f) N) : ∀ k, f < k → 0 ≤ oneK fl vs N k ∧ oneK fl vs N k ≤ f
  | 0, h => absurd h (by omega)
  | k + 1, h => by
    have h1 := oneK_lt fl vs N k
    unfold oneK
    by_cases e : f = k
    · subst e; split <;> omega
    · have := oneK_le hf k (by omega)
      rw [if_neg (by omega)]; exact this
theorem allK_lt (fl : List Int) (vs : List (List Int)) (N : Nat) : ∀ k, -1 ≤ allK fl vs N k ∧ allK fl vs N k < k
  | 0 => by simp [allK]
  | k + 1 => by have := allK_lt fl vs N k; unfold allK; split <;> omega
theorem allK_at {fl : List Int} {vs : List (List Int)} {N : Nat} : ∀ k, 0 ≤ allK fl vs N k → ∃ f : Nat, f < k ∧ allK fl vs N k = f ∧ sumG fl (rowAt vs f) N = loyK fl N
  | 0, h => by simp [allK] at h
  | k + 1, h => by
    unfold allK at h ⊢
    by_cases c : sumG fl (rowAt vs k) N = loyK fl N ∧ allK fl vs N k < 0
    · rw [if_pos c]; exact ⟨k, by omega, rfl, c.1⟩
    · rw [if_neg c] at h ⊢
      obtain ⟨f, h1, h2, h3⟩ := allK_at k h
      exact ⟨f, by omega, h2, h3⟩
/-- What holds of a council that is valid. -/
structure CounOk (N F : Nat) (fl : List Int) : Prop where
  n3 : 3 * F < N
  len : fl.length ≤ F
theorem filter_le {p q : Nat → Bool} (N : Nat) (h : ∀ g, g < N → p g = true → q g = true) : ((List.range N).filter p).length ≤ ((List.range N).filter q).length := by
  rw [← List.countP_eq_length_filter, ← List.countP_eq_length_filter]
  exact List.countP_mono_left fun x hx hp => h x (List.mem_range.1 hx) hp
theorem filter_split (p : Nat → Bool) (N : Nat) : ((List.range N).filter p).length + ((List.range N).filter fun x => !p x).length = N := by
  have h := filter_len (fun _ => true) p (List.range N)
  have e : (List.range N).filter (fun _ => true) = List.range N := List.filter_eq_self.2 fun _ _ => rfl
  rw [e, List.length_range] at h
  exact h.symm
theorem dec_good {N F : Nat} {fl : List Int} {frame : Int} {lies : List LieD} {v : Int} (h : CounOk N F fl) {g i : Nat} (hg : g < N) (hi : i < N) (hgb : hasB fl g = false) (hib : hasB fl i = false) : decP (learnB N F frame lies) fl N F v g i = v := by
  rw [dec_link hg]
  exact decide_good (t := talkD N F fl frame lies v) (by show 3 * F < N; exact h.n3) (bad_count h.len) hg hi hgb hib
theorem dec_same {N F : Nat} {fl : List Int} {frame : Int} {lies : List LieD} {v : Int} (h : CounOk N F fl) {g i j : Nat} (hg : g < N) (hi : i < N) (hj : j < N) (hib : hasB fl i = false) (hjb : hasB fl j = false) :
    decP (learnB N F frame lies) fl N F v g i = decP (learnB N F frame lies) fl N F v g j := by
  rw [dec_link hg, dec_link hg]
  exact decide_same (t := talkD N F fl frame lies v) (by show 3 * F < N; exact h.n3) (bad_count h.len) hg hi hj hib hjb
theorem yes_good {N F : Nat} {fl row : List Int} {frame : Int} {lies : List LieD} (h : CounOk N F fl) {i : Nat} (hi : i < N) (hib : hasB fl i = false) (hy : (F : Int) < yesP (learnB N F frame lies) fl N F row N i) :
    ∃ g, g < N ∧ hasB fl g = false ∧ getI row g = 1 := by
  apply Classical.byContradiction
  intro hn
  have h1 : ((List.range N).filter fun (g : Nat) => decide (decP (learnB N F frame lies) fl N F (getI row g) g i = 1)).length ≤ ((List.range N).filter fun (g : Nat) => hasB fl (g : Int)).length := filter_le N fun g hg hp => by
    cases hb : hasB fl (g : Int) with
    | true => rfl
    | false =>
      rw [dec_good h hg hi hb hib] at hp
      exact absurd ⟨g, hg, hb, by simpa using hp⟩ hn
  have h2 : ((List.range N).filter fun (g : Nat) => hasB fl (g : Int)).length ≤ F := bad_count (N := N) (F := F) (fl := fl) (frame := frame) (lies := lies) (value := 0) h.len
  unfold yesP at hy
  omega
theorem yes_all {N F : Nat} {fl row : List Int} {frame : Int} {lies : List LieD} (h : CounOk N F fl) {i : Nat} (hi : i < N) (hib : hasB fl i = false) (hr : ∀ g, g < N → hasB fl g = false → getI row g = 1) :
    (F : Int) < yesP (learnB N F frame lies) fl N F row N i := by
  have h1 : ((List.range N).filter fun (g : Nat) => !hasB fl (g : Int)).length ≤ ((List.range N).filter fun (g : Nat) => decide (decP (learnB N F frame lies) fl N F (getI row g) g i = 1)).length := filter_le N fun g hg hp => by
    have hb : hasB fl (g : Int) = false := by simpa using hp
    rw [dec_good h hg hi hb hib, hr g hg hb]; rfl
  have h2 : ((List.range N).filter fun (g : Nat) => hasB fl (g : Int)).length ≤ F := bad_count (N := N) (F := F) (fl := fl) (frame := frame) (lies := lies) (value := 0) h.len
  have h3 := filter_split (fun (g : Nat) => hasB fl (g : Int)) N
  have h4 := h.n3
  unfold yesP
  omega
section
variable {N F : Nat} {fl : List Int} {vs : List (List Int)} {lies : List LieD}
theorem cutP_bad {i : Nat} (hb : hasB fl i = true) : ∀ k, cutP lies fl N F vs k i = -1
  | 0 => rfl
  | k + 1 => by
    unfold cutP frameP
    rw [cutP_bad hb k, if_neg (fun h => by rw [h.2.2] at hb; cases hb)]
theorem yes_same (h : CounOk N F fl) {row : List Int} {frame : Int} {i j : Nat} (hi : i < N) (hj : j < N) (hib : hasB fl i = false) (hjb : hasB fl j = false) : yesP (learnB N F frame lies) fl N F row N i = yesP (learnB N F frame lies) fl N F row N j := by
  unfold yesP
  congr 2
  refine List.filter_congr fun g hg => ?_
  rw [dec_same h (List.mem_range.1 hg) hi hj hib hjb]
theorem cutP_same (h : CounOk N F fl) {i j : Nat} (hi : i < N) (hj : j < N) (hib : hasB fl i = false) (hjb : hasB fl j = false) : ∀ k, cutP lies fl N F vs k i = cutP lies fl N F vs k j
  | 0 => rfl
  | k + 1 => by
    unfold cutP frameP
    rw [cutP_same h hi hj hib hjb k, yes_same h hi hj hib hjb, hib, hjb]
theorem cutP_lt (i : Nat) : ∀ k, -1 ≤ cutP lies fl N F vs k i ∧ cutP lies fl N F vs k i < k
  | 0 => by simp [cutP]
  | k + 1 => by have := cutP_lt i k; unfold cutP frameP; split <;> omega
theorem cutP_at {i : Nat} : ∀ k, 0 ≤ cutP lies fl N F vs k i → ∃ f : Nat, f < k ∧ cutP lies fl N F vs k i = f ∧ (F : Int) < yesP (learnB N F f lies) fl N F (rowAt vs f) N i
  | 0, h => by simp [cutP] at h
  | k + 1, h => by
    unfold cutP frameP at h ⊢
    split at h
    · rename_i c; rw [if_pos c]; exact ⟨k, by omega, rfl, c.2.1⟩
    · rename_i c
      rw [if_neg c]
      obtain ⟨f, h1, h2, h3⟩ := cutP_at k h
      exact ⟨f, by omega, h2, h3⟩
theorem cutP_le {i f : Nat} (hib : hasB fl i = false) (hy : (F : Int) < yesP (learnB N F f lies) fl N F (rowAt vs f) N i) : ∀ k, f < k → 0 ≤ cutP lies fl N F vs k i ∧ cutP lies fl N F vs k i ≤ f
  | 0, h => absurd h (by omega)
  | k + 1, h => by
    have h1 := cutP_lt (lies := lies) (fl := fl) (N := N) (F := F) (vs := vs) i k
    unfold cutP frameP
    by_cases e : f = k
    · subst e
      by_cases c : cutP lies fl N F vs f i < 0
      · rw [if_pos ⟨c, hy, hib⟩]; omega
      · rw [if_neg (fun h => c h.1)]; omega
    · have := cutP_le hib hy k (by omega)
      rw [if_neg (by omega)]; exact this
end
theorem cut_err {N F : Int} {fl : List Int} {vs : List (List Int)} {l : List LieD} (h : ¬ (cutB N F fl vs l).2 = 0) : (cutB N F fl vs l).1 = [] := by
  unfold cutB at h ⊢
  split
  · rfl
  · rename_i h1; rw [if_neg h1] at h
    split
    · rfl
    · rename_i h2; rw [if_neg h2] at h
      split
      · rfl
      · rename_i h3; rw [if_neg h3] at h; exact absurd rfl h
/-- What the frames of a valid call are like. -/
structure OnceOk (N F : Int) (fl : List Int) (vs : List (List Int)) (out : List Int) (Nn Fn : Nat) : Prop where
  N : N = Nn
  F : F = Fn
  b : 1 ≤ Nn ∧ Nn ≤ 7
  m : vs.length ≤ 20
  len : out.length = Nn
  row : ∀ k, k < vs.length → (rowAt vs k).length = Nn ∧ ∀ i, i < Nn → 0 ≤ getI (rowAt vs k) i ∧ getI (rowAt vs k) i ≤ 1
  bad : ∀ i : Nat, i < Nn → hasB fl i = true → getI out i = -1
  good : ∀ i : Nat, i < Nn → hasB fl i = false → -1 ≤ getI out i ∧ (0 ≤ getI out i → 0 ≤ oneK fl vs Nn vs.length ∧ oneK fl vs Nn vs.length ≤ getI out i) ∧ (0 ≤ allK fl vs Nn vs.length → 0 ≤ getI out i ∧ getI out i ≤ allK fl vs Nn vs.length)
  same : ∀ i j : Nat, i < Nn → j < Nn → hasB fl i = false → hasB fl j = false → getI out i = getI out j
theorem once_ok {N F : Int} {fl : List Int} {vs : List (List Int)} {l : List LieD} (h : (cutB N F fl vs l).2 = 0) : ∃ Nn Fn, OnceOk N F fl vs (cutB N F fl vs l).1 Nn Fn := by
  unfold cutB at h ⊢
  split
  · rename_i h1; rw [if_pos h1] at h; cases h
  · rename_i h1; rw [if_neg h1] at h
    split
    · rename_i h2; rw [if_pos h2] at h; cases h
    · rename_i h2; rw [if_neg h2] at h
      split
      · rename_i h3; rw [if_pos h3] at h; cases h
      · rename_i h3
        have hc : councilB N F fl = true := by simpa using h1
        have hr : (allN vs.length fun k => rowOk N (rowAt vs k)) = true := by simpa using h3
        obtain ⟨c1, c2, c3, c4, c5, c6, _⟩ := council_ok hc
        obtain ⟨Nn, rfl⟩ : ∃ Nn : Nat, N = Nn := ⟨N.toNat, by omega⟩
        obtain ⟨Fn, rfl⟩ : ∃ Fn : Nat, F = Fn := ⟨F.toNat, by omega⟩
        rw [Int.toNat_natCast, Int.toNat_natCast]
        have hco : CounOk Nn Fn fl := ⟨by omega, by omega⟩
        have hrow : ∀ k, k < vs.length → (rowAt vs k).length = Nn ∧ ∀ i, i < Nn → 0 ≤ getI (rowAt vs k) i ∧ getI (rowAt vs k) i ≤ 1 := fun k hk => by
          have := allN_iff.1 hr k hk
          unfold rowOk at this
          rw [Bool.and_eq_true, decide_eq_true_eq] at this
          have hl : (rowAt vs k).length = Nn := by omega
          exact ⟨hl, fun i hi => inB_iff.1 (allN_iff.1 this.2 i (by rw [hl]; exact hi))⟩
        refine ⟨Nn, Fn, rfl, rfl, by omega, by omega, by simp, hrow, fun i hi hb => ?_, fun i hi hb => ?_, fun i j hi hj hib hjb => ?_⟩
        · rw [mapI_get _ hi]; exact cutP_bad hb _
        · rw [mapI_get _ hi]
          refine ⟨(cutP_lt i _).1, fun h0 => ?_, fun h0 => ?_⟩
          · obtain ⟨f, hf, he, hy⟩ := cutP_at _ h0
            rw [he]
            obtain ⟨g, hg, hgb, hv⟩ := yes_good hco hi hb hy
            have := sumG_ge (fl := fl) (hrow f hf).2 hgb Nn (Nat.le_refl _) hg
            exact oneK_le (by omega) _ hf
          · obtain ⟨f, hf, he, hs⟩ := allK_at _ h0
            rw [he]
            exact cutP_le hb (yes_all hco hi hb (sumG_all (hrow f hf).2 Nn (Nat.le_refl _) hs)) _ hf
        · rw [mapI_get _ hi, mapI_get _ hj]
          exact cutP_same hco hi hj hib hjb _
end Go.Proofs.Ytnmccbjdfdbgpaa
/- What is proved: AvionicsOnce returns true, and makes only memory: the walk. Conditions: the council, the votes and the lies lie in memory. -/
namespace Go.Proofs.Ytnmccbjdfdbgpaa
open Go.RowKit

set_option maxRecDepth 100000 in
set_option maxHeartbeats 32000000 in
theorem once_any (w : World) (N F : Int) (Af : Option Addr) (cf : Nat) (fl : List Int) (hf : IntsAt w w.heap.size Af fl) (_hN : Wd N) (_hF : Wd F) (_hw : ∀ n ∈ fl, Wd n)
    (Av : Option Addr) (cv : Nat) (vs : List (List Int)) (hvs : RowsAt w w.heap.size Av vs) (_hv : ∀ r ∈ vs, ∀ n ∈ r, Wd n) (A : Option Addr) (c : Nat) (l : List LieD) (hl : LiesAt w w.heap.size A l) :
    Calls Try.prog 9 #[.agg #[.int .i64 N, .int .i64 F, .slice Af fl.length cf], .slice Av vs.length cv, .slice A l.length c] w fun e w' => e = .returned (.bool true) ∧ Below w.heap.size w w' := by
  clear _hN _hF _hw _hv
  have hll := hl.len
  have hlv := hvs.len
  have hfl := hf.1
  obtain ⟨qb, hqb⟩ : ∃ qb, w.heap.size = qb := ⟨_, rfl⟩
  have HQB := Lib.hid hqb
  have HTR : Hid (∀ a b, Below qb w a → Below a.heap.size a b → Below qb w b) := Lib.hid fun _ _ h1 h2 => h1.trans (h2.mono (by rw [← hqb]; exact h1.size))
  have HFIN : Hid (∀ (e : Ending) (w' : World), e = .returned (.bool true) → Below qb w w' → e = .returned (.bool true) ∧ Below qb w w') := Lib.hid fun _ _ a b => ⟨a, b⟩
  have HAG := Lib.hid fun (w1 : World) (hb : Below qb w w1) => cutOff_any w1 N F Af cf fl Av cv vs A c l (Sl.mono (Sl.below hf (by rw [hqb]; exact hb)) hb.size) (by
    have h1 := hvs.below (w' := w1) (by rw [hqb]; exact hb)
    obtain ⟨P, cc, h2, h3⟩ := h1.sl
    exact ⟨P, cc, Sl.mono h2 hb.size, fun i hi => Sl.mono (h3 i hi) hb.size⟩) ((hl.below (by rw [hqb]; exact hb)).mono hb.size)
  have HGR := Lib.hid fun (w1 : World) (hb : Below qb w w1) => great_any w1 A c l ((hl.below (by rw [hqb]; exact hb)).mono hb.size)
  have HWI := Lib.hid fun (w1 : World) (hb : Below qb w w1) => wide_any w1 Av cv vs (by
    have h1 := hvs.below (w' := w1) (by rw [hqb]; exact hb)
    obtain ⟨P, cc, h2, h3⟩ := h1.sl
    exact ⟨P, cc, Sl.mono h2 hb.size, fun i hi => Sl.mono (h3 i hi) hb.size⟩)
  have HFA := Lib.hid fun (w1 : World) (hb : Below qb w w1) (x : Int) => lawFaulty_any w1 N F Af cf fl x (Sl.mono (Sl.below hf (by rw [hqb]; exact hb)) hb.size)
  obtain ⟨P, cc, hvr, hvi⟩ := hvs.sl
  have HVR := Lib.hid hvr
  have HVI := Lib.hid hvi
  obtain ⟨nl, hnl⟩ : ∃ nl, l.length = nl := ⟨_, rfl⟩
  obtain ⟨nf, hnf⟩ : ∃ nf, fl.length = nf := ⟨_, rfl⟩
  obtain ⟨nv, hnv⟩ : ∃ nv, vs.length = nv := ⟨_, rfl⟩
  have HNV := Lib.hid hnv
  have HER := Lib.hid (cut_err (N := N) (F := F) (fl := fl) (vs := vs) (l := l))
  have HOK := Lib.hid (once_ok (N := N) (F := F) (fl := fl) (vs := vs) (l := l))
  obtain ⟨R, hR⟩ : ∃ R, cutB N F fl vs l = R := ⟨_, rfl⟩
  rw [hR] at HER HOK HAG
  obtain ⟨W0, hW0⟩ : ∃ W0, w.alloc (.cells #[.int .i64 N, .int .i64 F, .slice Af nf cf] 48) = W0 := ⟨_, rfl⟩
  have HB0 : Hid (Below qb w W0) := Lib.hid (by rw [← hW0, ← hqb]; exact (Below.refl _ w).alloc (Nat.le_refl _) _)
  have HK0 : Hid (Bk W0 qb 48 #[.int .i64 N, .int .i64 F, .slice Af nf cf]) := Lib.hid (by rw [← hW0, ← hqb]; exact Bk.new _ _ _)
  rw [hnl] at hll HAG HGR ⊢
  rw [hnf] at hfl HAG HFA ⊢
  rw [hnv] at hlv HAG HWI ⊢
  rw [hqb]
  clear hf hl hnl hnf hR hvs hvr hvi hnv
  go_enter Try.func9, Try.ntmps9
  go_upto_region 1 with (fail)
  clear hqb hW0
  have k2 : W0.cell? ⟨qb, 2, none⟩ = some (.slice Af nf cf) := HK0.out.cell 2
  by_cases h11 : 1100 < nl
  · have h11i : (1100 : Int) < (nl : Int) := by omega
    go_wp2_with fail
    refine (awake_any _).mono ?_
    rintro e w1 ⟨rfl, hb1⟩
    go_wp2_with fail
    go_ret
    exact HFIN.out _ _ rfl (HTR.out _ _ HB0.out hb1)
  have h11i : ¬ (1100 : Int) < (nl : Int) := by omega
  go_wp2_with fail
  refine (HGR.out _ HB0.out).mono ?_
  rintro e w1 ⟨b, rfl, hb1⟩
  have HB1 := Lib.hid (HTR.out _ _ HB0.out hb1)
  have HK1 := Lib.hid (HK0.out.below hb1 HK0.out.lt)
  clear hb1 k2 HGR
  have k2 : w1.cell? ⟨qb, 2, none⟩ = some (.slice Af nf cf) := HK1.out.cell 2
  cases b with
  | true =>
    go_wp2_with fail
    refine (awake_any _).mono ?_
    rintro e w2 ⟨rfl, hb2⟩
    go_wp2_with fail
    go_ret
    exact HFIN.out _ _ rfl (HTR.out _ _ HB1.out hb2)
  | false =>
  by_cases h20 : 20 < nf
  · have h20i : (20 : Int) < (nf : Int) := by omega
    go_wp2_with fail
    refine (awake_any _).mono ?_
    rintro e w2 ⟨rfl, hb2⟩
    go_wp2_with fail
    go_ret
    exact HFIN.out _ _ rfl (HTR.out _ _ HB1.out hb2)
  have h20i : ¬ (20 : Int) < (nf : Int) := by omega
  by_cases h25 : 25 < nv
  · have h25i : (25 : Int) < (nv : Int) := by omega
    go_wp2_with fail
    refine (awake_any _).mono ?_
    rintro e w2 ⟨rfl, hb2⟩
    go_wp2_with fail
    go_ret
    exact HFIN.out _ _ rfl (HTR.out _ _ HB1.out hb2)
  have h25i : ¬ (25 : Int) < (nv : Int) := by omega
  go_wp2_with fail
  refine (HWI.out _ HB1.out).mono ?_
  rintro e w2 ⟨b, rfl, hb2⟩
  have HB2 := Lib.hid (HTR.out _ _ HB1.out hb2)
  have HK2 := Lib.hid (HK1.out.below hb2 HK1.out.lt)
  clear hb2 k2 HWI
  cases b with
  | true =>
    go_wp2_with fail
    refine (awake_any _).mono ?_
    rintro e w3 ⟨rfl, hb3⟩
    go_wp2_with fail
    go_ret
    exact HFIN.out _ _ rfl (HTR.out _ _ HB2.out hb3)
  | false =>
  have k0 : w2.cell? ⟨qb, 0, none⟩ = some (.int .i64 N) := HK2.out.cell 0
  have k1 : w2.cell? ⟨qb, 1, none⟩ = some (.int .i64 F) := HK2.out.cell 1
  have k2 : w2.cell? ⟨qb, 2, none⟩ = some (.slice Af nf cf) := HK2.out.cell 2
  go_wp2_with fail
  refine (HAG.out _ HB2.out).mono ?_
  rintro e w3 ⟨A3, c3, rfl, hcl3, hb3⟩
  have HB3 := Lib.hid (HTR.out _ _ HB2.out hb3)
  have HK3 := Lib.hid (HK2.out.below hb3 HK2.out.lt)
  have HO3 : Hid (IntsAt w3 w3.heap.size A3 R.1) := Lib.hid hcl3.sl
  obtain ⟨er, her⟩ : ∃ er, R.2 = er := ⟨_, rfl⟩
  rw [her] at HER HOK
  rw [her]
  clear hb3 hcl3 k0 k1 k2 her HAG
  by_cases he : er = 0
  case neg =>
    rw [show R.1.length = 0 from by rw [HER.out he]; rfl]
    go_wp2_with fail
    refine (awake_any _).mono ?_
    rintro e w4 ⟨rfl, hb4⟩
    go_wp2_with fail
    go_ret
    exact HFIN.out _ _ rfl (HTR.out _ _ HB3.out hb4)
  subst he
  obtain ⟨Nn, Fn, hok⟩ := HOK.out rfl
  obtain ⟨rfl, rfl⟩ := And.intro hok.N hok.F
  have HAO := Lib.hid hok
  have hlen := hok.len
  have hNb := hok.b
  have hm20 := hok.m
  rw [HNV.out] at hm20
  rw [hlen]
  have k0 : w3.cell? ⟨qb, 0, none⟩ = some (.int .i64 Nn) := HK3.out.cell 0
  obtain ⟨out, hout⟩ : ∃ out, R.1 = out := ⟨_, rfl⟩
  rw [hout] at HO3 HAO
  have HLO : Hid (out.length = Nn) := Lib.hid (by rw [← hout]; exact hlen)
  clear hok hlen hout HER HOK
  go_wp2_with fail
  clear k0
  go_loopw [9, 10, 11] (fun v1 v2 i wr => ∃ k : Nat, k ≤ nv ∧ i = .int .i64 k ∧ v1 = .int .i64 (oneK fl vs Nn k) ∧ v2 = .int .i64 (allK fl vs Nn k) ∧ Hid (Below w3.heap.size w3 wr)) (fun _ _ i _ => nv - (intOf i).toNat)
  case atStart => exact ⟨0, Nat.zero_le _, rfl, rfl, rfl, Lib.hid (Below.refl _ _)⟩
  case round =>
    obtain ⟨k, hk, rfl, rfl, rfl, hs⟩ := hrel
    have hob := oneK_lt fl vs Nn k
    have hab := allK_lt fl vs Nn k
    have HOS : Hid (oneK fl vs Nn (k + 1) = if 0 < sumG fl (rowAt vs k) Nn ∧ oneK fl vs Nn k < 0 then (k : Int) else oneK fl vs Nn k) := Lib.hid rfl
    have HAS : Hid (allK fl vs Nn (k + 1) = if sumG fl (rowAt vs k) Nn = loyK fl Nn ∧ allK fl vs Nn k < 0 then (k : Int) else allK fl vs Nn k) := Lib.hid rfl
    by_cases hlt : k < nv
    · have hki : (k : Int) < (nv : Int) := by omega
      have h0k : (0 : Int) ≤ (k : Int) := by omega
      obtain ⟨on, hon⟩ : ∃ on, oneK fl vs Nn k = on := ⟨_, rfl⟩
      obtain ⟨al, hal⟩ : ∃ al, allK fl vs Nn k = al := ⟨_, rfl⟩
      rw [hon] at HOS hob ⊢
      rw [hal] at HAS hab ⊢
      obtain ⟨row, hrow⟩ : ∃ row, rowAt vs k = row := ⟨_, rfl⟩
      have hrk := HAO.out.row k (by rw [HNV.out]; exact hlt)
      rw [hrow] at HOS HAS hrk
      have HROW := Lib.hid hrow
      have HRV := Lib.hid hrk.2
      have HRL := Lib.hid hrk.1
      obtain ⟨wo, hwo⟩ : ∃ wo, wr = wo := ⟨_, rfl⟩
      rw [hwo] at hs ⊢
      clear hon hal hrow hrk hwo
      go_wp2_with fail
      go_loopw [12, 13, 14] (fun v1 v2 i w4 => ∃ j : Nat, j ≤ Nn ∧ i = .int .i64 j ∧ v1 = .int .i64 (sumG fl row j) ∧ v2 = .int .i64 (loyK fl j : Nat) ∧ Hid (Below w3.heap.size w3 w4)) (fun _ _ i _ => Nn - (intOf i).toNat)
      case atStart => exact ⟨0, Nat.zero_le _, rfl, rfl, rfl, hs⟩
      case round =>
        clear hs
        obtain ⟨j, hj, rfl, rfl, rfl, hs⟩ := hrel
        have hsb := sumG_bd (fl := fl) HRV.out j hj
        have hlb := loyK_le fl j
        have HSS : Hid (sumG fl row (j + 1) = if hasB fl (j : Nat) then sumG fl row j else sumG fl row j + getI row j) := Lib.hid rfl
        have HLS : Hid (loyK fl (j + 1) = if hasB fl (j : Nat) then loyK fl j else loyK fl j + 1) := Lib.hid rfl
        have HBR := Lib.hid (HTR.out _ _ HB3.out hs.out)
        have HKR := Lib.hid (HK3.out.below hs.out HK3.out.lt)
        have k0 : wr.cell? ⟨qb, 0, none⟩ = some (.int .i64 Nn) := HKR.out.cell 0
        by_cases hjn : j < Nn
        · have hji : (j : Int) < (Nn : Int) := by omega
          have h0j : (0 : Int) ≤ (j : Int) := by omega
          obtain ⟨sm, hsm⟩ : ∃ sm, sumG fl row j = sm := ⟨_, rfl⟩
          obtain ⟨ly, hly⟩ : ∃ ly, loyK fl j = ly := ⟨_, rfl⟩
          rw [hsm] at hsb HSS ⊢
          rw [hly] at hsb hlb HLS ⊢
          have k1 : wr.cell? ⟨qb, 1, none⟩ = some (.int .i64 Fn) := HKR.out.cell 1
          have k2 : wr.cell? ⟨qb, 2, none⟩ = some (.slice Af nf cf) := HKR.out.cell 2
          obtain ⟨bj, hbj⟩ : ∃ bj, hasB fl j = bj := ⟨_, rfl⟩
          have HFK := Lib.hid (HFA.out wr HBR.out j)
          rw [hbj] at HFK HSS HLS
          clear hsm hly hbj
          go_wp2_with fail
          refine HFK.out.mono ?_
          rintro e w4 ⟨rfl, hb4⟩
          have HB4 := Lib.hid (hs.out.trans (hb4.mono hs.out.size))
          have HBR4 := Lib.hid (HTR.out _ _ HBR.out hb4)
          clear hb4 HFK k0 k1 k2
          cases bj with
          | true =>
            go_wp2_with fail
            go_roundw
            case rel => exact ⟨j + 1, by omega, by go_num, by rw [HSS.out]; rfl, by rw [HLS.out]; rfl, HB4⟩
            case measure => simp [intOf]; omega
          | false =>
            obtain ⟨bb, off, rfl, _, d0⟩ := Sl.at1 (Sl.below HVR.out (by rw [HQB.out]; exact HBR4.out)) (i := k) (by rw [HNV.out]; exact hlt)
            have hrd := Sl.below (HVI.out k (by rw [HNV.out]; exact hlt)) (w' := w4) (by rw [HQB.out]; exact HBR4.out)
            try dsimp only at d0
            rw [HROW.out] at d0 hrd
            obtain ⟨b2, off2, hP, _, d1⟩ := Sl.at1 hrd (i := j) (by rw [HRL.out]; exact hjn)
            rw [hP, HRL.out] at d0
            obtain ⟨x, hx⟩ : ∃ x, getI row j = x := ⟨_, rfl⟩
            have hxb := HRV.out j hjn
            try dsimp only at d1
            rw [hx] at d1 hxb HSS
            obtain ⟨ck, hck⟩ : ∃ ck, cc k = ck := ⟨_, rfl⟩
            rw [hck] at d0
            clear hrd hP hx hck
            go_wp2_with fail
            go_roundw
            case rel => exact ⟨j + 1, by omega, by go_num, by rw [HSS.out]; rfl, by rw [HLS.out]; go_num, HB4⟩
            case measure => simp [intOf]; omega
        · obtain rfl : j = Nn := by omega
          obtain ⟨sm, hsm⟩ : ∃ sm, sumG fl row j = sm := ⟨_, rfl⟩
          obtain ⟨ly, hly⟩ : ∃ ly, loyK fl j = ly := ⟨_, rfl⟩
          rw [hsm] at hsb HOS HAS ⊢
          rw [hly] at hsb hlb HAS ⊢
          have hone : (0 < sm ∧ on < 0 ∧ oneK fl vs j (k + 1) = k) ∨ (0 < sm ∧ ¬ on < 0 ∧ oneK fl vs j (k + 1) = on) ∨ (¬ 0 < sm ∧ True ∧ oneK fl vs j (k + 1) = on) := by
            by_cases c1 : 0 < sm
            · by_cases c2 : on < 0
              · exact Or.inl ⟨c1, c2, by rw [HOS.out, if_pos ⟨c1, c2⟩]⟩
              · exact Or.inr (Or.inl ⟨c1, c2, by rw [HOS.out, if_neg (fun h => c2 h.2)]⟩)
            · exact Or.inr (Or.inr ⟨c1, trivial, by rw [HOS.out, if_neg (fun h => c1 h.1)]⟩)
          have hall : (sm = ly ∧ al < 0 ∧ allK fl vs j (k + 1) = k) ∨ (sm = ly ∧ ¬ al < 0 ∧ allK fl vs j (k + 1) = al) ∨ (¬ sm = ly ∧ True ∧ allK fl vs j (k + 1) = al) := by
            by_cases c1 : sm = ly
            · by_cases c2 : al < 0
              · exact Or.inl ⟨c1, c2, by rw [HAS.out, if_pos ⟨c1, c2⟩]⟩
              · exact Or.inr (Or.inl ⟨c1, c2, by rw [HAS.out, if_neg (fun h => c2 h.2)]⟩)
            · exact Or.inr (Or.inr ⟨c1, trivial, by rw [HAS.out, if_neg (fun h => c1 h.1)]⟩)
          clear hsm hly
          rcases hone with ⟨c1, c2, e1⟩ | ⟨c1, c2, e1⟩ | ⟨c1, c2, e1⟩ <;> rcases hall with ⟨c3, c4, e2⟩ | ⟨c3, c4, e2⟩ | ⟨c3, c4, e2⟩
          all_goals
            have HE1 := Lib.hid e1
            have HE2 := Lib.hid e2
            clear e1 e2
            go_wp2_with fail
            go_roundw
            case rel =>
              first
              | exact ⟨k + 1, by omega, by go_num, by rw [HE1.out], by rw [HE2.out], hs⟩
              | ((repeat apply Exists.intro); exact ⟨⟨k + 1, by omega, by go_num, by rw [HE1.out], by rw [HE2.out], hs⟩, rfl⟩)
            case measure => simp [intOf]; omega
    · obtain rfl : k = nv := by omega
      have HGD := Lib.hid HAO.out.good
      rw [HNV.out] at HGD
      obtain ⟨on, hon⟩ : ∃ on, oneK fl vs Nn k = on := ⟨_, rfl⟩
      obtain ⟨al, hal⟩ : ∃ al, allK fl vs Nn k = al := ⟨_, rfl⟩
      rw [hon, hal] at HGD
      rw [hon] at HOS hob ⊢
      rw [hal] at HAS hab ⊢
      obtain ⟨wo, hwo⟩ : ∃ wo, wr = wo := ⟨_, rfl⟩
      rw [hwo] at hs ⊢
      clear hon hal hwo HOS HAS
      go_wp2_with fail
      go_loopw [15, 16] (fun fr i w4 => ∃ j : Nat, j ≤ Nn ∧ i = .int .i64 j ∧ Hid (Below w3.heap.size w3 w4) ∧ ((fr = .int .i64 (-2) ∧ Hid (∀ a : Nat, a < j → hasB fl a = true)) ∨ ∃ f : Nat, f < j ∧ fr = .int .i64 (getI out f) ∧ hasB fl f = false)) (fun _ i _ => Nn - (intOf i).toNat)
      case atStart => exact ⟨0, Nat.zero_le _, rfl, hs, Or.inl ⟨rfl, Lib.hid fun j hj => absurd hj (Nat.not_lt_zero j)⟩⟩
      case round =>
        clear hs
        obtain ⟨j, hj, rfl, hs, hfr⟩ := hrel
        have HBR := Lib.hid (HTR.out _ _ HB3.out hs.out)
        have HKR := Lib.hid (HK3.out.below hs.out HK3.out.lt)
        have k0 : wr.cell? ⟨qb, 0, none⟩ = some (.int .i64 Nn) := HKR.out.cell 0
        by_cases hjn : j < Nn
        · have hji : (j : Int) < (Nn : Int) := by omega
          have h0j : (0 : Int) ≤ (j : Int) := by omega
          have k1 : wr.cell? ⟨qb, 1, none⟩ = some (.int .i64 Fn) := HKR.out.cell 1
          have k2 : wr.cell? ⟨qb, 2, none⟩ = some (.slice Af nf cf) := HKR.out.cell 2
          obtain ⟨bj, hbj⟩ : ∃ bj, hasB fl j = bj := ⟨_, rfl⟩
          have HBJ := Lib.hid hbj
          have HFK := Lib.hid (HFA.out wr HBR.out j)
          rw [hbj] at HFK
          clear hbj
          go_wp2_with fail
          refine HFK.out.mono ?_
          rintro e w4 ⟨rfl, hb4⟩
          have HB4 := Lib.hid (hs.out.trans (hb4.mono hs.out.size))
          have HBR4 := Lib.hid (HTR.out _ _ HBR.out hb4)
          obtain ⟨bb, off, hA3, _, d0⟩ := Sl.at1 (Sl.below HO3.out HB4.out) (i := j) (by rw [HLO.out]; exact hjn)
          try dsimp only at d0
          subst hA3
          clear hb4 HFK k0 k1 k2
          cases bj with
          | true =>
            rw [HAO.out.bad j hjn HBJ.out] at d0
            go_wp2_with fail
            go_roundw
            case rel => exact ⟨j + 1, by omega, by go_num, HB4, by
              rcases hfr with ⟨h1, h2⟩ | ⟨f, h1, h2, h3⟩
              · exact Or.inl ⟨h1, Lib.hid fun a ha => by
                  by_cases e : a = j
                  · subst e; exact HBJ.out
                  · exact h2.out a (by omega)⟩
              · exact Or.inr ⟨f, by omega, h2, h3⟩⟩
            case measure => simp [intOf]; omega
          | false =>
            obtain ⟨d, hd⟩ : ∃ d, getI out j = d := ⟨_, rfl⟩
            rw [hd] at d0
            have HD := Lib.hid hd
            obtain ⟨hd1, hd2, hd3⟩ := HGD.out j hjn HBJ.out
            rw [hd] at hd1 hd2 hd3
            have hne : ¬ d = -2 := by omega
            clear hd
            have HREL : Hid (∃ f : Nat, f < j + 1 ∧ getI out f = d ∧ hasB fl f = false) := Lib.hid ⟨j, by omega, HD.out, HBJ.out⟩
            have hcase : u15 = .int .i64 (-2) ∨ u15 = .int .i64 d := by
              rcases hfr with ⟨h1, _⟩ | ⟨f, h0, h1, h2⟩
              · exact Or.inl h1
              · right; rw [h1, HAO.out.same f j (by omega) hjn h2 HBJ.out, HD.out]
            clear hfr
            have hdd : (0 ≤ d ∧ ¬ on < 0 ∧ ¬ d < on) ∨ (¬ 0 ≤ d ∧ True ∧ True) := by
              by_cases h : 0 ≤ d
              · have := hd2 h; exact Or.inl ⟨h, by omega, by omega⟩
              · exact Or.inr ⟨h, trivial, trivial⟩
            have haa : (0 ≤ al ∧ ¬ d < 0 ∧ ¬ al < d) ∨ (¬ 0 ≤ al ∧ True ∧ True) := by
              by_cases h : 0 ≤ al
              · have := hd3 h; exact Or.inl ⟨h, by omega, by omega⟩
              · exact Or.inr ⟨h, trivial, trivial⟩
            clear hd2 hd3
            rcases hcase with rfl | rfl <;> rcases hdd with ⟨a1, a2, a3⟩ | ⟨a1, a2, a3⟩ <;> rcases haa with ⟨b1, b2, b3⟩ | ⟨b1, b2, b3⟩
            all_goals try (exfalso; omega)
            all_goals
              go_wp2_with fail
              go_roundw
              case rel => exact ⟨j + 1, by omega, by go_num, HB4, Or.inr (by
                obtain ⟨f, h1, h2, h3⟩ := HREL.out
                exact ⟨f, h1, by rw [h2], h3⟩)⟩
              case measure => simp [intOf]; omega
        · obtain rfl : j = Nn := by omega
          go_wp2_with fail
          refine (awake_any _).mono ?_
          rintro e w4 ⟨rfl, hb4⟩
          go_wp2_with fail
          go_ret
          exact HFIN.out _ _ rfl (HTR.out _ _ HBR.out hb4)
end Go.Proofs.Ytnmccbjdfdbgpaa
