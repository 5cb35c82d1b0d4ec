/- What is proved: the texts Dn, one behind the other; each says at its head what it proves, and under which conditions. -/
import Derived.Test.YtcnjenlojnognaaGreatg22
/- What is proved: the contract of the document's sorted. Conditions: the plan lies in memory, and is not empty. -/
namespace Go.Proofs.YtcnjenlojnognaaGreat
open Go.RowKit

theorem putL_split {x : LaunchD} : ∀ (out : List LaunchD) (p : Nat), p ≤ out.length → (∀ j, j < p → cmpL (out.getD j launch0) x < 0) → (p < out.length → ¬ cmpL (out.getD p launch0) x < 0) → putL x out = out.take p ++ x :: out.drop p
 | [], p, h, _, _ => by
  obtain rfl : p = 0 := by simpa using h
  rfl
 | y :: out, 0, _, _, h => by
  unfold putL
  rw [if_neg (show ¬ cmpL y x < 0 from h (by simp))]; rfl
 | y :: out, p + 1, h, hj, hp => by
  unfold putL
  rw [if_pos (show cmpL y x < 0 from hj 0 (by omega)), putL_split out p (by simpa using h) (fun j hjp => hj (j + 1) (by omega)) (fun hl => hp (by simpa using hl))]; rfl
def insL (l : List LaunchD) (k : Nat) : List LaunchD := (l.take k).foldl (fun out x => putL x out) []
theorem insL_succ {l : List LaunchD} {k : Nat} (h : k < l.length) : insL l (k + 1) = putL (l.getD k launch0) (insL l k) := by
 unfold insL; rw [take_snocL l k h, List.foldl_append]; rfl
theorem insL_sorted (l : List LaunchD) : ∀ k, k ≤ l.length → SortedL (insL l k) ∧ (insL l k).Perm (l.take k)
 | 0, _ => ⟨List.Pairwise.nil, by simp [insL]⟩
 | k + 1, h => by
  obtain ⟨h1, h2⟩ := insL_sorted l k (by omega)
  rw [insL_succ (by omega)]
  refine ⟨putL_sorted h1, (putL_perm _ _).trans ?_⟩
  rw [take_snocL l k (by omega)]
  exact (h2.cons _).trans (List.perm_append_singleton _ _).symm
theorem insL_end (l : List LaunchD) : insL l l.length = sortL l := by
 obtain ⟨h1, h2⟩ := insL_sorted l l.length (Nat.le_refl _)
 rw [List.take_length] at h2
 exact sortL_eq h2 h1
theorem rows_ins {R : List RowL} {r : RowL} {p : Nat} (hp : p ≤ R.length) (h1 : ∀ j, j < p → cmpL (R.getD j row0).1 r.1 < 0) (h2 : p < R.length → ¬ cmpL (R.getD p row0).1 r.1 < 0) : (R.take p ++ r :: R.drop p).map (·.1) = putL r.1 (R.map (·.1)) := by
 have hg : ∀ j, (R.map (·.1)).getD j launch0 = (R.getD j row0).1 := fun j => by
  rw [List.getD_eq_getElem?_getD, List.getD_eq_getElem?_getD, List.getElem?_map]
  cases R[j]? <;> rfl
 rw [putL_split (R.map (·.1)) p (by simpa using hp) (fun j hj => by rw [hg]; exact h1 j hj) (fun hl => by rw [hg]; exact h2 (by simpa using hl))]
 simp
/-- The list so far. -/
def SrtR (wo : World) (l : List LaunchD) (k : Nat) (R : List RowL) (w' : World) : Prop := Below wo.heap.size wo w' ∧ R.map (·.1) = insL l k ∧ ∀ r ∈ R, IntsAt wo wo.heap.size r.2.1 r.1.cargos
theorem SrtR.len {wo w' : World} {l : List LaunchD} {k : Nat} {R : List RowL} (h : SrtR wo l k R w') (hk : k ≤ l.length) : R.length = k := by
 have h1 := congrArg List.length h.2.1
 rw [List.length_map, (insL_sorted l k hk).2.length_eq, List.length_take] at h1; omega
theorem OwnR.plan {wo w' : World} {B : Nat} {A : Option Addr} {n c : Nat} {l : List LaunchD} {k : Nat} {R : List RowL} (h : OwnR w' B (.slice A n c) R) (hs : SrtR wo l k R w') (hn : R.length ≤ 4096) : PlanAt w' w'.heap.size A (insL l k) := by
 obtain ⟨_, g, cap, e, h2, h3, h4⟩ := id h
 injection e with e1 e2 e3
 subst e1 e2 e3
 have hl : (insL l k).length = R.length := by rw [← hs.2.1, List.length_map]
 have hg : ∀ i, (insL l k).getD i launch0 = (R.getD i row0).1 := fun i => by
  rw [← hs.2.1, List.getD_eq_getElem?_getD, List.getD_eq_getElem?_getD, List.getElem?_map]
  cases R[i]? <;> rfl
 refine ⟨fun i => (R.getD i row0).2.1, fun i => (R.getD i row0).2.2, ⟨by omega, fun _ => ⟨g, 0, rfl, h4, fun i hi j hj => ?_⟩⟩, fun i hi => ?_⟩
 ·rw [hl] at hi
  rw [Nat.zero_add, h.cell hi hj]
  show _ = some (launchR ((insL l k).getD i launch0) (R.getD i row0).2.1 (R.getD i row0).2.2 j)
  rw [hg]
  match j, hj with
  | 0, _ => rfl
  | 1, _ => rfl
  | 2, _ => rfl
  | 3, _ => rfl
 ·rw [hl] at hi
  show IntsAt _ _ (R.getD i row0).2.1 ((insL l k).getD i launch0).cargos
  rw [hg]
  refine (hs.2.2 _ ?_).later hs.1
  rw [List.getD_eq_getElem?_getD, List.getElem?_eq_getElem hi]; exact List.getElem_mem hi
theorem OwnR.mono {w : World} {B B' : Nat} {v : Value} {R : List RowL} (h : OwnR w B v R) (hb : B' ≤ B) : OwnR w B' v R := by
 obtain ⟨h1, g, cap, e, h2, h3, h4⟩ := h
 exact ⟨owns_mono h1 hb, g, cap, e, h2, by omega, h4⟩
def RSortPost (l : List LaunchD) (w : World) (e : Ending) (w' : World) : Prop := ∃ A c', e = .returned (.slice A l.length c') ∧ l.length ≤ c' ∧ PlanAt w' w'.heap.size A (sortL l) ∧ Below w.heap.size w w'
set_option maxRecDepth 100000 in
set_option maxHeartbeats 32000000 in
theorem refSorted_any (w : World) (l : List LaunchD) (AL : Option Addr) (cL : Nat) (hp : PlanAt w w.heap.size AL l) (hn : l.length ≤ 2000) (h0 : 0 < l.length) :
  Calls Tryz.prog 76 #[.slice AL l.length cL] w (RSortPost l w) := by
 have HPA := Lib.hid hp
 obtain ⟨nl, hnl⟩ : ∃ nl, l.length = nl := ⟨_, rfl⟩
 have HNL := Lib.hid hnl
 obtain ⟨PQ, hPQ⟩ : ∃ Q, RSortPost l w = Q := ⟨_, rfl⟩
 have HFIN : Hid (∀ A c' w' R, OwnR w' w.heap.size (.slice A nl c') R → SrtR w l nl R w' → PQ (.returned (.slice A nl c')) w') := Lib.hid fun A c' w' R h1 h2 => by
  rw [← hPQ]; unfold RSortPost
  have hl := h2.len (by rw [hnl]; omega)
  have h3 := h1.plan h2 (by omega)
  obtain ⟨_, g, cap, e, h4, _⟩ := h1
  injection e with e1 e2 e3
  subst e3
  rw [← hnl] at h3 ⊢
  rw [insL_end] at h3
  exact ⟨A, c', rfl, by omega, h3, h2.1⟩
 rw [hnl] at hn h0 ⊢
 rw [hPQ]
 clear hp hPQ hnl
 go_enter Tryz.func76, Tryz.ntmps76
 go_wp2_with fail
 go_loopw [3, 4] (fun ov iv wr => ∃ (k : Nat) (R : List RowL), k ≤ nl ∧ iv = .int .i64 k ∧ Hid (SrtR w l k R wr) ∧ ((k = 0 ∧ ov = .slice none 0 0) ∨ (0 < k ∧ Hid (OwnR wr w.heap.size ov R)))) (fun _ iv _ => nl - (intOf iv).toNat)
 case atStart => exact ⟨0, [], Nat.zero_le _, rfl, Lib.hid ⟨Below.refl _ _, rfl, fun r hr => absurd hr (List.not_mem_nil)⟩, Or.inl ⟨rfl, rfl⟩⟩
 case round =>
  obtain ⟨wo, rfl⟩ : ∃ wo : World, wo = wr := ⟨_, rfl⟩
  obtain ⟨k, R, hk, rfl, HS, hov⟩ := hrel
  have h0k : (0 : Int) ≤ (k : Int) := by omega
  by_cases hlt : k < nl
  case neg =>
   obtain rfl : k = nl := by omega
   rcases hov with ⟨h1, _⟩ | ⟨_, hov⟩
   ·omega
   ·obtain ⟨_, g, cap, rfl, _⟩ := hov.out
    have hl := HS.out.len (by rw [HNL.out]; omega)
    have hF : PQ (.returned (.slice (some ⟨g, 0, none⟩) k cap)) wo := HFIN.out _ _ _ R (by rw [← hl]; exact hov.out) HS.out
    have HF2 := Lib.hid hF
    rw [hl]
    clear hF hov hl
    go_wp2_with fail
    first | exact HF2.out | (go_ret; exact HF2.out)
  case pos =>
   have hki : (k : Int) < (nl : Int) := by omega
   obtain ⟨bb, off, P, Q2, rfl, hbb, dc, dl⟩ := HPA.out.at (i := k) (by rw [HNL.out]; exact hlt)
   obtain ⟨x, hx⟩ : ∃ x, l.getD k launch0 = x := ⟨_, rfl⟩
   have HX := Lib.hid hx
   rw [hx] at dc dl
   have HXI := Lib.hid dl
   have HLX : Hid (∀ w1, Below w.heap.size w w1 → ∀ j u, (launchA x P Q2)[j]? = some u → w1.cell? ⟨bb, off + k * 4 + j, none⟩ = some u) := Lib.hid fun w1 hb j u hj => (hb.cell (p := ⟨bb, off + k * 4 + j, none⟩) hbb).trans (dc j u hj)
   have HRL : Hid (R.length = k) := Lib.hid (HS.out.len (by rw [HNL.out]; omega))
   have HBW : Hid (∀ w1, Below wo.heap.size wo w1 → Below w.heap.size w w1) := Lib.hid fun w1 hb => HS.out.1.trans (hb.mono HS.out.1.size)
   have HNEW : Hid (∀ (p : Nat) w1, p ≤ R.length → (∀ j, j < p → cmpL (R.getD j row0).1 x < 0) → (p < R.length → ¬ cmpL (R.getD p row0).1 x < 0) → Below wo.heap.size wo w1 → SrtR w l (k + 1) (R.take p ++ (x, P, Q2) :: R.drop p) w1) := Lib.hid fun p w1 h1 h2 h3 hb => by
    refine ⟨HBW.out w1 hb, ?_, fun r hr => ?_⟩
    ·rw [rows_ins (r := (x, P, Q2)) h1 h2 h3, insL_succ (by rw [HNL.out]; exact hlt), HX.out, HS.out.2.1]
    ·rw [List.mem_append, List.mem_cons] at hr
     rcases hr with hr | hr | hr
     ·exact HS.out.2.2 r (List.mem_of_mem_take hr)
     ·rw [hr]; exact HXI.out
     ·exact HS.out.2.2 r (List.mem_of_mem_drop hr)
   clear hx dc dl hbb
   rcases hov with ⟨hk0, rfl⟩ | ⟨hkp, hov⟩
   ·subst hk0
    go_wp2_with fail
    go_loopw [5] (fun pv wr => pv = .int .i64 0 ∧ Hid (Below wo.heap.size wo wr)) (fun _ _ => 0)
    case atStart => exact ⟨rfl, Lib.hid (Below.refl _ _)⟩
    case round =>
     obtain ⟨rfl, HB⟩ := hrel
     go_upto_region 6 with (fail)
     refine wp_region_steps (by kernel_rfl) (by kernel_rfl) (fun w1 => Below wr.heap.size wr w1) (fun _ _ _ => True)
      (fun ix u _ _ => match ix with
       | 0 => u = .int .i64 0
       | 1 => u = .slice none 0 0
       | 2 => u = .int .i64 0
       | 3 => u = .bool false
       | 4 => u = .bool false
       | 5 => u = undef
       | 6 => u = undef
       | 7 => u = undef
       | 8 => u = undef
       | 9 => u = undef
       | 10 => u = undef
       | 11 => u = undef
       | 12 => u = undef
       | 13 => u = undef
       | 14 => u = undef
       | _ => u = .bool false) (Below.refl _ _).drew (fun _ _ _ _ _ _ _ _ h _ _ => h) ?_ ?_
     ·refine ⟨?_, ?_, ?_, ?_, ?_, ?_, ?_, ?_, ?_, ?_, ?_, ?_, ?_, ?_, ?_, ?_, trivial⟩
      ·intro a w1 vs K HJ HK HD HN kk
       have e5 := HK 5 (by decide)
       go_simp; exact kk _ _ (by simp) HJ trivial rfl
      ·intro a w1 vs K HJ HK HD HN kk
       have e3 := HK 3 (by decide)
       go_simp; exact kk _ _ (by simp) HJ trivial rfl
      ·intro a w1 vs K HJ HK HD HN kk
       have e14 := hdE (HD 1 _ 14 rfl rfl rfl)
       go_simp; exact kk _ _ (by simp) HJ trivial rfl
      ·intro a w1 vs K HJ HK HD HN kk
       have e13 := hdE (HD 0 _ 13 rfl rfl rfl)
       have e15 := hdE (HD 2 _ 15 rfl rfl rfl)
       go_simp; exact kk _ _ (by simp) HJ trivial rfl
      ·intro a w1 vs K HJ HK HD HN kk
       have e16 := hdE (HD 3 _ 16 rfl rfl rfl)
       go_simp; exact kk _ _ (by simp) HJ trivial rfl
      ·intro a w1 vs K HJ HK HD HN kk
       have e17 := hdE (HD 4 _ 17 rfl rfl rfl)
       rw [if_neg (wanted_no 4 true rfl rfl rfl e17)]
       exact kk undef _ (by simp) HJ trivial rfl
      ·intro a w1 vs K HJ HK HD HN kk
       have e17 := hdE (HD 4 _ 17 rfl rfl rfl)
       rw [if_neg (wanted_no 4 true rfl rfl rfl e17)]
       exact kk undef _ (by simp) HJ trivial rfl
      ·intro a w1 vs K HJ HK HD HN kk
       have e17 := hdE (HD 4 _ 17 rfl rfl rfl)
       rw [if_neg (wanted_no 4 true rfl rfl rfl e17)]
       exact kk undef _ (by simp) HJ trivial rfl
      ·intro a w1 vs K HJ HK HD HN kk
       have e17 := hdE (HD 4 _ 17 rfl rfl rfl)
       rw [if_neg (wanted_no 4 true rfl rfl rfl e17)]
       exact kk undef _ (by simp) HJ trivial rfl
      ·intro a w1 vs K HJ HK HD HN kk
       have e17 := hdE (HD 4 _ 17 rfl rfl rfl)
       rw [if_neg (wanted_no 4 true rfl rfl rfl e17)]
       exact kk undef _ (by simp) HJ trivial rfl
      ·intro a w1 vs K HJ HK HD HN kk
       have e17 := hdE (HD 4 _ 17 rfl rfl rfl)
       rw [if_neg (wanted_no 4 true rfl rfl rfl e17)]
       exact kk undef _ (by simp) HJ trivial rfl
      ·intro a w1 vs K HJ HK HD HN kk
       have e17 := hdE (HD 4 _ 17 rfl rfl rfl)
       rw [if_neg (wanted_no 4 true rfl rfl rfl e17)]
       exact kk undef _ (by simp) HJ trivial rfl
      ·intro a w1 vs K HJ HK HD HN kk
       have e17 := hdE (HD 4 _ 17 rfl rfl rfl)
       rw [if_neg (wanted_no 4 true rfl rfl rfl e17)]
       exact kk undef _ (by simp) HJ trivial rfl
      ·intro a w1 vs K HJ HK HD HN kk
       have e17 := hdE (HD 4 _ 17 rfl rfl rfl)
       rw [if_neg (wanted_no 4 true rfl rfl rfl e17)]
       exact kk undef _ (by simp) HJ trivial rfl
      ·intro a w1 vs K HJ HK HD HN kk
       have e17 := hdE (HD 4 _ 17 rfl rfl rfl)
       rw [if_neg (wanted_no 4 true rfl rfl rfl e17)]
       exact kk undef _ (by simp) HJ trivial rfl
      ·intro a w1 vs K HJ HK HD HN kk
       have e17 := hdE (HD 4 _ 17 rfl rfl rfl)
       have e27 := hdE (HD 14 _ 27 rfl rfl rfl)
       go_simp; exact kk _ _ (by simp) HJ trivial rfl
     ·intro vs W6 hw6 hrr
      have e15 : vs 15 = .bool false := hrr 15 _ rfl
      have HB6 : Hid (Below wo.heap.size wo W6) := Lib.hid (HB.out.trans (Below.mono hw6 HB.out.size))
      clear hrr hw6
      simp only [putAll, Act.put, List.setIfInBounds_toArray, List.set_cons_zero, List.set_cons_succ]
      rw [e15]
      have hv0 : OwnR (W6.alloc (.cells #[] 52)) W6.heap.size (.slice (some ⟨W6.heap.size, 0, none⟩) 0 0) [] := ⟨World.ownsRow_made W6 #[] 0 (Nat.le_refl _) (Nat.zero_le _) rfl, W6.heap.size, 0, rfl, Nat.le_refl _, Nat.le_refl _, by simp⟩
      have hba : Below W6.heap.size W6 (W6.alloc (.cells #[] 52)) := (Below.refl _ _).alloc (Nat.le_refl _) _
      have hS1 : ∀ i, i < (R.take 0).length → ∀ j, j < 4 → ∃ b o, (none : Option Addr) = some ⟨b, o, none⟩ ∧ (W6.alloc (.cells #[] 52)).cell? ⟨b, o + (i * 4 + j), none⟩ = (encR ((R.take 0).getD i row0))[j]? := fun i hi => absurd hi (by simp)
      have hl1 : (R.take 0).length = 0 := by rw [List.length_take]; have := HRL.out; omega
      have HV0 := Lib.hid hv0
      have HS1 := Lib.hid hS1
      have HL1 := Lib.hid hl1
      have HBA := Lib.hid hba
      clear hv0 hS1 hl1 hba
      go_upto_region 8 with (fail)
      go_wp2_with (at_builtin; refine wpList_app (w := W6.alloc (.cells #[] 52)) rfl _ _ rfl (B := W6.heap.size) (v := .slice (some ⟨W6.heap.size, 0, none⟩) 0 0) (R := []) (S := R.take 0) rfl HV0.out _ _ _ rfl HL1.out HS1.out (by simp) (by have := HL1.out; omega) (by simp) ?_)
      intro v1 V1 hv1 hb1
      have HB1 : Hid (Below W6.heap.size W6 V1) := Lib.hid (HBA.out.trans hb1)
      have HBO1 : Hid (Below wo.heap.size wo V1) := Lib.hid (HB6.out.trans (HB1.out.mono (by have := HB6.out.size; omega)))
      have HV1 := Lib.hid hv1
      clear hv1 hb1 HV0 HS1 HBA
      have hS2 : ∀ i, i < [((x, P, Q2) : RowL)].length → ∀ j, j < 4 → ∃ b o, some ⟨V1.heap.size, 0, none⟩ = some (⟨b, o, none⟩ : Addr) ∧ (V1.alloc (.cells #[.int .i64 x.day, .int .i64 x.craft, .int .i64 x.pad, .slice P x.cargos.length Q2] 52)).cell? ⟨b, o + (i * 4 + j), none⟩ = (encR ([((x, P, Q2) : RowL)].getD i row0))[j]? := fun i hi j hj => by
       have hi0 : i = 0 := by simpa using hi
       subst hi0
       refine ⟨V1.heap.size, 0, rfl, ?_⟩
       rw [Nat.zero_add, (Bk.new _ _ _).cell]
       match j, hj with
       | 0, _ => rfl
       | 1, _ => rfl
       | 2, _ => rfl
       | 3, _ => rfl
      have hva : OwnR (V1.alloc (.cells #[.int .i64 x.day, .int .i64 x.craft, .int .i64 x.pad, .slice P x.cargos.length Q2] 52)) W6.heap.size v1 (R.take 0) := HV1.out.later ((Below.refl _ _).alloc (Nat.le_refl _) _)
      have hsz1 : W6.heap.size ≤ V1.heap.size := HB1.out.size
      have HS2 := Lib.hid hS2
      have HVA := Lib.hid hva
      clear hS2 hva
      go_wp2_with (first | (refine wpLoadAt rfl 52 _ rfl bb (off + 0 * 4) rfl #[.int .i64 x.day, .int .i64 x.craft, .int .i64 x.pad, .slice P x.cargos.length Q2] _ (HLX.out _ (HBW.out _ HBO1.out)) und_launch rfl info_launch ?_) | (at_builtin; refine wpList_app (w := V1.alloc (.cells #[.int .i64 x.day, .int .i64 x.craft, .int .i64 x.pad, .slice P x.cargos.length Q2] 52)) rfl _ _ rfl (B := W6.heap.size) (v := v1) (R := R.take 0) (S := [((x, P, Q2) : RowL)]) rfl HVA.out _ _ _ rfl rfl HS2.out (by have := HL1.out; omega) (by simp) (by rw [World.size_alloc]; omega) ?_))
      intro v2 V2 hv2 hb2
      have HB2 : Hid (Below W6.heap.size W6 V2) := Lib.hid ((HB1.out.alloc HB1.out.size _).trans hb2)
      have HBO2 : Hid (Below wo.heap.size wo V2) := Lib.hid (HB6.out.trans (HB2.out.mono (by have := HB6.out.size; omega)))
      have HV2 := Lib.hid hv2
      clear hv2 hb2 HVA HS2 hsz1
      have hS3 : ∀ i, i < (R.drop 0).length → ∀ j, j < 4 → ∃ b o, (none : Option Addr) = some ⟨b, o, none⟩ ∧ V2.cell? ⟨b, o + (i * 4 + j), none⟩ = (encR ((R.drop 0).getD i row0))[j]? := fun i hi => absurd hi (by have := HRL.out; simp; omega)
      have hsz2 : W6.heap.size ≤ V2.heap.size := HB2.out.size
      have HS3 := Lib.hid hS3
      clear hS3
      go_wp2_with (at_builtin; refine wpList_app (w := V2) rfl _ _ rfl (B := W6.heap.size) (v := v2) (R := R.take 0 ++ [((x, P, Q2) : RowL)]) (S := R.drop 0) rfl HV2.out _ _ _ rfl (by rw [List.length_drop]; have := HRL.out; omega) HS3.out (by rw [List.length_append]; have := HL1.out; first | (simp; done) | (simp; omega)) (by rw [List.length_drop]; have := HRL.out; omega) (by omega) ?_)
      intro v3 V3 hv3 hb3
      have HB3 : Hid (Below wo.heap.size wo V3) := Lib.hid (HBO2.out.trans (hb3.mono (by have := HB6.out.size; omega)))
      have HV3 : Hid (OwnR V3 w.heap.size v3 (R.take 0 ++ ((x, P, Q2) : RowL) :: R.drop 0)) := Lib.hid (OwnR.mono (by first | exact hv3 | (rw [List.append_assoc] at hv3; exact hv3)) (by have := (HBW.out _ HB6.out).size; omega))
      clear hv3 hb3 HS3 hsz2
      go_wp2_with fail
      go_roundw
      case rel => exact ⟨0 + 1, _, by omega, by go_num, Lib.hid (HNEW.out 0 V3 (Nat.zero_le _) (fun j hj => absurd hj (Nat.not_lt_zero j)) (fun h => absurd h (by have := HRL.out; omega)) HB3.out), Or.inr ⟨by omega, HV3⟩⟩
      case measure => simp [intOf]; omega

   ·obtain ⟨_, g, cap, rfl, hcap, hgb, hgl⟩ := id hov.out
    have HOW : Hid (∀ w1, Below wo.heap.size wo w1 → OwnR w1 w.heap.size (.slice (some ⟨g, 0, none⟩) R.length cap) R) := Lib.hid fun w1 hb => hov.out.later hb
    rw [HRL.out] at HOW hcap ⊢
    go_wp2_with fail
    go_loopw [5] (fun pv wr => ∃ p : Nat, p ≤ k ∧ pv = .int .i64 p ∧ Hid (Below wo.heap.size wo wr ∧ ∀ j, j < p → cmpL (R.getD j row0).1 x < 0)) (fun pv _ => k - (intOf pv).toNat)
    case atStart => exact ⟨0, Nat.zero_le _, rfl, Lib.hid ⟨Below.refl _ _, fun j hj => absurd hj (Nat.not_lt_zero j)⟩⟩
    case round =>
     obtain ⟨p, hp, rfl, hs⟩ := hrel
     have HB := Lib.hid hs.out.1
     have HLS := Lib.hid hs.out.2
     clear hs
     have h0p : (0 : Int) ≤ (p : Int) := by omega
     have hpc : p ≤ cap := by omega
     have hpci : (p : Int) ≤ (cap : Int) := by omega
     by_cases hpk : p < k
     case neg =>
      obtain rfl : p = k := by omega
      have HPK : Hid (decide ((p : Int) < (p : Int)) = false) := Lib.hid (decide_eq_false (by omega))
      have HPN : Hid (¬ (p : Int) < (p : Int)) := Lib.hid (by omega)
      go_upto_region 6 with (fail)
      refine wp_region_steps (by kernel_rfl) (by kernel_rfl) (fun w1 => Below wr.heap.size wr w1) (fun _ _ _ => True)
       (fun ix u _ _ => match ix with
        | 0 => u = .int .i64 (p : Int)
        | 1 => u = .slice (some ⟨g, 0, none⟩) p cap
        | 2 => u = .int .i64 p
        | 3 => u = .bool false
        | 4 => u = .bool false
        | 5 => u = undef
        | 6 => u = undef
        | 7 => u = undef
        | 8 => u = undef
        | 9 => u = undef
        | 10 => u = undef
        | 11 => u = undef
        | 12 => u = undef
        | 13 => u = undef
        | 14 => u = undef
        | _ => u = .bool false) (Below.refl _ _).drew (fun _ _ _ _ _ _ _ _ h _ _ => h) ?_ ?_
      ·refine ⟨?_, ?_, ?_, ?_, ?_, ?_, ?_, ?_, ?_, ?_, ?_, ?_, ?_, ?_, ?_, ?_, trivial⟩
       ·intro a w1 vs K HJ HK HD HN kk
        have e5 := HK 5 (by decide)
        go_simp; exact kk _ _ (by simp) HJ trivial rfl
       ·intro a w1 vs K HJ HK HD HN kk
        have e3 := HK 3 (by decide)
        go_simp; exact kk _ _ (by simp) HJ trivial rfl
       ·intro a w1 vs K HJ HK HD HN kk
        have e14 := hdE (HD 1 _ 14 rfl rfl rfl)
        go_simp; exact kk _ _ (by simp) HJ trivial rfl
       ·intro a w1 vs K HJ HK HD HN kk
        have e13 := hdE (HD 0 _ 13 rfl rfl rfl)
        have e15 := hdE (HD 2 _ 15 rfl rfl rfl)
        have h1 := HPK.out
        have h2 := HPN.out
        go_simp; exact kk _ _ (by simp) HJ trivial rfl
       ·intro a w1 vs K HJ HK HD HN kk
        have e16 := hdE (HD 3 _ 16 rfl rfl rfl)
        go_simp; exact kk _ _ (by simp) HJ trivial rfl
       ·intro a w1 vs K HJ HK HD HN kk
        have e17 := hdE (HD 4 _ 17 rfl rfl rfl)
        rw [if_neg (wanted_no 4 true rfl rfl rfl e17)]
        exact kk undef _ (by simp) HJ trivial rfl
       ·intro a w1 vs K HJ HK HD HN kk
        have e17 := hdE (HD 4 _ 17 rfl rfl rfl)
        rw [if_neg (wanted_no 4 true rfl rfl rfl e17)]
        exact kk undef _ (by simp) HJ trivial rfl
       ·intro a w1 vs K HJ HK HD HN kk
        have e17 := hdE (HD 4 _ 17 rfl rfl rfl)
        rw [if_neg (wanted_no 4 true rfl rfl rfl e17)]
        exact kk undef _ (by simp) HJ trivial rfl
       ·intro a w1 vs K HJ HK HD HN kk
        have e17 := hdE (HD 4 _ 17 rfl rfl rfl)
        rw [if_neg (wanted_no 4 true rfl rfl rfl e17)]
        exact kk undef _ (by simp) HJ trivial rfl
       ·intro a w1 vs K HJ HK HD HN kk
        have e17 := hdE (HD 4 _ 17 rfl rfl rfl)
        rw [if_neg (wanted_no 4 true rfl rfl rfl e17)]
        exact kk undef _ (by simp) HJ trivial rfl
       ·intro a w1 vs K HJ HK HD HN kk
        have e17 := hdE (HD 4 _ 17 rfl rfl rfl)
        rw [if_neg (wanted_no 4 true rfl rfl rfl e17)]
        exact kk undef _ (by simp) HJ trivial rfl
       ·intro a w1 vs K HJ HK HD HN kk
        have e17 := hdE (HD 4 _ 17 rfl rfl rfl)
        rw [if_neg (wanted_no 4 true rfl rfl rfl e17)]
        exact kk undef _ (by simp) HJ trivial rfl
       ·intro a w1 vs K HJ HK HD HN kk
        have e17 := hdE (HD 4 _ 17 rfl rfl rfl)
        rw [if_neg (wanted_no 4 true rfl rfl rfl e17)]
        exact kk undef _ (by simp) HJ trivial rfl
       ·intro a w1 vs K HJ HK HD HN kk
        have e17 := hdE (HD 4 _ 17 rfl rfl rfl)
        rw [if_neg (wanted_no 4 true rfl rfl rfl e17)]
        exact kk undef _ (by simp) HJ trivial rfl
       ·intro a w1 vs K HJ HK HD HN kk
        have e17 := hdE (HD 4 _ 17 rfl rfl rfl)
        rw [if_neg (wanted_no 4 true rfl rfl rfl e17)]
        exact kk undef _ (by simp) HJ trivial rfl
       ·intro a w1 vs K HJ HK HD HN kk
        have e17 := hdE (HD 4 _ 17 rfl rfl rfl)
        have e27 := hdE (HD 14 _ 27 rfl rfl rfl)
        go_simp; exact kk _ _ (by simp) HJ trivial rfl
      ·intro vs W6 hw6 hrr
       have e15 : vs 15 = .bool false := hrr 15 _ rfl
       have HB6 : Hid (Below wo.heap.size wo W6) := Lib.hid (HB.out.trans (Below.mono hw6 HB.out.size))
       clear hrr hw6
       simp only [putAll, Act.put, List.setIfInBounds_toArray, List.set_cons_zero, List.set_cons_succ]
       rw [e15]
       have hv0 : OwnR (W6.alloc (.cells #[] 52)) W6.heap.size (.slice (some ⟨W6.heap.size, 0, none⟩) 0 0) [] := ⟨World.ownsRow_made W6 #[] 0 (Nat.le_refl _) (Nat.zero_le _) rfl, W6.heap.size, 0, rfl, Nat.le_refl _, Nat.le_refl _, by simp⟩
       have hba : Below W6.heap.size W6 (W6.alloc (.cells #[] 52)) := (Below.refl _ _).alloc (Nat.le_refl _) _
       have hS1 : ∀ i, i < (R.take p).length → ∀ j, j < 4 → ∃ b o, some ⟨g, 0, none⟩ = some (⟨b, o, none⟩ : Addr) ∧ (W6.alloc (.cells #[] 52)).cell? ⟨b, o + (i * 4 + j), none⟩ = (encR ((R.take p).getD i row0))[j]? := fun i hi j hj => by
        have hi2 : i < p ∧ i < R.length := by rw [List.length_take] at hi; omega
        refine ⟨g, 0, rfl, ?_⟩
        rw [Nat.zero_add, (HOW.out _ (HB6.out.trans (hba.mono (by have := HB6.out.size; omega)))).cell hi2.2 hj]
        rw [List.getD_eq_getElem?_getD, List.getD_eq_getElem?_getD, List.getElem?_take, if_pos hi2.1]
       have hl1 : (R.take p).length = p := by rw [List.length_take]; have := HRL.out; omega
       have HV0 := Lib.hid hv0
       have HS1 := Lib.hid hS1
       have HL1 := Lib.hid hl1
       have HBA := Lib.hid hba
       clear hv0 hS1 hl1 hba
       go_upto_region 8 with (fail)
       go_wp2_with (at_builtin; refine wpList_app (w := W6.alloc (.cells #[] 52)) rfl _ _ rfl (B := W6.heap.size) (v := .slice (some ⟨W6.heap.size, 0, none⟩) 0 0) (R := []) (S := R.take p) rfl HV0.out _ _ _ rfl HL1.out HS1.out (by simp) (by have := HL1.out; omega) (by simp) ?_)
       intro v1 V1 hv1 hb1
       have HB1 : Hid (Below W6.heap.size W6 V1) := Lib.hid (HBA.out.trans hb1)
       have HBO1 : Hid (Below wo.heap.size wo V1) := Lib.hid (HB6.out.trans (HB1.out.mono (by have := HB6.out.size; omega)))
       have HV1 := Lib.hid hv1
       clear hv1 hb1 HV0 HS1 HBA
       have hS2 : ∀ i, i < [((x, P, Q2) : RowL)].length → ∀ j, j < 4 → ∃ b o, some ⟨V1.heap.size, 0, none⟩ = some (⟨b, o, none⟩ : Addr) ∧ (V1.alloc (.cells #[.int .i64 x.day, .int .i64 x.craft, .int .i64 x.pad, .slice P x.cargos.length Q2] 52)).cell? ⟨b, o + (i * 4 + j), none⟩ = (encR ([((x, P, Q2) : RowL)].getD i row0))[j]? := fun i hi j hj => by
        have hi0 : i = 0 := by simpa using hi
        subst hi0
        refine ⟨V1.heap.size, 0, rfl, ?_⟩
        rw [Nat.zero_add, (Bk.new _ _ _).cell]
        match j, hj with
        | 0, _ => rfl
        | 1, _ => rfl
        | 2, _ => rfl
        | 3, _ => rfl
       have hva : OwnR (V1.alloc (.cells #[.int .i64 x.day, .int .i64 x.craft, .int .i64 x.pad, .slice P x.cargos.length Q2] 52)) W6.heap.size v1 (R.take p) := HV1.out.later ((Below.refl _ _).alloc (Nat.le_refl _) _)
       have hsz1 : W6.heap.size ≤ V1.heap.size := HB1.out.size
       have HS2 := Lib.hid hS2
       have HVA := Lib.hid hva
       clear hS2 hva
       go_wp2_with (first | (refine wpLoadAt rfl 52 _ rfl bb (off + p * 4) rfl #[.int .i64 x.day, .int .i64 x.craft, .int .i64 x.pad, .slice P x.cargos.length Q2] _ (HLX.out _ (HBW.out _ HBO1.out)) und_launch rfl info_launch ?_) | (at_builtin; refine wpList_app (w := V1.alloc (.cells #[.int .i64 x.day, .int .i64 x.craft, .int .i64 x.pad, .slice P x.cargos.length Q2] 52)) rfl _ _ rfl (B := W6.heap.size) (v := v1) (R := R.take p) (S := [((x, P, Q2) : RowL)]) rfl HVA.out _ _ _ rfl rfl HS2.out (by have := HL1.out; omega) (by simp) (by rw [World.size_alloc]; omega) ?_))
       intro v2 V2 hv2 hb2
       have HB2 : Hid (Below W6.heap.size W6 V2) := Lib.hid ((HB1.out.alloc HB1.out.size _).trans hb2)
       have HBO2 : Hid (Below wo.heap.size wo V2) := Lib.hid (HB6.out.trans (HB2.out.mono (by have := HB6.out.size; omega)))
       have HV2 := Lib.hid hv2
       clear hv2 hb2 HVA HS2 hsz1
       have hS3 : ∀ (A : Option Addr) i, i < (R.drop p).length → ∀ j, j < 4 → ∃ b o, A = some (⟨b, o, none⟩ : Addr) ∧ V2.cell? ⟨b, o + (i * 4 + j), none⟩ = (encR ((R.drop p).getD i row0))[j]? := fun A i hi => absurd hi (by rw [List.length_drop]; have := HRL.out; omega)
       have hsz2 : W6.heap.size ≤ V2.heap.size := HB2.out.size
       have HS3 := Lib.hid hS3
       clear hS3
       by_cases hcp : cap = p
       ·have hcq := hcp.symm
        subst hcq
        go_wp2_with (at_builtin; refine wpList_app (w := V2) rfl _ _ rfl (B := W6.heap.size) (v := v2) (R := R.take p ++ [((x, P, Q2) : RowL)]) (S := R.drop p) rfl HV2.out _ _ _ rfl (by rw [List.length_drop]; have := HRL.out; omega) (HS3.out _) (by rw [List.length_append]; have := HL1.out; first | (simp; done) | (simp; omega)) (by rw [List.length_drop]; have := HRL.out; omega) (by omega) ?_)
        intro v3 V3 hv3 hb3
        have HB3 : Hid (Below wo.heap.size wo V3) := Lib.hid (HBO2.out.trans (hb3.mono (by have := HB6.out.size; omega)))
        have HV3 : Hid (OwnR V3 w.heap.size v3 (R.take p ++ ((x, P, Q2) : RowL) :: R.drop p)) := Lib.hid (OwnR.mono (by first | exact hv3 | (rw [List.append_assoc] at hv3; exact hv3)) (by have := (HBW.out _ HB6.out).size; omega))
        clear hv3 hb3 HS3 hsz2
        go_wp2_with fail
        go_roundw
        case rel => exact ⟨p + 1, _, by omega, by go_num, Lib.hid (HNEW.out p V3 (by have := HRL.out; omega) HLS.out (fun h => absurd h (by have := HRL.out; omega)) HB3.out), Or.inr ⟨by omega, HV3⟩⟩
        case measure => simp [intOf]; omega
       ·skip
        go_wp2_with (at_builtin; refine wpList_app (w := V2) rfl _ _ rfl (B := W6.heap.size) (v := v2) (R := R.take p ++ [((x, P, Q2) : RowL)]) (S := R.drop p) rfl HV2.out _ _ _ rfl (by rw [List.length_drop]; have := HRL.out; omega) (HS3.out _) (by rw [List.length_append]; have := HL1.out; first | (simp; done) | (simp; omega)) (by rw [List.length_drop]; have := HRL.out; omega) (by omega) ?_)
        intro v3 V3 hv3 hb3
        have HB3 : Hid (Below wo.heap.size wo V3) := Lib.hid (HBO2.out.trans (hb3.mono (by have := HB6.out.size; omega)))
        have HV3 : Hid (OwnR V3 w.heap.size v3 (R.take p ++ ((x, P, Q2) : RowL) :: R.drop p)) := Lib.hid (OwnR.mono (by first | exact hv3 | (rw [List.append_assoc] at hv3; exact hv3)) (by have := (HBW.out _ HB6.out).size; omega))
        clear hv3 hb3 HS3 hsz2
        go_wp2_with fail
        go_roundw
        case rel => exact ⟨p + 1, _, by omega, by go_num, Lib.hid (HNEW.out p V3 (by have := HRL.out; omega) HLS.out (fun h => absurd h (by have := HRL.out; omega)) HB3.out), Or.inr ⟨by omega, HV3⟩⟩
        case measure => simp [intOf]; omega

     case pos =>
      have hpki : (p : Int) < (k : Int) := by omega
      have HPK : Hid (decide ((p : Int) < (k : Int)) = true) := Lib.hid (decide_eq_true hpki)
      obtain ⟨y, YP, YQ, hy⟩ : ∃ y YP YQ, R.getD p row0 = (y, YP, YQ) := ⟨_, _, _, rfl⟩
      have HY := Lib.hid hy
      have hpR : p < R.length := by rw [HRL.out]; exact hpk
      have hyi : IntsAt w w.heap.size YP y.cargos := by
       have h1 := HS.out.2.2 (R.getD p row0) (by rw [List.getD_eq_getElem?_getD, List.getElem?_eq_getElem hpR]; exact List.getElem_mem hpR)
       rw [hy] at h1; exact h1
      have HLY : Hid (∀ w1, Below wo.heap.size wo w1 → ∀ j u, (launchA y YP YQ)[j]? = some u → w1.cell? ⟨g, p * 4 + j, none⟩ = some u) := Lib.hid fun w1 hb j u hj => by
       have hj4 : j < 4 := (Array.getElem?_eq_some_iff.1 hj).1
       rw [(HOW.out w1 hb).cell hpR hj4, HY.out, ← hj]
       unfold encR
       rw [Array.getElem?_toList]
      obtain ⟨z, hz⟩ : ∃ z, cmpL y x = z := ⟨_, rfl⟩
      have HCM : Hid (∀ w1, Below wo.heap.size wo w1 → Calls Tryz.prog 67 #[.agg (launchA y YP YQ), .agg (launchA x P Q2)] w1 fun e w' => e = .returned (.int .i64 z) ∧ Below w1.heap.size w1 w') := Lib.hid fun w1 hb => by
       rw [← hz]; exact refCompare_any w1 y x YP P YQ Q2 (hyi.later (HBW.out w1 hb)) (HXI.out.later (HBW.out w1 hb))
      have HWR : Hid (∀ w1, Below wr.heap.size wr w1 → Below wo.heap.size wo w1) := Lib.hid fun w1 hb => HB.out.trans (hb.mono HB.out.size)
      have HYZ : Hid (cmpL (R.getD p row0).1 x = z) := Lib.hid (by rw [hy]; exact hz)
      clear hy hyi hz
      by_cases hzn : z < 0
      ·have HT : Hid (decide (z < 0) = true) := Lib.hid (decide_eq_true hzn)
       have HZN := Lib.hid hzn
       clear hzn
       go_upto_region 6 with (fail)
       refine wp_region_steps (by kernel_rfl) (by kernel_rfl) (fun w1 => Below wr.heap.size wr w1) (fun _ _ _ => True)
        (fun ix u _ _ => match ix with
         | 0 => u = .int .i64 (p : Int)
         | 1 => u = .slice (some ⟨g, 0, none⟩) k cap
         | 2 => u = .int .i64 k
         | 3 => u = .bool true
         | 4 => u = .bool true
         | 5 => u = .slice (some ⟨g, 0, none⟩) k cap
         | 6 => u = .int .i64 (p : Int)
         | 7 => u = .pointer (some ⟨g, p * 4, none⟩)
         | 8 => u = .agg (launchA y YP YQ)
         | 9 => u = .slice (some ⟨bb, off, none⟩) nl cL
         | 10 => u = .int .i64 (k : Int)
         | 11 => u = .pointer (some ⟨bb, off + k * 4, none⟩)
         | 12 => u = .agg (launchA x P Q2)
         | 13 => u = .int .i64 z
         | 14 => u = .bool true
         | _ => u = .bool true) (Below.refl _ _).drew (fun _ _ _ _ _ _ _ _ h _ _ => h) ?_ ?_
       ·refine ⟨?_, ?_, ?_, ?_, ?_, ?_, ?_, ?_, ?_, ?_, ?_, ?_, ?_, ?_, ?_, ?_, trivial⟩
        ·intro a w1 vs K HJ HK HD HN kk
         have e5 := HK 5 (by decide)
         go_simp; exact kk _ _ (by simp) HJ trivial rfl
        ·intro a w1 vs K HJ HK HD HN kk
         have e3 := HK 3 (by decide)
         go_simp; exact kk _ _ (by simp) HJ trivial rfl
        ·intro a w1 vs K HJ HK HD HN kk
         have e14 := hdE (HD 1 _ 14 rfl rfl rfl)
         go_simp; exact kk _ _ (by simp) HJ trivial rfl
        ·intro a w1 vs K HJ HK HD HN kk
         have e13 := hdE (HD 0 _ 13 rfl rfl rfl)
         have e15 := hdE (HD 2 _ 15 rfl rfl rfl)
         have h1 := HPK.out
         go_simp; exact kk _ _ (by simp) HJ trivial rfl
        ·intro a w1 vs K HJ HK HD HN kk
         have e16 := hdE (HD 3 _ 16 rfl rfl rfl)
         go_simp; exact kk _ _ (by simp) HJ trivial rfl
        ·intro a w1 vs K HJ HK HD HN kk
         have e17 := hdE (HD 4 _ 17 rfl rfl rfl)
         rw [if_pos (wanted_yes 4 true rfl rfl rfl e17)]
         have e3 := HK 3 (by decide)
         go_simp; exact kk _ _ (by simp) HJ trivial rfl
        ·intro a w1 vs K HJ HK HD HN kk
         have e17 := hdE (HD 4 _ 17 rfl rfl rfl)
         rw [if_pos (wanted_yes 4 true rfl rfl rfl e17)]
         have e5 := HK 5 (by decide)
         go_simp; exact kk _ _ (by simp) HJ trivial rfl
        ·intro a w1 vs K HJ HK HD HN kk
         have e17 := hdE (HD 4 _ 17 rfl rfl rfl)
         rw [if_pos (wanted_yes 4 true rfl rfl rfl e17)]
         have e18 := hdE (HD 5 _ 18 rfl rfl rfl)
         have e19 := hdE (HD 6 _ 19 rfl rfl rfl)
         go_simp; exact kk _ _ (by simp) HJ trivial rfl
        ·intro a w1 vs K HJ HK HD HN kk
         have e17 := hdE (HD 4 _ 17 rfl rfl rfl)
         rw [if_pos (wanted_yes 4 true rfl rfl rfl e17)]
         have e20 := hdE (HD 7 _ 20 rfl rfl rfl)
         exact wpo_loadS 52 (.tmp 20) rfl g (p * 4) (by simpa [Act.eval] using e20) (launchA y YP YQ) _ (HLY.out w1 (HWR.out w1 HJ)) und_launch rfl info_launch (kk _ _ (by simp) HJ trivial rfl)
        ·intro a w1 vs K HJ HK HD HN kk
         have e17 := hdE (HD 4 _ 17 rfl rfl rfl)
         rw [if_pos (wanted_yes 4 true rfl rfl rfl e17)]
         have e0 := HK 0 (by decide)
         go_simp; exact kk _ _ (by simp) HJ trivial rfl
        ·intro a w1 vs K HJ HK HD HN kk
         have e17 := hdE (HD 4 _ 17 rfl rfl rfl)
         rw [if_pos (wanted_yes 4 true rfl rfl rfl e17)]
         have e4 := HK 4 (by decide)
         go_simp; exact kk _ _ (by simp) HJ trivial rfl
        ·intro a w1 vs K HJ HK HD HN kk
         have e17 := hdE (HD 4 _ 17 rfl rfl rfl)
         rw [if_pos (wanted_yes 4 true rfl rfl rfl e17)]
         have e22 := hdE (HD 9 _ 22 rfl rfl rfl)
         have e23 := hdE (HD 10 _ 23 rfl rfl rfl)
         go_simp; exact kk _ _ (by simp) HJ trivial rfl
        ·intro a w1 vs K HJ HK HD HN kk
         have e17 := hdE (HD 4 _ 17 rfl rfl rfl)
         rw [if_pos (wanted_yes 4 true rfl rfl rfl e17)]
         have e24 := hdE (HD 11 _ 24 rfl rfl rfl)
         exact wpo_loadS 52 (.tmp 24) rfl bb (off + k * 4) (by simpa [Act.eval] using e24) (launchA x P Q2) _ (HLX.out w1 (HBW.out w1 (HWR.out w1 HJ))) und_launch rfl info_launch (kk _ _ (by simp) HJ trivial rfl)
        ·intro a w1 vs K HJ HK HD HN kk
         have e17 := hdE (HD 4 _ 17 rfl rfl rfl)
         rw [if_pos (wanted_yes 4 true rfl rfl rfl e17)]
         have e21 := hdE (HD 8 _ 21 rfl rfl rfl)
         have e25 := hdE (HD 12 _ 25 rfl rfl rfl)
         exact wpo_call 67 _ _ rfl #[.agg (launchA y YP YQ), .agg (launchA x P Q2)] (by simp [Act.eval, e21, e25]) (fun args w => by kernel_rfl)
          ((HCM.out w1 (HWR.out w1 HJ)).mono fun e w' ⟨he, hb⟩ => ⟨_, he, kk _ _ (by simp) (Below.trans HJ (hb.mono HJ.size)) trivial rfl⟩)
        ·intro a w1 vs K HJ HK HD HN kk
         have e17 := hdE (HD 4 _ 17 rfl rfl rfl)
         rw [if_pos (wanted_yes 4 true rfl rfl rfl e17)]
         have e26 := hdE (HD 13 _ 26 rfl rfl rfl)
         have h2 := HT.out
         go_simp; exact kk _ _ (by simp) HJ trivial rfl
        ·intro a w1 vs K HJ HK HD HN kk
         have e17 := hdE (HD 4 _ 17 rfl rfl rfl)
         have e27 := hdE (HD 14 _ 27 rfl rfl rfl)
         go_simp; exact kk _ _ (by simp) HJ trivial rfl
       ·intro vs W6 hw6 hrr
        have e15 : vs 15 = .bool true := hrr 15 _ rfl
        have HB6 : Hid (Below wo.heap.size wo W6) := Lib.hid (HWR.out _ hw6)
        clear hrr hw6
        simp only [putAll, Act.put, List.setIfInBounds_toArray, List.set_cons_zero, List.set_cons_succ]
        rw [e15]
        go_wp2_with fail
        go_roundw
        case rel => exact ⟨p + 1, by omega, by go_num, Lib.hid ⟨HB6.out, fun j hj => by
         by_cases e : j = p
         ·subst e; rw [HYZ.out]; exact HZN.out
         ·exact HLS.out j (by omega)⟩⟩
        case measure => simp [intOf]; omega
      ·have HT : Hid (decide (z < 0) = false) := Lib.hid (decide_eq_false hzn)
       have HZN := Lib.hid hzn
       clear hzn
       go_upto_region 6 with (fail)
       refine wp_region_steps (by kernel_rfl) (by kernel_rfl) (fun w1 => Below wr.heap.size wr w1) (fun _ _ _ => True)
        (fun ix u _ _ => match ix with
         | 0 => u = .int .i64 (p : Int)
         | 1 => u = .slice (some ⟨g, 0, none⟩) k cap
         | 2 => u = .int .i64 k
         | 3 => u = .bool true
         | 4 => u = .bool true
         | 5 => u = .slice (some ⟨g, 0, none⟩) k cap
         | 6 => u = .int .i64 (p : Int)
         | 7 => u = .pointer (some ⟨g, p * 4, none⟩)
         | 8 => u = .agg (launchA y YP YQ)
         | 9 => u = .slice (some ⟨bb, off, none⟩) nl cL
         | 10 => u = .int .i64 (k : Int)
         | 11 => u = .pointer (some ⟨bb, off + k * 4, none⟩)
         | 12 => u = .agg (launchA x P Q2)
         | 13 => u = .int .i64 z
         | 14 => u = .bool false
         | _ => u = .bool false) (Below.refl _ _).drew (fun _ _ _ _ _ _ _ _ h _ _ => h) ?_ ?_
       ·refine ⟨?_, ?_, ?_, ?_, ?_, ?_, ?_, ?_, ?_, ?_, ?_, ?_, ?_, ?_, ?_, ?_, trivial⟩
        ·intro a w1 vs K HJ HK HD HN kk
         have e5 := HK 5 (by decide)
         go_simp; exact kk _ _ (by simp) HJ trivial rfl
        ·intro a w1 vs K HJ HK HD HN kk
         have e3 := HK 3 (by decide)
         go_simp; exact kk _ _ (by simp) HJ trivial rfl
        ·intro a w1 vs K HJ HK HD HN kk
         have e14 := hdE (HD 1 _ 14 rfl rfl rfl)
         go_simp; exact kk _ _ (by simp) HJ trivial rfl
        ·intro a w1 vs K HJ HK HD HN kk
         have e13 := hdE (HD 0 _ 13 rfl rfl rfl)
         have e15 := hdE (HD 2 _ 15 rfl rfl rfl)
         have h1 := HPK.out
         go_simp; exact kk _ _ (by simp) HJ trivial rfl
        ·intro a w1 vs K HJ HK HD HN kk
         have e16 := hdE (HD 3 _ 16 rfl rfl rfl)
         go_simp; exact kk _ _ (by simp) HJ trivial rfl
        ·intro a w1 vs K HJ HK HD HN kk
         have e17 := hdE (HD 4 _ 17 rfl rfl rfl)
         rw [if_pos (wanted_yes 4 true rfl rfl rfl e17)]
         have e3 := HK 3 (by decide)
         go_simp; exact kk _ _ (by simp) HJ trivial rfl
        ·intro a w1 vs K HJ HK HD HN kk
         have e17 := hdE (HD 4 _ 17 rfl rfl rfl)
         rw [if_pos (wanted_yes 4 true rfl rfl rfl e17)]
         have e5 := HK 5 (by decide)
         go_simp; exact kk _ _ (by simp) HJ trivial rfl
        ·intro a w1 vs K HJ HK HD HN kk
         have e17 := hdE (HD 4 _ 17 rfl rfl rfl)
         rw [if_pos (wanted_yes 4 true rfl rfl rfl e17)]
         have e18 := hdE (HD 5 _ 18 rfl rfl rfl)
         have e19 := hdE (HD 6 _ 19 rfl rfl rfl)
         go_simp; exact kk _ _ (by simp) HJ trivial rfl
        ·intro a w1 vs K HJ HK HD HN kk
         have e17 := hdE (HD 4 _ 17 rfl rfl rfl)
         rw [if_pos (wanted_yes 4 true rfl rfl rfl e17)]
         have e20 := hdE (HD 7 _ 20 rfl rfl rfl)
         exact wpo_loadS 52 (.tmp 20) rfl g (p * 4) (by simpa [Act.eval] using e20) (launchA y YP YQ) _ (HLY.out w1 (HWR.out w1 HJ)) und_launch rfl info_launch (kk _ _ (by simp) HJ trivial rfl)
        ·intro a w1 vs K HJ HK HD HN kk
         have e17 := hdE (HD 4 _ 17 rfl rfl rfl)
         rw [if_pos (wanted_yes 4 true rfl rfl rfl e17)]
         have e0 := HK 0 (by decide)
         go_simp; exact kk _ _ (by simp) HJ trivial rfl
        ·intro a w1 vs K HJ HK HD HN kk
         have e17 := hdE (HD 4 _ 17 rfl rfl rfl)
         rw [if_pos (wanted_yes 4 true rfl rfl rfl e17)]
         have e4 := HK 4 (by decide)
         go_simp; exact kk _ _ (by simp) HJ trivial rfl
        ·intro a w1 vs K HJ HK HD HN kk
         have e17 := hdE (HD 4 _ 17 rfl rfl rfl)
         rw [if_pos (wanted_yes 4 true rfl rfl rfl e17)]
         have e22 := hdE (HD 9 _ 22 rfl rfl rfl)
         have e23 := hdE (HD 10 _ 23 rfl rfl rfl)
         go_simp; exact kk _ _ (by simp) HJ trivial rfl
        ·intro a w1 vs K HJ HK HD HN kk
         have e17 := hdE (HD 4 _ 17 rfl rfl rfl)
         rw [if_pos (wanted_yes 4 true rfl rfl rfl e17)]
         have e24 := hdE (HD 11 _ 24 rfl rfl rfl)
         exact wpo_loadS 52 (.tmp 24) rfl bb (off + k * 4) (by simpa [Act.eval] using e24) (launchA x P Q2) _ (HLX.out w1 (HBW.out w1 (HWR.out w1 HJ))) und_launch rfl info_launch (kk _ _ (by simp) HJ trivial rfl)
        ·intro a w1 vs K HJ HK HD HN kk
         have e17 := hdE (HD 4 _ 17 rfl rfl rfl)
         rw [if_pos (wanted_yes 4 true rfl rfl rfl e17)]
         have e21 := hdE (HD 8 _ 21 rfl rfl rfl)
         have e25 := hdE (HD 12 _ 25 rfl rfl rfl)
         exact wpo_call 67 _ _ rfl #[.agg (launchA y YP YQ), .agg (launchA x P Q2)] (by simp [Act.eval, e21, e25]) (fun args w => by kernel_rfl)
          ((HCM.out w1 (HWR.out w1 HJ)).mono fun e w' ⟨he, hb⟩ => ⟨_, he, kk _ _ (by simp) (Below.trans HJ (hb.mono HJ.size)) trivial rfl⟩)
        ·intro a w1 vs K HJ HK HD HN kk
         have e17 := hdE (HD 4 _ 17 rfl rfl rfl)
         rw [if_pos (wanted_yes 4 true rfl rfl rfl e17)]
         have e26 := hdE (HD 13 _ 26 rfl rfl rfl)
         have h2 := HT.out
         go_simp; exact kk _ _ (by simp) HJ trivial rfl
        ·intro a w1 vs K HJ HK HD HN kk
         have e17 := hdE (HD 4 _ 17 rfl rfl rfl)
         have e27 := hdE (HD 14 _ 27 rfl rfl rfl)
         go_simp; exact kk _ _ (by simp) HJ trivial rfl
       ·intro vs W6 hw6 hrr
        have e15 : vs 15 = .bool false := hrr 15 _ rfl
        have HB6 : Hid (Below wo.heap.size wo W6) := Lib.hid (HWR.out _ hw6)
        clear hrr hw6
        simp only [putAll, Act.put, List.setIfInBounds_toArray, List.set_cons_zero, List.set_cons_succ]
        rw [e15]
        have hv0 : OwnR (W6.alloc (.cells #[] 52)) W6.heap.size (.slice (some ⟨W6.heap.size, 0, none⟩) 0 0) [] := ⟨World.ownsRow_made W6 #[] 0 (Nat.le_refl _) (Nat.zero_le _) rfl, W6.heap.size, 0, rfl, Nat.le_refl _, Nat.le_refl _, by simp⟩
        have hba : Below W6.heap.size W6 (W6.alloc (.cells #[] 52)) := (Below.refl _ _).alloc (Nat.le_refl _) _
        have hS1 : ∀ i, i < (R.take p).length → ∀ j, j < 4 → ∃ b o, some ⟨g, 0, none⟩ = some (⟨b, o, none⟩ : Addr) ∧ (W6.alloc (.cells #[] 52)).cell? ⟨b, o + (i * 4 + j), none⟩ = (encR ((R.take p).getD i row0))[j]? := fun i hi j hj => by
         have hi2 : i < p ∧ i < R.length := by rw [List.length_take] at hi; omega
         refine ⟨g, 0, rfl, ?_⟩
         rw [Nat.zero_add, (HOW.out _ (HB6.out.trans (hba.mono (by have := HB6.out.size; omega)))).cell hi2.2 hj]
         rw [List.getD_eq_getElem?_getD, List.getD_eq_getElem?_getD, List.getElem?_take, if_pos hi2.1]
        have hl1 : (R.take p).length = p := by rw [List.length_take]; have := HRL.out; omega
        have HV0 := Lib.hid hv0
        have HS1 := Lib.hid hS1
        have HL1 := Lib.hid hl1
        have HBA := Lib.hid hba
        clear hv0 hS1 hl1 hba
        go_upto_region 8 with (fail)
        go_wp2_with (at_builtin; refine wpList_app (w := W6.alloc (.cells #[] 52)) rfl _ _ rfl (B := W6.heap.size) (v := .slice (some ⟨W6.heap.size, 0, none⟩) 0 0) (R := []) (S := R.take p) rfl HV0.out _ _ _ rfl HL1.out HS1.out (by simp) (by have := HL1.out; omega) (by simp) ?_)
        intro v1 V1 hv1 hb1
        have HB1 : Hid (Below W6.heap.size W6 V1) := Lib.hid (HBA.out.trans hb1)
        have HBO1 : Hid (Below wo.heap.size wo V1) := Lib.hid (HB6.out.trans (HB1.out.mono (by have := HB6.out.size; omega)))
        have HV1 := Lib.hid hv1
        clear hv1 hb1 HV0 HS1 HBA
        have hS2 : ∀ i, i < [((x, P, Q2) : RowL)].length → ∀ j, j < 4 → ∃ b o, some ⟨V1.heap.size, 0, none⟩ = some (⟨b, o, none⟩ : Addr) ∧ (V1.alloc (.cells #[.int .i64 x.day, .int .i64 x.craft, .int .i64 x.pad, .slice P x.cargos.length Q2] 52)).cell? ⟨b, o + (i * 4 + j), none⟩ = (encR ([((x, P, Q2) : RowL)].getD i row0))[j]? := fun i hi j hj => by
         have hi0 : i = 0 := by simpa using hi
         subst hi0
         refine ⟨V1.heap.size, 0, rfl, ?_⟩
         rw [Nat.zero_add, (Bk.new _ _ _).cell]
         match j, hj with
         | 0, _ => rfl
         | 1, _ => rfl
         | 2, _ => rfl
         | 3, _ => rfl
        have hva : OwnR (V1.alloc (.cells #[.int .i64 x.day, .int .i64 x.craft, .int .i64 x.pad, .slice P x.cargos.length Q2] 52)) W6.heap.size v1 (R.take p) := HV1.out.later ((Below.refl _ _).alloc (Nat.le_refl _) _)
        have hsz1 : W6.heap.size ≤ V1.heap.size := HB1.out.size
        have HS2 := Lib.hid hS2
        have HVA := Lib.hid hva
        clear hS2 hva
        go_wp2_with (first | (refine wpLoadAt rfl 52 _ rfl bb (off + k * 4) rfl #[.int .i64 x.day, .int .i64 x.craft, .int .i64 x.pad, .slice P x.cargos.length Q2] _ (HLX.out _ (HBW.out _ HBO1.out)) und_launch rfl info_launch ?_) | (at_builtin; refine wpList_app (w := V1.alloc (.cells #[.int .i64 x.day, .int .i64 x.craft, .int .i64 x.pad, .slice P x.cargos.length Q2] 52)) rfl _ _ rfl (B := W6.heap.size) (v := v1) (R := R.take p) (S := [((x, P, Q2) : RowL)]) rfl HVA.out _ _ _ rfl rfl HS2.out (by have := HL1.out; omega) (by simp) (by rw [World.size_alloc]; omega) ?_))
        intro v2 V2 hv2 hb2
        have HB2 : Hid (Below W6.heap.size W6 V2) := Lib.hid ((HB1.out.alloc HB1.out.size _).trans hb2)
        have HBO2 : Hid (Below wo.heap.size wo V2) := Lib.hid (HB6.out.trans (HB2.out.mono (by have := HB6.out.size; omega)))
        have HV2 := Lib.hid hv2
        clear hv2 hb2 HVA HS2 hsz1
        have hS3 : ∀ i, i < (R.drop p).length → ∀ j, j < 4 → ∃ b o, some ⟨g, p * 4, none⟩ = some (⟨b, o, none⟩ : Addr) ∧ V2.cell? ⟨b, o + (i * 4 + j), none⟩ = (encR ((R.drop p).getD i row0))[j]? := fun i hi j hj => by
         have hi2 : p + i < R.length := by rw [List.length_drop] at hi; omega
         refine ⟨g, p * 4, rfl, ?_⟩
         rw [show p * 4 + (i * 4 + j) = (p + i) * 4 + j from by omega, (HOW.out _ HBO2.out).cell hi2 hj]
         rw [List.getD_eq_getElem?_getD, List.getD_eq_getElem?_getD, List.getElem?_drop]
        have hsz2 : W6.heap.size ≤ V2.heap.size := HB2.out.size
        have HS3 := Lib.hid hS3
        clear hS3
        have hcp : ¬ cap = p := by omega
        have hcp2 : p < cap := by omega
        go_wp2_with (at_builtin; refine wpList_app (w := V2) rfl _ _ rfl (B := W6.heap.size) (v := v2) (R := R.take p ++ [((x, P, Q2) : RowL)]) (S := R.drop p) rfl HV2.out _ _ _ rfl (by rw [List.length_drop]; have := HRL.out; omega) HS3.out (by rw [List.length_append]; have := HL1.out; first | (simp; done) | (simp; omega)) (by rw [List.length_drop]; have := HRL.out; omega) (by omega) ?_)
        intro v3 V3 hv3 hb3
        have HB3 : Hid (Below wo.heap.size wo V3) := Lib.hid (HBO2.out.trans (hb3.mono (by have := HB6.out.size; omega)))
        have HV3 : Hid (OwnR V3 w.heap.size v3 (R.take p ++ ((x, P, Q2) : RowL) :: R.drop p)) := Lib.hid (OwnR.mono (by first | exact hv3 | (rw [List.append_assoc] at hv3; exact hv3)) (by have := (HBW.out _ HB6.out).size; omega))
        clear hv3 hb3 HS3 hsz2
        go_wp2_with fail
        go_roundw
        case rel => exact ⟨k + 1, _, by omega, by go_num, Lib.hid (HNEW.out p V3 (Nat.le_of_lt hpR) HLS.out (fun _ => by rw [HYZ.out]; exact HZN.out) HB3.out), Or.inr ⟨by omega, HV3⟩⟩
        case measure => simp [intOf]; omega

end Go.Proofs.YtcnjenlojnognaaGreat
