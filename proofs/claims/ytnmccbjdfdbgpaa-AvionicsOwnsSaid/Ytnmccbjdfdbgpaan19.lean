/- What is proved: the texts Ci, one behind the other; each says at its head what it proves, and under which conditions. -/
import Derived.Test.Ytnmccbjdfdbgpaan18
/- What is proved: AvionicsOwns returns true, and makes only memory. Conditions: the readings and messages lie in memory. -/
namespace Go.Proofs.Ytnmccbjdfdbgpaa
open Go.RowKit

theorem Sl.cells {w : World} {B k n b off i : Nat} {f : Nat → Nat → Value} (h : Sl w B k (some ⟨b, off, none⟩) n f) (hi : i < n) (S : Array Value) (hS : S.size = k) (hf : ∀ j, j < k → S[j]? = some (f i j)) : ∀ j u, S[j]? = some u → w.cell? ⟨b, off + i * k + j, none⟩ = some u := fun j u hj => by
  have hlt : j < k := by rw [← hS]; exact (Array.getElem?_eq_some_iff.1 hj).1
  obtain ⟨b', off', e, _, hc⟩ := h.2 (by omega)
  cases e
  rw [hc i hi j hlt, ← hf j hlt, hj]
theorem info_rd2 : (Try.prog.info? 30).map (·.size) = some 2 := by kernel_rfl
theorem info_msg4 : (Try.prog.info? 80).map (·.size) = some 4 := by kernel_rfl
set_option maxRecDepth 100000 in
set_option maxHeartbeats 16000000 in
theorem owns_any (w : World) (A : Option Addr) (c : Nat) (l : List RdD) (h : RdsAt w w.heap.size A l) (_hw : ∀ y ∈ l, Wd y.val) (A2 : Option Addr) (c2 : Nat) (ms : List MsgD) (h2 : MsgsAt w w.heap.size A2 ms) :
    Calls Try.prog 14 #[.slice A l.length c, .slice A2 ms.length c2] w fun e w' => e = .returned (.bool true) ∧ Below w.heap.size w w' := by
  clear _hw
  have HL := Lib.hid h
  have HM := Lib.hid h2
  have hll := h.1
  have hlm := h2.1
  obtain ⟨qb, hqb⟩ : ∃ qb, w.heap.size = qb := ⟨_, rfl⟩
  have HQB := Lib.hid hqb
  have HTR : Hid (∀ a b, Below qb w a → Below a.heap.size a b → Below qb w b) := Lib.hid fun a b h1 h2 => h1.trans (h2.mono (by rw [← hqb]; exact h1.size))
  have HFIN : Hid (∀ (e : Ending) (w' : World), e = .returned (.bool true) → Below qb w w' → e = .returned (.bool true) ∧ Below qb w w') := Lib.hid fun _ _ a b => ⟨a, b⟩
  have HB0 : Hid (Below qb w w) := Lib.hid (Below.refl _ _)
  obtain ⟨n, hn⟩ : ∃ n, l.length = n := ⟨_, rfl⟩
  have HN := Lib.hid hn
  obtain ⟨nm, hnm⟩ : ∃ n, ms.length = n := ⟨_, rfl⟩
  have HNM := Lib.hid hnm
  rw [hn] at hll ⊢
  rw [hnm] at hlm ⊢
  obtain ⟨W1, hW1⟩ : ∃ W1, w.alloc (.cells #[.int .i64 0, .int .i64 0, .slice none 0 0, .slice none 0 0] 76) = W1 := ⟨_, rfl⟩
  rw [hqb]
  clear h h2 hn hnm
  go_enter Try.func14, Try.ntmps14
  by_cases h1 : 20 < n
  · have h1i : (20 : Int) < (n : Int) := by omega
    clear hqb hW1
    go_wp2_with fail
    refine (awake_any _).mono ?_
    rintro e w9 ⟨rfl, hb9⟩
    go_wp2_with fail
    go_ret
    exact HFIN.out _ _ rfl (HTR.out _ _ HB0.out hb9)
  have h1i : ¬ (20 : Int) < (n : Int) := by omega
  by_cases h3 : 20 < nm
  · have h3i : (20 : Int) < (nm : Int) := by omega
    clear hqb hW1
    go_wp2_with fail
    refine (awake_any _).mono ?_
    rintro e w9 ⟨rfl, hb9⟩
    go_wp2_with fail
    go_ret
    exact HFIN.out _ _ rfl (HTR.out _ _ HB0.out hb9)
  have h3i : ¬ (20 : Int) < (nm : Int) := by omega
  go_upto_region 5 with (fail)
  obtain ⟨sb, hsb⟩ : ∃ sb, W1.heap.size = sb := ⟨_, rfl⟩
  obtain ⟨W2, hW2⟩ : ∃ W2, W1.alloc (.cells #[.pointer none, .pointer (some ⟨qb, 0, none⟩)] 24) = W2 := ⟨_, rfl⟩
  have HB2 : Hid (Below qb w W2) := Lib.hid (by
    rw [← hW2, ← hW1, ← hqb]
    exact ((Below.refl _ w).alloc (Nat.le_refl _) _).alloc (by simp) _)
  have HS2 : Hid (∀ w1, Below W2.heap.size W2 w1 → w1.cell? ⟨sb, 0, none⟩ = some (.pointer none) ∧ w1.cell? ⟨sb, 1, none⟩ = some (.pointer (some ⟨qb, 0, none⟩)) ∧ NoVot w1 (.pointer (some ⟨qb, 0, none⟩))) := Lib.hid fun w1 h5 => by
    have k1 : Bk W2 sb 24 #[.pointer none, .pointer (some ⟨qb, 0, none⟩)] := by rw [← hW2, ← hsb]; exact Bk.new _ _ _
    have k2 : Bk W2 qb 76 #[.int .i64 0, .int .i64 0, .slice none 0 0, .slice none 0 0] := by rw [← hW2, ← hW1, ← hqb]; exact (Bk.new _ _ _).alloc _
    have k3 := k1.below h5 k1.lt
    exact ⟨k3.cell 0, k3.cell 1, Or.inr ⟨qb, 0, 0, rfl, k2.below h5 k2.lt⟩⟩
  rw [hW2, hsb]
  clear hW2 hsb hW1 hqb HB0
  have HB2W : Hid (Below W2.heap.size W2 W2) := Lib.hid (Below.refl _ _)
  go_wp2_with fail
  go_loopw [7] (fun i wr => ∃ k : Nat, k ≤ 2 ∧ i = .int .i64 k ∧ Hid (Below W2.heap.size W2 wr)) (fun i _ => 2 - (intOf i).toNat)
  case atStart => exact ⟨0, Nat.zero_le _, rfl, HB2W⟩
  case round =>
    clear HB2W
    obtain ⟨k, hk, rfl, hs⟩ := hrel
    by_cases hlt : k < 2
    · have hki : (k : Int) < 2 := by omega
      have h0k : (0 : Int) ≤ (k : Int) := by omega
      obtain ⟨v, hv⟩ : ∃ v, ∀ w1, Below W2.heap.size W2 w1 → w1.cell? ⟨sb, k, none⟩ = some v ∧ NoVot w1 v := by
        obtain rfl | rfl : k = 0 ∨ k = 1 := by omega
        · exact ⟨_, fun w1 h5 => ⟨(HS2.out w1 h5).1, Or.inl rfl⟩⟩
        · exact ⟨_, fun w1 h5 => ⟨(HS2.out w1 h5).2.1, (HS2.out w1 h5).2.2⟩⟩
      have d0 := (hv wr hs.out).1
      have HVN := Lib.hid (voteNo_any wr v (hv wr hs.out).2 A n c)
      have HCE : Hid (∀ w1, Below wr.heap.size wr w1 → w1.cell? ⟨sb, k, none⟩ = some v) := Lib.hid fun w1 h5 => (hv w1 (hs.out.trans (h5.mono hs.out.size))).1
      have HLI : Hid (∀ w1, Below wr.heap.size wr w1 → Calls Try.prog 18 #[v] w1 fun e w' => e = .returned (.slice none 0 0) ∧ Below w1.heap.size w1 w') := Lib.hid fun w1 h5 => (liveNo_any w1 v (hv w1 (hs.out.trans (h5.mono hs.out.size))).2).mono fun _ _ ⟨h6, h7⟩ => ⟨h6, by rw [h7]; exact Below.refl _ _⟩
      have HCO : Hid (∀ w1, Below wr.heap.size wr w1 → Calls Try.prog 40 #[v] w1 fun e w' => e = .returned (.slice none 0 0) ∧ Below w1.heap.size w1 w') := Lib.hid fun w1 h5 => (countsNo_any w1 v (hv w1 (hs.out.trans (h5.mono hs.out.size))).2).mono fun _ _ ⟨h6, h7⟩ => ⟨h6, by rw [h7]; exact Below.refl _ _⟩
      clear hv
      go_wp2_with fail
      refine HVN.out.mono ?_
      rintro e w1 ⟨rfl, hw⟩
      rw [hw]
      clear hw d0
      go_wp2_with fail
      refine wp_region_steps (by kernel_rfl) (by kernel_rfl) (fun w1 => Below wr.heap.size wr w1) (fun _ _ _ => True)
        (fun ix u _ _ => match ix with
          | 0 => u = .int .i64 0
          | 1 => u = .bool false
          | 2 => u = .bool false
          | 3 => u = .int .i64 1
          | 4 => u = .bool false
          | 5 => u = .bool false
          | 6 => u = .bool false
          | 7 => u = .slice (some ⟨sb, 0, none⟩) 2 2
          | 8 => u = .int .i64 k
          | 9 => u = .pointer (some ⟨sb, k, none⟩)
          | 10 => u = v
          | 11 => u = .slice none 0 0
          | 12 => u = .int .i64 0
          | 13 => u = .slice (some ⟨sb, 0, none⟩) 2 2
          | 14 => u = .int .i64 k
          | 15 => u = .pointer (some ⟨sb, k, none⟩)
          | 16 => u = v
          | 17 => u = .slice none 0 0
          | 18 => u = .int .i64 0
          | 19 => u = .int .i64 0
          | 20 => u = .bool false
          | _ => u = .bool false) (Below.refl _ _).drew (fun _ _ _ _ _ _ _ _ h _ _ => h) ?_ ?_
      · refine ⟨?_, ?_, ?_, ?_, ?_, ?_, ?_, ?_, ?_, ?_, ?_, ?_, ?_, ?_, ?_, ?_, ?_, ?_, ?_, ?_, ?_, ?_, trivial⟩
        · intro a w1 vs K HJ HK HD HN kk
          have e8 := HK 8 (by decide)
          go_simp; exact kk _ _ (by simp) HJ trivial rfl
        · intro a w1 vs K HJ HK HD HN kk
          have e50 := (HD 0 _ 50 rfl rfl rfl).1.trans (HD 0 _ 50 rfl rfl rfl).2
          go_simp; exact kk _ _ (by simp) HJ trivial rfl
        · intro a w1 vs K HJ HK HD HN kk
          have e51 := (HD 1 _ 51 rfl rfl rfl).1.trans (HD 1 _ 51 rfl rfl rfl).2
          go_simp; exact kk _ _ (by simp) HJ trivial rfl
        · intro a w1 vs K HJ HK HD HN kk
          have e52 := (HD 2 _ 52 rfl rfl rfl).1.trans (HD 2 _ 52 rfl rfl rfl).2
          rw [if_pos (wanted_yes 2 false rfl rfl rfl e52)]
          have e9 := HK 9 (by decide)
          go_simp; exact kk _ _ (by simp) HJ trivial rfl
        · intro a w1 vs K HJ HK HD HN kk
          have e52 := (HD 2 _ 52 rfl rfl rfl).1.trans (HD 2 _ 52 rfl rfl rfl).2
          rw [if_pos (wanted_yes 2 false rfl rfl rfl e52)]
          have e53 := (HD 3 _ 53 rfl rfl rfl).1.trans (HD 3 _ 53 rfl rfl rfl).2
          go_simp; exact kk _ _ (by simp) HJ trivial rfl
        · intro a w1 vs K HJ HK HD HN kk
          have e52 := (HD 2 _ 52 rfl rfl rfl).1.trans (HD 2 _ 52 rfl rfl rfl).2
          have e54 := (HD 4 _ 54 rfl rfl rfl).1.trans (HD 4 _ 54 rfl rfl rfl).2
          go_simp; exact kk _ _ (by simp) HJ trivial rfl
        · intro a w1 vs K HJ HK HD HN kk
          have e55 := (HD 5 _ 55 rfl rfl rfl).1.trans (HD 5 _ 55 rfl rfl rfl).2
          go_simp; exact kk _ _ (by simp) HJ trivial rfl
        · intro a w1 vs K HJ HK HD HN kk
          have e56 := (HD 6 _ 56 rfl rfl rfl).1.trans (HD 6 _ 56 rfl rfl rfl).2
          rw [if_pos (wanted_yes 6 false rfl rfl rfl e56)]
          have e6 := HK 6 (by decide)
          go_simp; exact kk _ _ (by simp) HJ trivial rfl
        · intro a w1 vs K HJ HK HD HN kk
          have e56 := (HD 6 _ 56 rfl rfl rfl).1.trans (HD 6 _ 56 rfl rfl rfl).2
          rw [if_pos (wanted_yes 6 false rfl rfl rfl e56)]
          have e7 := HK 7 (by decide)
          go_simp; exact kk _ _ (by simp) HJ trivial rfl
        · intro a w1 vs K HJ HK HD HN kk
          have e56 := (HD 6 _ 56 rfl rfl rfl).1.trans (HD 6 _ 56 rfl rfl rfl).2
          rw [if_pos (wanted_yes 6 false rfl rfl rfl e56)]
          have e57 := (HD 7 _ 57 rfl rfl rfl).1.trans (HD 7 _ 57 rfl rfl rfl).2
          have e58 := (HD 8 _ 58 rfl rfl rfl).1.trans (HD 8 _ 58 rfl rfl rfl).2
          go_simp; exact kk _ _ (by simp) HJ trivial rfl
        · intro a w1 vs K HJ HK HD HN kk
          have e56 := (HD 6 _ 56 rfl rfl rfl).1.trans (HD 6 _ 56 rfl rfl rfl).2
          rw [if_pos (wanted_yes 6 false rfl rfl rfl e56)]
          have e59 := (HD 9 _ 59 rfl rfl rfl).1.trans (HD 9 _ 59 rfl rfl rfl).2
          have ca := HCE.out w1 HJ
          go_simp; exact kk _ _ (by simp) HJ trivial rfl
        · intro a w1 vs K HJ HK HD HN kk
          have e56 := (HD 6 _ 56 rfl rfl rfl).1.trans (HD 6 _ 56 rfl rfl rfl).2
          rw [if_pos (wanted_yes 6 false rfl rfl rfl e56)]
          have e60 := (HD 10 _ 60 rfl rfl rfl).1.trans (HD 10 _ 60 rfl rfl rfl).2
          exact wpo_call 18 _ _ rfl #[v] (by simp [Act.eval, e60]) (fun args w => by kernel_rfl)
            ((HLI.out w1 HJ).mono fun e w' ⟨he, hb⟩ => ⟨_, he, kk _ _ (by simp) (Below.trans HJ (hb.mono HJ.size)) trivial rfl⟩)
        · intro a w1 vs K HJ HK HD HN kk
          have e56 := (HD 6 _ 56 rfl rfl rfl).1.trans (HD 6 _ 56 rfl rfl rfl).2
          rw [if_pos (wanted_yes 6 false rfl rfl rfl e56)]
          have e61 := (HD 11 _ 61 rfl rfl rfl).1.trans (HD 11 _ 61 rfl rfl rfl).2
          go_simp; exact kk _ _ (by simp) HJ trivial rfl
        · intro a w1 vs K HJ HK HD HN kk
          have e56 := (HD 6 _ 56 rfl rfl rfl).1.trans (HD 6 _ 56 rfl rfl rfl).2
          rw [if_pos (wanted_yes 6 false rfl rfl rfl e56)]
          have e6 := HK 6 (by decide)
          go_simp; exact kk _ _ (by simp) HJ trivial rfl
        · intro a w1 vs K HJ HK HD HN kk
          have e56 := (HD 6 _ 56 rfl rfl rfl).1.trans (HD 6 _ 56 rfl rfl rfl).2
          rw [if_pos (wanted_yes 6 false rfl rfl rfl e56)]
          have e7 := HK 7 (by decide)
          go_simp; exact kk _ _ (by simp) HJ trivial rfl
        · intro a w1 vs K HJ HK HD HN kk
          have e56 := (HD 6 _ 56 rfl rfl rfl).1.trans (HD 6 _ 56 rfl rfl rfl).2
          rw [if_pos (wanted_yes 6 false rfl rfl rfl e56)]
          have e63 := (HD 13 _ 63 rfl rfl rfl).1.trans (HD 13 _ 63 rfl rfl rfl).2
          have e64 := (HD 14 _ 64 rfl rfl rfl).1.trans (HD 14 _ 64 rfl rfl rfl).2
          go_simp; exact kk _ _ (by simp) HJ trivial rfl
        · intro a w1 vs K HJ HK HD HN kk
          have e56 := (HD 6 _ 56 rfl rfl rfl).1.trans (HD 6 _ 56 rfl rfl rfl).2
          rw [if_pos (wanted_yes 6 false rfl rfl rfl e56)]
          have e65 := (HD 15 _ 65 rfl rfl rfl).1.trans (HD 15 _ 65 rfl rfl rfl).2
          have ca := HCE.out w1 HJ
          go_simp; exact kk _ _ (by simp) HJ trivial rfl
        · intro a w1 vs K HJ HK HD HN kk
          have e56 := (HD 6 _ 56 rfl rfl rfl).1.trans (HD 6 _ 56 rfl rfl rfl).2
          rw [if_pos (wanted_yes 6 false rfl rfl rfl e56)]
          have e66 := (HD 16 _ 66 rfl rfl rfl).1.trans (HD 16 _ 66 rfl rfl rfl).2
          exact wpo_call 40 _ _ rfl #[v] (by simp [Act.eval, e66]) (fun args w => by kernel_rfl)
            ((HCO.out w1 HJ).mono fun e w' ⟨he, hb⟩ => ⟨_, he, kk _ _ (by simp) (Below.trans HJ (hb.mono HJ.size)) trivial rfl⟩)
        · intro a w1 vs K HJ HK HD HN kk
          have e56 := (HD 6 _ 56 rfl rfl rfl).1.trans (HD 6 _ 56 rfl rfl rfl).2
          rw [if_pos (wanted_yes 6 false rfl rfl rfl e56)]
          have e67 := (HD 17 _ 67 rfl rfl rfl).1.trans (HD 17 _ 67 rfl rfl rfl).2
          go_simp; exact kk _ _ (by simp) HJ trivial rfl
        · intro a w1 vs K HJ HK HD HN kk
          have e56 := (HD 6 _ 56 rfl rfl rfl).1.trans (HD 6 _ 56 rfl rfl rfl).2
          rw [if_pos (wanted_yes 6 false rfl rfl rfl e56)]
          have e62 := (HD 12 _ 62 rfl rfl rfl).1.trans (HD 12 _ 62 rfl rfl rfl).2
          have e68 := (HD 18 _ 68 rfl rfl rfl).1.trans (HD 18 _ 68 rfl rfl rfl).2
          go_simp; exact kk _ _ (by simp) HJ trivial rfl
        · intro a w1 vs K HJ HK HD HN kk
          have e56 := (HD 6 _ 56 rfl rfl rfl).1.trans (HD 6 _ 56 rfl rfl rfl).2
          rw [if_pos (wanted_yes 6 false rfl rfl rfl e56)]
          have e69 := (HD 19 _ 69 rfl rfl rfl).1.trans (HD 19 _ 69 rfl rfl rfl).2
          go_simp; exact kk _ _ (by simp) HJ trivial rfl
        · intro a w1 vs K HJ HK HD HN kk
          have e56 := (HD 6 _ 56 rfl rfl rfl).1.trans (HD 6 _ 56 rfl rfl rfl).2
          have e70 := (HD 20 _ 70 rfl rfl rfl).1.trans (HD 20 _ 70 rfl rfl rfl).2
          go_simp; exact kk _ _ (by simp) HJ trivial rfl
      · intro vs w4 hw4 hrr
        have e21 : vs 21 = .bool false := hrr 21 _ rfl
        have HB4 : Hid (Below W2.heap.size W2 w4) := Lib.hid (hs.out.trans (hw4.mono hs.out.size))
        clear hrr hw4
        simp only [putAll, Act.put, List.setIfInBounds_toArray, List.set_cons_zero, List.set_cons_succ]
        rw [e21]
        clear e21
        go_wp2_with fail
        go_roundw
        case rel => exact ⟨k + 1, by omega, by go_num, HB4⟩
        case measure => simp [intOf]; omega
    · obtain rfl : k = 2 := by omega
      have HBr : Hid (Below qb w wr) := Lib.hid (HTR.out _ _ HB2.out hs.out)
      clear HB2 HS2 hs
      have HLQ : Hid (∀ w1, Below qb w w1 → Sl w1 w1.heap.size 2 A n fun i => rdC (l.getD i rd0)) := Lib.hid fun w1 h5 => by
        have h6 := Sl.later HL.out (by rw [HQB.out]; exact h5)
        rw [HN.out] at h6; exact h6
      have HMQ : Hid (∀ w1, Below qb w w1 → Sl w1 w1.heap.size 4 A2 nm fun i => msgC (ms.getD i msg0)) := Lib.hid fun w1 h5 => by
        have h6 := Sl.later HM.out (by rw [HQB.out]; exact h5)
        rw [HNM.out] at h6; exact h6
      obtain ⟨iR, zR, hiR, hzR, hsR, hyR⟩ := info_ex info_rdx
      obtain ⟨iM, zM, hiM, hzM, hsM, hyM⟩ := info_ex info_msgx
      have hqr : qb ≤ wr.heap.size := by have := HBr.out.size; have := HQB.out; omega
      go_wp2_with (at_builtin; refine wpList_copyAll rfl 22 _ _ rfl 30 iR zR Try.underlying22 hiR hzR 2 hsR hyR ⟨wr.heap.size, 0, none⟩ rfl A n c rfl (fun i => rdC (l.getD i rd0)) (HLQ.out _ (HBr.out.alloc hqr _)) (by omega) ?_)
      intro A3 c3 w3 hcl3 hb3
      have hbr3 : Below qb w w3 := HTR.out _ _ (HBr.out.alloc hqr (.cells #[] 30)) (by rw [World.size_alloc]; exact hb3)
      have HB3 := Lib.hid hbr3
      have HC3 := Lib.hid hcl3
      have hq3 : qb ≤ w3.heap.size := by have := HB3.out.size; have := HQB.out; omega
      clear hcl3 hb3 hbr3
      go_wp2_with (at_builtin; refine wpList_copyAll rfl 41 _ _ rfl 80 iM zM Try.underlying41 hiM hzM 4 hsM hyM ⟨w3.heap.size, 0, none⟩ rfl A2 nm c2 rfl (fun i => msgC (ms.getD i msg0)) (HMQ.out _ (HB3.out.alloc hq3 _)) (by omega) ?_)
      intro A4 c4 w5x hcl4 hb4
      have hb45 : Below w3.heap.size w3 w5x := ((Below.refl _ w3).alloc (Nat.le_refl _) _).trans (hb4.mono (by simp))
      have HB5 : Hid (Below qb w w5x) := Lib.hid (HTR.out _ _ HB3.out hb45)
      have HRC : Hid (∀ w1, Below w5x.heap.size w5x w1 → Sl w1 w1.heap.size 2 A3 n fun i => rdC (l.getD i rd0)) := Lib.hid fun w1 h5 => Sl.later (Sl.later HC3.out.sl hb45) h5
      have HMC : Hid (∀ w1, Below w5x.heap.size w5x w1 → Sl w1 w1.heap.size 4 A4 nm fun i => msgC (ms.getD i msg0)) := Lib.hid fun w1 h5 => Sl.later hcl4.sl h5
      clear hcl4 hb4 hb45 HC3 HB3 HBr hqr hq3 hiR hzR hsR hyR hiM hzM hsM hyM
      obtain ⟨pb, hpb⟩ : ∃ pb, w5x.heap.size = pb := ⟨_, rfl⟩
      have HPB := Lib.hid hpb
      have HT5 : Hid (∀ a b, Below pb w5x a → Below a.heap.size a b → Below pb w5x b) := Lib.hid fun a b h5 h6 => h5.trans (h6.mono (by rw [← hpb]; exact h5.size))
      have HSC : Hid (∀ w1, Below pb w5x w1 → Calls Try.prog 21 #[.slice A2 nm c2] w1 fun e w' => ∃ A9 c9 tl, ∃ T : List Int, ∃ p1 p2 er : Int, e = .returned (.tuple #[.slice A9 tl c9, .agg #[.int .i64 p1, .int .i64 p2], .int .i64 er]) ∧ T.length = tl ∧ IntsAt w' w'.heap.size A9 T ∧ Below w1.heap.size w1 w') := Lib.hid fun w1 h5 => by
        have h6 := schedule_any w1 A2 c2 ms (by have := HMQ.out w1 (HTR.out _ _ HB5.out (h5.mono (Nat.le_of_eq hpb))); rw [← HNM.out] at this; exact this)
        rw [HNM.out] at h6
        exact h6.mono fun _ _ ⟨A9, c9, T, p, er, _, g1, g2, g3⟩ => ⟨A9, c9, T.length, T, _, _, er, g1, rfl, g2.sl, g3⟩
      have HB55 : Hid (Below pb w5x w5x) := Lib.hid (Below.refl _ _)
      obtain ⟨ok, hok⟩ : ∃ ok, newOk n 1 1 = ok := ⟨_, rfl⟩
      have HOK := Lib.hid hok
      obtain ⟨V0, hV0⟩ : ∃ V0, newV n 1 1 = V0 := ⟨_, rfl⟩
      have HV0 := Lib.hid hV0
      have HNV : Hid (Calls Try.prog 15 #[.int .i64 n, .int .i64 1, .int .i64 1] w5x fun e w1 => Below pb w5x w1 ∧ (ok = false → e = .returned (.tuple #[.pointer none, .int .i64 4])) ∧ (ok = true → ∃ X, e = .returned (.tuple #[.pointer (some ⟨X.vb, 0, none⟩), .int .i64 0]) ∧ VotAt w1 pb X V0)) := Lib.hid ((newVoter_any w5x n 1 1).mono fun e w1 ⟨g1, g2, g3⟩ => by
        rw [hok] at g2 g3
        rw [Int.toNat_natCast, hV0] at g3
        rw [hpb] at g1 g3
        exact ⟨g1, g2, g3⟩)
      have HRN : Hid (∀ w1, Calls Try.prog 33 #[.int .i64 n, .int .i64 1, .int .i64 1] w1 fun e w2 => Below w1.heap.size w1 w2 ∧ (ok = true → ∃ Al cl Ac cc, e = .returned (.tuple #[.agg (rvA V0 Al cl Ac cc), .int .i64 0]) ∧ RVot w2 V0 Al Ac)) := Lib.hid fun w1 => (refNewVoter_any w1 n 1 1).mono fun e w2 ⟨g1, g2, g3⟩ => by
        rw [hok, Int.toNat_natCast, hV0] at g3
        exact ⟨g1, fun g => by obtain ⟨Al, cl, Ac, cc, k1, k2, _⟩ := g3 g; exact ⟨Al, cl, Ac, cc, k1, k2⟩⟩
      clear hok hV0 hpb
      go_wp2_with fail
      refine HNV.out.mono ?_
      rintro e w6 ⟨hb6, hno, hyes⟩
      have HB6 := Lib.hid hb6
      have HNO := Lib.hid hno
      have HYES := Lib.hid hyes
      clear hb6 hno hyes HNV
      cases ok with
      | false =>
        have he := HNO.out rfl
        subst he
        clear HNO HYES HRN
        go_wp2_with fail
        refine (HSC.out _ HB6.out).mono ?_
        rintro e w20 ⟨A9, c9, tl, T, p1, p2, er9, rfl, hT, hti, hb20⟩
        have HB20 := Lib.hid (HT5.out _ _ HB6.out hb20)
        have HSV : Hid (∀ w1, Below w20.heap.size w20 w1 → Calls Try.prog 37 #[.slice A2 nm c2, .slice A9 tl c9] w1 fun e w' => ∃ b, e = .returned (.bool b) ∧ Below w1.heap.size w1 w') := Lib.hid fun w1 h5 => by
          have h6 := serves_any w1 A2 c2 ms (by have := HMQ.out w1 (HTR.out _ _ HB5.out ((HT5.out _ _ HB20.out h5).mono (Nat.le_of_eq HPB.out))); rw [← HNM.out] at this; exact this) A9 c9 T (Sl.later hti h5)
          rw [HNM.out, hT] at h6
          exact h6.mono fun _ _ ⟨b, g1, _, g3⟩ => ⟨b, g1, g3⟩
        clear hT hti hb20
        go_wp2_with fail
        refine (HSV.out _ (below_al (Below.refl _ w20) (Nat.le_refl _) _)).mono ?_
        rintro e w21 ⟨b9, rfl, hb21⟩
        have HB21 : Hid (Below pb w5x w21) := Lib.hid (HT5.out _ _ HB20.out ((below_al (Below.refl _ w20) (Nat.le_refl _) _).trans (hb21.mono (by simp))))
        clear hb21 HSV
        go_wp2_with fail
        go_loopw [22] (fun i wr => ∃ k : Nat, k ≤ n ∧ i = .int .i64 k ∧ Hid (Below pb w5x wr)) (fun i _ => n - (intOf i).toNat)
        case atStart => exact ⟨0, Nat.zero_le _, rfl, HB21⟩
        case round =>
          clear HB21
          obtain ⟨k, hk, rfl, hs⟩ := hrel
          by_cases hlt : k < n
          · have hki : (k : Int) < (n : Int) := by omega
            have h0k : (0 : Int) ≤ (k : Int) := by omega
            obtain ⟨⟨rv, rt⟩, hr⟩ : ∃ r, l.getD k rd0 = r := ⟨_, rfl⟩
            have HWR : Hid (∀ w1, Below wr.heap.size wr w1 → Below w5x.heap.size w5x w1) := Lib.hid fun w1 h5 => by rw [HPB.out]; exact HT5.out _ _ hs.out h5
            obtain ⟨ba, oa, rfl, _, _⟩ := Sl.at2 (HLQ.out wr (HTR.out _ _ HB5.out (HWR.out _ (Below.refl _ _)))) hlt
            obtain ⟨bb, ob, rfl, _, _⟩ := Sl.at2 (HRC.out wr (HWR.out _ (Below.refl _ _))) hlt
            have HCA : Hid (∀ w1, Below wr.heap.size wr w1 → ∀ j u, (#[.int .i64 rv, .bool rt] : Array Value)[j]? = some u → w1.cell? ⟨ba, oa + k * 2 + j, none⟩ = some u) := Lib.hid fun w1 h5 => Sl.cells (HLQ.out w1 (HTR.out _ _ HB5.out (HWR.out _ h5))) hlt _ rfl (by rw [hr]; intro j hj; match j, hj with | 0, _ => rfl | 1, _ => rfl)
            have HCB : Hid (∀ w1, Below wr.heap.size wr w1 → ∀ j u, (#[.int .i64 rv, .bool rt] : Array Value)[j]? = some u → w1.cell? ⟨bb, ob + k * 2 + j, none⟩ = some u) := Lib.hid fun w1 h5 => Sl.cells (HRC.out w1 (HWR.out _ h5)) hlt _ rfl (by rw [hr]; intro j hj; match j, hj with | 0, _ => rfl | 1, _ => rfl)
            clear hr
            go_wp2_with fail
            refine wp_region_steps (by kernel_rfl) (by kernel_rfl) (fun w1 => Below wr.heap.size wr w1) (fun _ _ _ => True)
              (fun ix u _ _ => match ix with
                | 0 => u = .slice (some ⟨ba, oa, none⟩) n c
                | 1 => u = .int .i64 k
                | 2 => u = .pointer (some ⟨ba, oa + k * 2, none⟩)
                | 3 => u = .agg #[.int .i64 rv, .bool rt]
                | 4 => u = .slice (some ⟨bb, ob, none⟩) n c3
                | 5 => u = .int .i64 k
                | 6 => u = .pointer (some ⟨bb, ob + k * 2, none⟩)
                | 7 => u = .agg #[.int .i64 rv, .bool rt]
                | _ => u = .bool false) (Below.refl _ _).drew (fun _ _ _ _ _ _ _ _ h _ _ => h) ?_ ?_
            · refine ⟨?_, ?_, ?_, ?_, ?_, ?_, ?_, ?_, ?_, trivial⟩
              · intro a w1 vs K HJ HK HD HN kk
                have e0 := HK 0 (by decide)
                go_simp; exact kk _ _ (by simp) HJ trivial rfl
              · intro a w1 vs K HJ HK HD HN kk
                have e22 := HK 22 (by decide)
                go_simp; exact kk _ _ (by simp) HJ trivial rfl
              · intro a w1 vs K HJ HK HD HN kk
                have e152 := (HD 0 _ 152 rfl rfl rfl).1.trans (HD 0 _ 152 rfl rfl rfl).2
                have e153 := (HD 1 _ 153 rfl rfl rfl).1.trans (HD 1 _ 153 rfl rfl rfl).2
                go_simp; exact kk _ _ (by simp) HJ trivial rfl
              · intro a w1 vs K HJ HK HD HN kk
                have e154 := (HD 2 _ 154 rfl rfl rfl).1.trans (HD 2 _ 154 rfl rfl rfl).2
                exact wpo_loadS 30 (.tmp 154) rfl ba (oa + k * 2) (by simpa [Act.eval] using e154) #[.int .i64 rv, .bool rt] _ (HCA.out w1 HJ) und_rdS rfl info_rd2 (kk _ _ (by simp) HJ trivial rfl)
              · intro a w1 vs K HJ HK HD HN kk
                have e10 := HK 10 (by decide)
                go_simp; exact kk _ _ (by simp) HJ trivial rfl
              · intro a w1 vs K HJ HK HD HN kk
                have e22 := HK 22 (by decide)
                go_simp; exact kk _ _ (by simp) HJ trivial rfl
              · intro a w1 vs K HJ HK HD HN kk
                have e156 := (HD 4 _ 156 rfl rfl rfl).1.trans (HD 4 _ 156 rfl rfl rfl).2
                have e157 := (HD 5 _ 157 rfl rfl rfl).1.trans (HD 5 _ 157 rfl rfl rfl).2
                go_simp; exact kk _ _ (by simp) HJ trivial rfl
              · intro a w1 vs K HJ HK HD HN kk
                have e158 := (HD 6 _ 158 rfl rfl rfl).1.trans (HD 6 _ 158 rfl rfl rfl).2
                exact wpo_loadS 30 (.tmp 158) rfl bb (ob + k * 2) (by simpa [Act.eval] using e158) #[.int .i64 rv, .bool rt] _ (HCB.out w1 HJ) und_rdS rfl info_rd2 (kk _ _ (by simp) HJ trivial rfl)
              · intro a w1 vs K HJ HK HD HN kk
                have e155 := (HD 3 _ 155 rfl rfl rfl).1.trans (HD 3 _ 155 rfl rfl rfl).2
                have e159 := (HD 7 _ 159 rfl rfl rfl).1.trans (HD 7 _ 159 rfl rfl rfl).2
                have hq := eqRd ⟨rv, rt⟩ w1
                simp only at hq
                go_simp; exact kk _ _ (by simp) HJ trivial rfl
            · intro vs w4 hw4 hrr
              have e8 : vs 8 = .bool false := hrr 8 _ rfl
              have HB4 := Lib.hid (HT5.out _ _ hs.out hw4)
              clear hrr hw4
              simp only [putAll, Act.put, List.setIfInBounds_toArray, List.set_cons_zero, List.set_cons_succ]
              rw [e8]
              clear e8
              go_wp2_with fail
              go_roundw
              case rel => exact ⟨k + 1, by omega, by go_num, HB4⟩
              case measure => simp [intOf]; omega
          · obtain rfl : k = n := by omega
            have HB22 := Lib.hid hs.out
            clear hs
            go_wp2_with fail
            go_loopw [23] (fun i wr => ∃ j : Nat, j ≤ nm ∧ i = .int .i64 j ∧ Hid (Below pb w5x wr)) (fun i _ => nm - (intOf i).toNat)
            case atStart => exact ⟨0, Nat.zero_le _, rfl, HB22⟩
            case round =>
              clear HB22
              obtain ⟨j, hj, rfl, hs⟩ := hrel
              by_cases hlt : j < nm
              · have hki : (j : Int) < (nm : Int) := by omega
                have h0k : (0 : Int) ≤ (j : Int) := by omega
                obtain ⟨⟨mn, m1, m2, m3⟩, hr⟩ : ∃ r, ms.getD j msg0 = r := ⟨_, rfl⟩
                have HWR : Hid (∀ w1, Below wr.heap.size wr w1 → Below w5x.heap.size w5x w1) := Lib.hid fun w1 h5 => by rw [HPB.out]; exact HT5.out _ _ hs.out h5
                obtain ⟨ba, oa, rfl, _⟩ := (HMQ.out wr (HTR.out _ _ HB5.out (HWR.out _ (Below.refl _ _)))).2 (by omega)
                obtain ⟨bb, ob, rfl, _⟩ := (HMC.out wr (HWR.out _ (Below.refl _ _))).2 (by omega)
                have HCA : Hid (∀ w1, Below wr.heap.size wr w1 → ∀ i u, (#[.string mn, .int .i64 m1, .int .i64 m2, .int .i64 m3] : Array Value)[i]? = some u → w1.cell? ⟨ba, oa + j * 4 + i, none⟩ = some u) := Lib.hid fun w1 h5 => Sl.cells (HMQ.out w1 (HTR.out _ _ HB5.out (HWR.out _ h5))) hlt _ rfl (by rw [hr]; intro j hj; match j, hj with | 0, _ => rfl | 1, _ => rfl | 2, _ => rfl | 3, _ => rfl)
                have HCB : Hid (∀ w1, Below wr.heap.size wr w1 → ∀ i u, (#[.string mn, .int .i64 m1, .int .i64 m2, .int .i64 m3] : Array Value)[i]? = some u → w1.cell? ⟨bb, ob + j * 4 + i, none⟩ = some u) := Lib.hid fun w1 h5 => Sl.cells (HMC.out w1 (HWR.out _ h5)) hlt _ rfl (by rw [hr]; intro j hj; match j, hj with | 0, _ => rfl | 1, _ => rfl | 2, _ => rfl | 3, _ => rfl)
                clear hr
                go_wp2_with fail
                refine wp_region_steps (by kernel_rfl) (by kernel_rfl) (fun w1 => Below wr.heap.size wr w1) (fun _ _ _ => True)
                  (fun ix u _ _ => match ix with
                    | 0 => u = .slice (some ⟨ba, oa, none⟩) nm c2
                    | 1 => u = .int .i64 j
                    | 2 => u = .pointer (some ⟨ba, oa + j * 4, none⟩)
                    | 3 => u = .agg #[.string mn, .int .i64 m1, .int .i64 m2, .int .i64 m3]
                    | 4 => u = .slice (some ⟨bb, ob, none⟩) nm c4
                    | 5 => u = .int .i64 j
                    | 6 => u = .pointer (some ⟨bb, ob + j * 4, none⟩)
                    | 7 => u = .agg #[.string mn, .int .i64 m1, .int .i64 m2, .int .i64 m3]
                    | _ => u = .bool false) (Below.refl _ _).drew (fun _ _ _ _ _ _ _ _ h _ _ => h) ?_ ?_
                · refine ⟨?_, ?_, ?_, ?_, ?_, ?_, ?_, ?_, ?_, trivial⟩
                  · intro a w1 vs K HJ HK HD HN kk
                    have e1 := HK 1 (by decide)
                    go_simp; exact kk _ _ (by simp) HJ trivial rfl
                  · intro a w1 vs K HJ HK HD HN kk
                    have e23 := HK 23 (by decide)
                    go_simp; exact kk _ _ (by simp) HJ trivial rfl
                  · intro a w1 vs K HJ HK HD HN kk
                    have e167 := (HD 0 _ 167 rfl rfl rfl).1.trans (HD 0 _ 167 rfl rfl rfl).2
                    have e168 := (HD 1 _ 168 rfl rfl rfl).1.trans (HD 1 _ 168 rfl rfl rfl).2
                    go_simp; exact kk _ _ (by simp) HJ trivial rfl
                  · intro a w1 vs K HJ HK HD HN kk
                    have e169 := (HD 2 _ 169 rfl rfl rfl).1.trans (HD 2 _ 169 rfl rfl rfl).2
                    exact wpo_loadS 80 (.tmp 169) rfl ba (oa + j * 4) (by simpa [Act.eval] using e169) #[.string mn, .int .i64 m1, .int .i64 m2, .int .i64 m3] _ (HCA.out w1 HJ) und_msgS rfl info_msg4 (kk _ _ (by simp) HJ trivial rfl)
                  · intro a w1 vs K HJ HK HD HN kk
                    have e11 := HK 11 (by decide)
                    go_simp; exact kk _ _ (by simp) HJ trivial rfl
                  · intro a w1 vs K HJ HK HD HN kk
                    have e23 := HK 23 (by decide)
                    go_simp; exact kk _ _ (by simp) HJ trivial rfl
                  · intro a w1 vs K HJ HK HD HN kk
                    have e171 := (HD 4 _ 171 rfl rfl rfl).1.trans (HD 4 _ 171 rfl rfl rfl).2
                    have e172 := (HD 5 _ 172 rfl rfl rfl).1.trans (HD 5 _ 172 rfl rfl rfl).2
                    go_simp; exact kk _ _ (by simp) HJ trivial rfl
                  · intro a w1 vs K HJ HK HD HN kk
                    have e173 := (HD 6 _ 173 rfl rfl rfl).1.trans (HD 6 _ 173 rfl rfl rfl).2
                    exact wpo_loadS 80 (.tmp 173) rfl bb (ob + j * 4) (by simpa [Act.eval] using e173) #[.string mn, .int .i64 m1, .int .i64 m2, .int .i64 m3] _ (HCB.out w1 HJ) und_msgS rfl info_msg4 (kk _ _ (by simp) HJ trivial rfl)
                  · intro a w1 vs K HJ HK HD HN kk
                    have e170 := (HD 3 _ 170 rfl rfl rfl).1.trans (HD 3 _ 170 rfl rfl rfl).2
                    have e174 := (HD 7 _ 174 rfl rfl rfl).1.trans (HD 7 _ 174 rfl rfl rfl).2
                    have hq := eqMsg mn m1 m2 m3 w1
                    go_simp; exact kk _ _ (by simp) HJ trivial rfl
                · intro vs w4 hw4 hrr
                  have e8 : vs 8 = .bool false := hrr 8 _ rfl
                  have HB4 := Lib.hid (HT5.out _ _ hs.out hw4)
                  clear hrr hw4
                  simp only [putAll, Act.put, List.setIfInBounds_toArray, List.set_cons_zero, List.set_cons_succ]
                  rw [e8]
                  clear e8
                  go_wp2_with fail
                  go_roundw
                  case rel => exact ⟨j + 1, by omega, by go_num, HB4⟩
                  case measure => simp [intOf]; omega
              · obtain rfl : j = nm := by omega
                have HB23 := Lib.hid hs.out
                clear hs
                go_wp2_with fail
                refine (awake_any _).mono ?_
                rintro e w9 ⟨rfl, hb9⟩
                go_wp2_with fail
                go_ret
                exact HFIN.out _ _ rfl (HTR.out _ _ HB5.out ((HT5.out _ _ HB23.out hb9).mono (Nat.le_of_eq HPB.out)))
      | true =>
        obtain ⟨X, he, hv⟩ := HYES.out rfl
        subst he
        have HV6 := Lib.hid hv
        clear HNO HYES hv
        have hvn : V0.n = n := by rw [← HV0.out]; rfl
        have HVN := Lib.hid hvn
        have hn8 : 1 ≤ n ∧ n ≤ 8 := by have := HV6.out.n; omega
        have hqp : qb ≤ pb := by have := HB5.out.size; have := HQB.out; have := HPB.out; omega
        obtain ⟨⟨⟨x, er⟩, U⟩, hU⟩ : ∃ R, voteB V0 l = R := ⟨_, rfl⟩
        have hun : U.n = n := by have := (voteB_same V0 l).1; rw [hU] at this; exact this.trans hvn
        have HUN := Lib.hid hun
        have HVT : Hid (Calls Try.prog 17 #[.pointer (some ⟨X.vb, 0, none⟩), .slice A n c] w6 fun e w' => e = .returned (.tuple #[.int .i64 x, .int .i64 er]) ∧ VotAt w' pb X U ∧ Below pb w5x w') := Lib.hid (by
          have hbw : Below w.heap.size w w6 := by rw [HQB.out]; exact HTR.out _ _ HB5.out (HB6.out.mono (Nat.le_of_eq HPB.out))
          have hlo := HV6.out.lo
          have h5 := vote_any w6 pb X V0 HV6.out A c l (Sl.later HL.out hbw) (RdsAt.off (B := w.heap.size) (Sl.below HL.out hbw) (by rw [HN.out]; omega) (by rw [HQB.out]; omega) (by rw [HQB.out]; omega))
          rw [HN.out] at h5
          exact h5.mono fun _ _ ⟨g1, g2, g3⟩ => by
            rw [hU] at g1 g2
            exact ⟨g1, g2, HB6.out.trans (g3.below (by have := HB6.out.size; have := HPB.out; omega) hlo.2.1 hlo.2.2)⟩)
        have HRV : Hid (∀ w1 Al cl Ac cc, Below pb w5x w1 → RVot w1 V0 Al Ac → Calls Try.prog 34 #[.agg (rvA V0 Al cl Ac cc), .slice A n c] w1 fun e w' => ∃ Al' cl' Ac' cc', e = .returned (.tuple #[.agg (rvA U Al' cl' Ac' cc'), .int .i64 x, .int .i64 er]) ∧ RVot w' U Al' Ac' ∧ Below w1.heap.size w1 w') := Lib.hid fun w1 Al cl Ac cc hb hr => by
          have hbw : Below w.heap.size w w1 := by rw [HQB.out]; exact HTR.out _ _ HB5.out (hb.mono (Nat.le_of_eq HPB.out))
          have h5 := refVote_any w1 V0 Al cl Ac cc HV6.out.n HV6.out.tol hr A c l (Sl.later HL.out hbw)
          rw [HN.out] at h5
          exact h5.mono fun _ _ ⟨Al', cl', Ac', cc', g1, g2, g3, _⟩ => by
            rw [hU] at g1 g2
            exact ⟨Al', cl', Ac', cc', g1, g2, g3⟩
        clear hU hun hvn
        go_wp2_with fail
        refine HVT.out.mono ?_
        rintro e w7 ⟨rfl, hv7, hb7⟩
        have HV7 := Lib.hid hv7
        have HB7 := Lib.hid hb7
        have HLI := Lib.hid (live_any w7 pb X U hv7)
        rw [HUN.out] at HLI
        clear hv7 hb7 HVT
        go_wp2_with fail
        refine HLI.out.mono ?_
        rintro e w8 ⟨A7, c7, rfl, hcl, hb8⟩
        obtain ⟨lbb, rfl, hlb, hcur⟩ := Cl.curT hcl hn8.1
        have HC8 := Lib.hid hcur
        have HB8 := Lib.hid hb8
        have HLB := Lib.hid hlb
        have HCO := Lib.hid (counts_any w8 pb X U (HV7.out.later hb8))
        rw [HUN.out] at HCO
        clear hcl hb8 hlb hcur HLI
        go_wp2_with fail
        refine HCO.out.mono ?_
        rintro e w9 ⟨A8, c8, rfl, hcl, hb9⟩
        obtain ⟨cbb, rfl, hcb, hcur⟩ := Cl.curN hcl hn8.1
        have HCB : Hid (w7.heap.size ≤ cbb) := Lib.hid (Nat.le_trans HB8.out.size hcb)
        have HR9 : Hid (Below w7.heap.size w7 w9 ∧ (∃ L, CurT w9 lbb n L) ∧ ∃ C, CurN w9 cbb n C) := Lib.hid ⟨HB8.out.trans (hb9.mono HB8.out.size), ⟨_, HC8.out.below hb9⟩, _, hcur⟩
        clear hcl hb9 hcb hcur HCO HC8 HB8
        go_wp2_with fail
        go_loopw [16] (fun i wr => ∃ k : Nat, k ≤ n ∧ i = .int .i64 k ∧ Hid (Below w7.heap.size w7 wr ∧ (∃ L, CurT wr lbb n L) ∧ ∃ C, CurN wr cbb n C)) (fun i _ => n - (intOf i).toNat)
        case atStart => exact ⟨0, Nat.zero_le _, rfl, HR9⟩
        case round =>
          clear HR9
          obtain ⟨k, hk, rfl, hs⟩ := hrel
          by_cases hlt : k < n
          · have hki : (k : Int) < (n : Int) := by omega
            have h0k : (0 : Int) ≤ (k : Int) := by omega
            obtain ⟨hb, ⟨L, hL⟩, C, hC⟩ := hs.out
            obtain ⟨cl1, clf⟩ := hL.cell hlt
            obtain ⟨cn, cnf⟩ := hC.cell hlt
            have hne1 : cbb ≠ lbb := hC.neT hL
            have hne2 : lbb ≠ cbb := fun e => hne1 e.symm
            have HNX : Hid (∀ bx : Bool, Below w7.heap.size w7 ((wr.setCell ⟨lbb, k, none⟩ (.bool bx)).setCell ⟨cbb, k, none⟩ (.int .i64 99)) ∧ (∃ L, CurT ((wr.setCell ⟨lbb, k, none⟩ (.bool bx)).setCell ⟨cbb, k, none⟩ (.int .i64 99)) lbb n L) ∧ ∃ C, CurN ((wr.setCell ⟨lbb, k, none⟩ (.bool bx)).setCell ⟨cbb, k, none⟩ (.int .i64 99)) cbb n C) := Lib.hid fun bx => ⟨(hb.setCell (p := ⟨lbb, k, none⟩) HLB.out _).setCell (p := ⟨cbb, k, none⟩) HCB.out _, ⟨_, (hL.set (f' := fun i => if i = k then bx else L i) hlt bx (fun _ _ => rfl)).only (Only.setCell _ _ _ _) hne2⟩, _, (hC.only (Only.setCell _ _ _ _) hne1).set (f' := fun i => if i = k then 99 else C i) hlt 99 (fun _ _ => rfl)⟩
            clear hb hL hC hs
            go_wp2_with fail
            go_roundw
            case rel => exact ⟨k + 1, by omega, by go_num, Lib.hid (HNX.out _)⟩
            case measure => simp [intOf]; omega
          · obtain rfl : n = k := by omega
            have HBr : Hid (Below w7.heap.size w7 wr) := Lib.hid hs.out.1
            clear hs HLB HCB
            go_wp2_with fail
            refine (HRN.out _).mono ?_
            rintro e w11 ⟨hb11, hy⟩
            obtain ⟨Al, cl, Ac, cc, he, hrv⟩ := hy (by first | trivial | rfl)
            subst he
            have HB711 : Hid (Below w7.heap.size w7 w11) := Lib.hid (HBr.out.trans (hb11.mono HBr.out.size))
            have HB11 : Hid (Below pb w5x w11) := Lib.hid (HT5.out _ _ HB7.out HB711.out)
            have HV11 := Lib.hid (HV7.out.later HB711.out)
            have HR11 := Lib.hid hrv
            rw [show rvA V0 Al cl Ac cc = #[.int .i64 V0.tol, .int .i64 V0.pat, .slice Al V0.n cl, .slice Ac V0.n cc] from rfl]
            clear hb11 hy hrv HRN HBr HB711
            go_upto_region 22 with (fail)
            obtain ⟨W12, hW12⟩ : ∃ W12, w11.alloc (.cells #[.int .i64 V0.tol, .int .i64 V0.pat, .slice Al V0.n cl, .slice Ac V0.n cc] 63) = W12 := ⟨_, rfl⟩
            obtain ⟨gb, hgb⟩ : ∃ gb, w11.heap.size = gb := ⟨_, rfl⟩
            have hb12 : Below w11.heap.size w11 W12 := by rw [← hW12]; exact (Below.refl _ _).alloc (Nat.le_refl _) _
            have HK12 : Hid (Bk W12 gb 63 #[.int .i64 V0.tol, .int .i64 V0.pat, .slice Al V0.n cl, .slice Ac V0.n cc]) := Lib.hid (by rw [← hW12, ← hgb]; exact Bk.new _ _ _)
            have HB12 : Hid (Below pb w5x W12) := Lib.hid (HT5.out _ _ HB11.out hb12)
            have HV12 := Lib.hid (HV11.out.later hb12)
            have HGB : Hid (pb ≤ gb) := Lib.hid (by have := HB11.out.size; have := HPB.out; omega)
            have HCV := Lib.hid (HRV.out W12 Al cl Ac cc HB12.out (HR11.out.later hb12))
            rw [show rvA V0 Al cl Ac cc = #[.int .i64 V0.tol, .int .i64 V0.pat, .slice Al V0.n cl, .slice Ac V0.n cc] from rfl] at HCV
            rw [hW12, hgb]
            clear hW12 hgb hb12 HV11 HR11 HRV
            have ⟨g0, g1, g2, g3⟩ : W12.cell? ⟨gb, 0, none⟩ = some (.int .i64 V0.tol) ∧ W12.cell? ⟨gb, 1, none⟩ = some (.int .i64 V0.pat) ∧ W12.cell? ⟨gb, 2, none⟩ = some (.slice Al V0.n cl) ∧ W12.cell? ⟨gb, 3, none⟩ = some (.slice Ac V0.n cc) := ⟨HK12.out.cell 0, HK12.out.cell 1, HK12.out.cell 2, HK12.out.cell 3⟩
            go_wp2_with fail
            refine HCV.out.mono ?_
            rintro e w13 ⟨Al', cl', Ac', cc', rfl, hrv, hb13⟩
            have HR13 := Lib.hid hrv
            have HK13 := Lib.hid (HK12.out.below hb13 HK12.out.lt)
            have HV13 := Lib.hid (HV12.out.later hb13)
            have HB13 := Lib.hid (HT5.out _ _ HB12.out hb13)
            rw [show rvA U Al' cl' Ac' cc' = #[.int .i64 U.tol, .int .i64 U.pat, .slice Al' U.n cl', .slice Ac' U.n cc'] from rfl]
            clear hrv hb13 HCV g0 g1 g2 g3
            have ⟨g0, g1, g2, g3⟩ : w13.cell? ⟨gb, 0, none⟩ = some (.int .i64 V0.tol) ∧ w13.cell? ⟨gb, 1, none⟩ = some (.int .i64 V0.pat) ∧ w13.cell? ⟨gb, 2, none⟩ = some (.slice Al V0.n cl) ∧ w13.cell? ⟨gb, 3, none⟩ = some (.slice Ac V0.n cc) := ⟨HK13.out.cell 0, HK13.out.cell 1, HK13.out.cell 2, HK13.out.cell 3⟩
            have gf := HK13.out.free
            go_upto_region 23 with (fail)
            obtain ⟨W14, hW14⟩ : ∃ W14, (((w13.setCell ⟨gb, 0, none⟩ (.int .i64 U.tol)).setCell ⟨gb, 1, none⟩ (.int .i64 U.pat)).setCell ⟨gb, 2, none⟩ (.slice Al' U.n cl')).setCell ⟨gb, 3, none⟩ (.slice Ac' U.n cc') = W14 := ⟨_, rfl⟩
            have ho := Only.set4 w13 gb (.int .i64 U.tol) (.int .i64 U.pat) (.slice Al' U.n cl') (.slice Ac' U.n cc')
            have HK14 : Hid (Bk W14 gb 63 #[.int .i64 U.tol, .int .i64 U.pat, .slice Al' U.n cl', .slice Ac' U.n cc']) := Lib.hid (by rw [← hW14]; exact Bk.set4 HK13.out _ _ _ _)
            rw [hW14] at ho ⊢
            have HB14 : Hid (Below pb w5x W14) := Lib.hid (HB13.out.trans (ho.below HGB.out))
            have HAK := Lib.hid (alike_any W14 pb X U ⟨HV13.out.v.only ho (HV13.out.v.neT HK13.out (by decide)), HV13.out.l.only ho (HV13.out.l.neT HK13.out (by decide)), HV13.out.c.only ho (HV13.out.c.neT HK13.out (by decide)), HV13.out.lo, HV13.out.n, HV13.out.tol, HV13.out.pat⟩ Al' cl' Ac' cc' (HR13.out.only HK13.out ho))
            rw [show rvA U Al' cl' Ac' cc' = #[.int .i64 U.tol, .int .i64 U.pat, .slice Al' U.n cl', .slice Ac' U.n cc'] from rfl] at HAK
            clear hW14 ho g0 g1 g2 g3 gf
            have ⟨g0, g1, g2, g3⟩ : W14.cell? ⟨gb, 0, none⟩ = some (.int .i64 U.tol) ∧ W14.cell? ⟨gb, 1, none⟩ = some (.int .i64 U.pat) ∧ W14.cell? ⟨gb, 2, none⟩ = some (.slice Al' U.n cl') ∧ W14.cell? ⟨gb, 3, none⟩ = some (.slice Ac' U.n cc') := ⟨HK14.out.cell 0, HK14.out.cell 1, HK14.out.cell 2, HK14.out.cell 3⟩
            go_wp2_with fail
            refine HAK.out.mono ?_
            rintro e w15 ⟨rfl, hb15⟩
            have HB15 := Lib.hid (HT5.out _ _ HB14.out hb15)
            clear hb15 g0 g1 g2 g3 HAK
            go_wp2_with fail
            refine (HSC.out _ HB15.out).mono ?_
            rintro e w20 ⟨A9, c9, tl, T, p1, p2, er9, rfl, hT, hti, hb20⟩
            have HB20 := Lib.hid (HT5.out _ _ HB15.out hb20)
            have HSV : Hid (∀ w1, Below w20.heap.size w20 w1 → Calls Try.prog 37 #[.slice A2 nm c2, .slice A9 tl c9] w1 fun e w' => ∃ b, e = .returned (.bool b) ∧ Below w1.heap.size w1 w') := Lib.hid fun w1 h5 => by
              have h6 := serves_any w1 A2 c2 ms (by have := HMQ.out w1 (HTR.out _ _ HB5.out ((HT5.out _ _ HB20.out h5).mono (Nat.le_of_eq HPB.out))); rw [← HNM.out] at this; exact this) A9 c9 T (Sl.later hti h5)
              rw [HNM.out, hT] at h6
              exact h6.mono fun _ _ ⟨b, g1, _, g3⟩ => ⟨b, g1, g3⟩
            clear hT hti hb20
            go_wp2_with fail
            refine (HSV.out _ (below_al (Below.refl _ w20) (Nat.le_refl _) _)).mono ?_
            rintro e w21 ⟨b9, rfl, hb21⟩
            have HB21 : Hid (Below pb w5x w21) := Lib.hid (HT5.out _ _ HB20.out ((below_al (Below.refl _ w20) (Nat.le_refl _) _).trans (hb21.mono (by simp))))
            clear hb21 HSV
            go_wp2_with fail
            go_loopw [22] (fun i wr => ∃ k : Nat, k ≤ n ∧ i = .int .i64 k ∧ Hid (Below pb w5x wr)) (fun i _ => n - (intOf i).toNat)
            case atStart => exact ⟨0, Nat.zero_le _, rfl, HB21⟩
            case round =>
              clear HB21
              obtain ⟨k, hk, rfl, hs⟩ := hrel
              by_cases hlt : k < n
              · have hki : (k : Int) < (n : Int) := by omega
                have h0k : (0 : Int) ≤ (k : Int) := by omega
                obtain ⟨⟨rv, rt⟩, hr⟩ : ∃ r, l.getD k rd0 = r := ⟨_, rfl⟩
                have HWR : Hid (∀ w1, Below wr.heap.size wr w1 → Below w5x.heap.size w5x w1) := Lib.hid fun w1 h5 => by rw [HPB.out]; exact HT5.out _ _ hs.out h5
                obtain ⟨ba, oa, rfl, _, _⟩ := Sl.at2 (HLQ.out wr (HTR.out _ _ HB5.out (HWR.out _ (Below.refl _ _)))) hlt
                obtain ⟨bb, ob, rfl, _, _⟩ := Sl.at2 (HRC.out wr (HWR.out _ (Below.refl _ _))) hlt
                have HCA : Hid (∀ w1, Below wr.heap.size wr w1 → ∀ j u, (#[.int .i64 rv, .bool rt] : Array Value)[j]? = some u → w1.cell? ⟨ba, oa + k * 2 + j, none⟩ = some u) := Lib.hid fun w1 h5 => Sl.cells (HLQ.out w1 (HTR.out _ _ HB5.out (HWR.out _ h5))) hlt _ rfl (by rw [hr]; intro j hj; match j, hj with | 0, _ => rfl | 1, _ => rfl)
                have HCB : Hid (∀ w1, Below wr.heap.size wr w1 → ∀ j u, (#[.int .i64 rv, .bool rt] : Array Value)[j]? = some u → w1.cell? ⟨bb, ob + k * 2 + j, none⟩ = some u) := Lib.hid fun w1 h5 => Sl.cells (HRC.out w1 (HWR.out _ h5)) hlt _ rfl (by rw [hr]; intro j hj; match j, hj with | 0, _ => rfl | 1, _ => rfl)
                clear hr
                go_wp2_with fail
                refine wp_region_steps (by kernel_rfl) (by kernel_rfl) (fun w1 => Below wr.heap.size wr w1) (fun _ _ _ => True)
                  (fun ix u _ _ => match ix with
                    | 0 => u = .slice (some ⟨ba, oa, none⟩) n c
                    | 1 => u = .int .i64 k
                    | 2 => u = .pointer (some ⟨ba, oa + k * 2, none⟩)
                    | 3 => u = .agg #[.int .i64 rv, .bool rt]
                    | 4 => u = .slice (some ⟨bb, ob, none⟩) n c3
                    | 5 => u = .int .i64 k
                    | 6 => u = .pointer (some ⟨bb, ob + k * 2, none⟩)
                    | 7 => u = .agg #[.int .i64 rv, .bool rt]
                    | _ => u = .bool false) (Below.refl _ _).drew (fun _ _ _ _ _ _ _ _ h _ _ => h) ?_ ?_
                · refine ⟨?_, ?_, ?_, ?_, ?_, ?_, ?_, ?_, ?_, trivial⟩
                  · intro a w1 vs K HJ HK HD HN kk
                    have e0 := HK 0 (by decide)
                    go_simp; exact kk _ _ (by simp) HJ trivial rfl
                  · intro a w1 vs K HJ HK HD HN kk
                    have e22 := HK 22 (by decide)
                    go_simp; exact kk _ _ (by simp) HJ trivial rfl
                  · intro a w1 vs K HJ HK HD HN kk
                    have e152 := (HD 0 _ 152 rfl rfl rfl).1.trans (HD 0 _ 152 rfl rfl rfl).2
                    have e153 := (HD 1 _ 153 rfl rfl rfl).1.trans (HD 1 _ 153 rfl rfl rfl).2
                    go_simp; exact kk _ _ (by simp) HJ trivial rfl
                  · intro a w1 vs K HJ HK HD HN kk
                    have e154 := (HD 2 _ 154 rfl rfl rfl).1.trans (HD 2 _ 154 rfl rfl rfl).2
                    exact wpo_loadS 30 (.tmp 154) rfl ba (oa + k * 2) (by simpa [Act.eval] using e154) #[.int .i64 rv, .bool rt] _ (HCA.out w1 HJ) und_rdS rfl info_rd2 (kk _ _ (by simp) HJ trivial rfl)
                  · intro a w1 vs K HJ HK HD HN kk
                    have e10 := HK 10 (by decide)
                    go_simp; exact kk _ _ (by simp) HJ trivial rfl
                  · intro a w1 vs K HJ HK HD HN kk
                    have e22 := HK 22 (by decide)
                    go_simp; exact kk _ _ (by simp) HJ trivial rfl
                  · intro a w1 vs K HJ HK HD HN kk
                    have e156 := (HD 4 _ 156 rfl rfl rfl).1.trans (HD 4 _ 156 rfl rfl rfl).2
                    have e157 := (HD 5 _ 157 rfl rfl rfl).1.trans (HD 5 _ 157 rfl rfl rfl).2
                    go_simp; exact kk _ _ (by simp) HJ trivial rfl
                  · intro a w1 vs K HJ HK HD HN kk
                    have e158 := (HD 6 _ 158 rfl rfl rfl).1.trans (HD 6 _ 158 rfl rfl rfl).2
                    exact wpo_loadS 30 (.tmp 158) rfl bb (ob + k * 2) (by simpa [Act.eval] using e158) #[.int .i64 rv, .bool rt] _ (HCB.out w1 HJ) und_rdS rfl info_rd2 (kk _ _ (by simp) HJ trivial rfl)
                  · intro a w1 vs K HJ HK HD HN kk
                    have e155 := (HD 3 _ 155 rfl rfl rfl).1.trans (HD 3 _ 155 rfl rfl rfl).2
                    have e159 := (HD 7 _ 159 rfl rfl rfl).1.trans (HD 7 _ 159 rfl rfl rfl).2
                    have hq := eqRd ⟨rv, rt⟩ w1
                    simp only at hq
                    go_simp; exact kk _ _ (by simp) HJ trivial rfl
                · intro vs w4 hw4 hrr
                  have e8 : vs 8 = .bool false := hrr 8 _ rfl
                  have HB4 := Lib.hid (HT5.out _ _ hs.out hw4)
                  clear hrr hw4
                  simp only [putAll, Act.put, List.setIfInBounds_toArray, List.set_cons_zero, List.set_cons_succ]
                  rw [e8]
                  clear e8
                  go_wp2_with fail
                  go_roundw
                  case rel => exact ⟨k + 1, by omega, by go_num, HB4⟩
                  case measure => simp [intOf]; omega
              · obtain rfl : k = n := by omega
                have HB22 := Lib.hid hs.out
                clear hs
                go_wp2_with fail
                go_loopw [23] (fun i wr => ∃ j : Nat, j ≤ nm ∧ i = .int .i64 j ∧ Hid (Below pb w5x wr)) (fun i _ => nm - (intOf i).toNat)
                case atStart => exact ⟨0, Nat.zero_le _, rfl, HB22⟩
                case round =>
                  clear HB22
                  obtain ⟨j, hj, rfl, hs⟩ := hrel
                  by_cases hlt : j < nm
                  · have hki : (j : Int) < (nm : Int) := by omega
                    have h0k : (0 : Int) ≤ (j : Int) := by omega
                    obtain ⟨⟨mn, m1, m2, m3⟩, hr⟩ : ∃ r, ms.getD j msg0 = r := ⟨_, rfl⟩
                    have HWR : Hid (∀ w1, Below wr.heap.size wr w1 → Below w5x.heap.size w5x w1) := Lib.hid fun w1 h5 => by rw [HPB.out]; exact HT5.out _ _ hs.out h5
                    obtain ⟨ba, oa, rfl, _⟩ := (HMQ.out wr (HTR.out _ _ HB5.out (HWR.out _ (Below.refl _ _)))).2 (by omega)
                    obtain ⟨bb, ob, rfl, _⟩ := (HMC.out wr (HWR.out _ (Below.refl _ _))).2 (by omega)
                    have HCA : Hid (∀ w1, Below wr.heap.size wr w1 → ∀ i u, (#[.string mn, .int .i64 m1, .int .i64 m2, .int .i64 m3] : Array Value)[i]? = some u → w1.cell? ⟨ba, oa + j * 4 + i, none⟩ = some u) := Lib.hid fun w1 h5 => Sl.cells (HMQ.out w1 (HTR.out _ _ HB5.out (HWR.out _ h5))) hlt _ rfl (by rw [hr]; intro j hj; match j, hj with | 0, _ => rfl | 1, _ => rfl | 2, _ => rfl | 3, _ => rfl)
                    have HCB : Hid (∀ w1, Below wr.heap.size wr w1 → ∀ i u, (#[.string mn, .int .i64 m1, .int .i64 m2, .int .i64 m3] : Array Value)[i]? = some u → w1.cell? ⟨bb, ob + j * 4 + i, none⟩ = some u) := Lib.hid fun w1 h5 => Sl.cells (HMC.out w1 (HWR.out _ h5)) hlt _ rfl (by rw [hr]; intro j hj; match j, hj with | 0, _ => rfl | 1, _ => rfl | 2, _ => rfl | 3, _ => rfl)
                    clear hr
                    go_wp2_with fail
                    refine wp_region_steps (by kernel_rfl) (by kernel_rfl) (fun w1 => Below wr.heap.size wr w1) (fun _ _ _ => True)
                      (fun ix u _ _ => match ix with
                        | 0 => u = .slice (some ⟨ba, oa, none⟩) nm c2
                        | 1 => u = .int .i64 j
                        | 2 => u = .pointer (some ⟨ba, oa + j * 4, none⟩)
                        | 3 => u = .agg #[.string mn, .int .i64 m1, .int .i64 m2, .int .i64 m3]
                        | 4 => u = .slice (some ⟨bb, ob, none⟩) nm c4
                        | 5 => u = .int .i64 j
                        | 6 => u = .pointer (some ⟨bb, ob + j * 4, none⟩)
                        | 7 => u = .agg #[.string mn, .int .i64 m1, .int .i64 m2, .int .i64 m3]
                        | _ => u = .bool false) (Below.refl _ _).drew (fun _ _ _ _ _ _ _ _ h _ _ => h) ?_ ?_
                    · refine ⟨?_, ?_, ?_, ?_, ?_, ?_, ?_, ?_, ?_, trivial⟩
                      · intro a w1 vs K HJ HK HD HN kk
                        have e1 := HK 1 (by decide)
                        go_simp; exact kk _ _ (by simp) HJ trivial rfl
                      · intro a w1 vs K HJ HK HD HN kk
                        have e23 := HK 23 (by decide)
                        go_simp; exact kk _ _ (by simp) HJ trivial rfl
                      · intro a w1 vs K HJ HK HD HN kk
                        have e167 := (HD 0 _ 167 rfl rfl rfl).1.trans (HD 0 _ 167 rfl rfl rfl).2
                        have e168 := (HD 1 _ 168 rfl rfl rfl).1.trans (HD 1 _ 168 rfl rfl rfl).2
                        go_simp; exact kk _ _ (by simp) HJ trivial rfl
                      · intro a w1 vs K HJ HK HD HN kk
                        have e169 := (HD 2 _ 169 rfl rfl rfl).1.trans (HD 2 _ 169 rfl rfl rfl).2
                        exact wpo_loadS 80 (.tmp 169) rfl ba (oa + j * 4) (by simpa [Act.eval] using e169) #[.string mn, .int .i64 m1, .int .i64 m2, .int .i64 m3] _ (HCA.out w1 HJ) und_msgS rfl info_msg4 (kk _ _ (by simp) HJ trivial rfl)
                      · intro a w1 vs K HJ HK HD HN kk
                        have e11 := HK 11 (by decide)
                        go_simp; exact kk _ _ (by simp) HJ trivial rfl
                      · intro a w1 vs K HJ HK HD HN kk
                        have e23 := HK 23 (by decide)
                        go_simp; exact kk _ _ (by simp) HJ trivial rfl
                      · intro a w1 vs K HJ HK HD HN kk
                        have e171 := (HD 4 _ 171 rfl rfl rfl).1.trans (HD 4 _ 171 rfl rfl rfl).2
                        have e172 := (HD 5 _ 172 rfl rfl rfl).1.trans (HD 5 _ 172 rfl rfl rfl).2
                        go_simp; exact kk _ _ (by simp) HJ trivial rfl
                      · intro a w1 vs K HJ HK HD HN kk
                        have e173 := (HD 6 _ 173 rfl rfl rfl).1.trans (HD 6 _ 173 rfl rfl rfl).2
                        exact wpo_loadS 80 (.tmp 173) rfl bb (ob + j * 4) (by simpa [Act.eval] using e173) #[.string mn, .int .i64 m1, .int .i64 m2, .int .i64 m3] _ (HCB.out w1 HJ) und_msgS rfl info_msg4 (kk _ _ (by simp) HJ trivial rfl)
                      · intro a w1 vs K HJ HK HD HN kk
                        have e170 := (HD 3 _ 170 rfl rfl rfl).1.trans (HD 3 _ 170 rfl rfl rfl).2
                        have e174 := (HD 7 _ 174 rfl rfl rfl).1.trans (HD 7 _ 174 rfl rfl rfl).2
                        have hq := eqMsg mn m1 m2 m3 w1
                        go_simp; exact kk _ _ (by simp) HJ trivial rfl
                    · intro vs w4 hw4 hrr
                      have e8 : vs 8 = .bool false := hrr 8 _ rfl
                      have HB4 := Lib.hid (HT5.out _ _ hs.out hw4)
                      clear hrr hw4
                      simp only [putAll, Act.put, List.setIfInBounds_toArray, List.set_cons_zero, List.set_cons_succ]
                      rw [e8]
                      clear e8
                      go_wp2_with fail
                      go_roundw
                      case rel => exact ⟨j + 1, by omega, by go_num, HB4⟩
                      case measure => simp [intOf]; omega
                  · obtain rfl : j = nm := by omega
                    have HB23 := Lib.hid hs.out
                    clear hs
                    go_wp2_with fail
                    refine (awake_any _).mono ?_
                    rintro e w9 ⟨rfl, hb9⟩
                    go_wp2_with fail
                    go_ret
                    exact HFIN.out _ _ rfl (HTR.out _ _ HB5.out ((HT5.out _ _ HB23.out hb9).mono (Nat.le_of_eq HPB.out)))
end Go.Proofs.Ytnmccbjdfdbgpaa
