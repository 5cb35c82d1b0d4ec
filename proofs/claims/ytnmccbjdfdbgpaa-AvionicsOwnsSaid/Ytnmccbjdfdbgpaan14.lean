/- What is proved: the texts Bm Bn, one behind the other; each says at its head what it proves, and under which conditions. -/
import Derived.BigQuiet
import Derived.Test.Ytnmccbjdfdbgpaan13
/- What is proved: a contract of the document's Serves. Conditions: the messages and the table lie in memory. -/
namespace Go.Proofs.Ytnmccbjdfdbgpaa
open Go.RowKit

set_option maxRecDepth 100000 in
set_option maxHeartbeats 16000000 in
theorem refServes_any (w : World) (A : Option Addr) (c : Nat) (l : List MsgD) (h : MsgsAt w w.heap.size A l) (A' : Option Addr) (c' : Nat) (T : List Int) (h' : IntsAt w w.heap.size A' T) :
    Calls Try.prog 36 #[.slice A l.length c, .slice A' T.length c'] w (ServPost w l T) := by
  have HL := Lib.hid h
  have HT := Lib.hid h'
  have hll := h.1
  have hlt := h'.1
  have HCY := Lib.hid (refCycle_any w A c l h)
  have HFIN : Hid (∀ (b : Bool) w', (b = true ↔ servQ l T) → Below w.heap.size w w' → ServPost w l T (.returned (.bool b)) w') := Lib.hid fun b w' h1 h2 => ⟨b, rfl, h1, h2⟩
  have HOK := Lib.hid (cycle_ok (l := l))
  have HQ : Hid (servQ l T → (cycleB l).2 = 0 ∧ T.length = cycleN l) := Lib.hid fun h => ⟨h.1, h.2.1⟩
  have HRJ := Lib.hid fun (w1 : World) (h1 : MsgsAt w1 w1.heap.size A l) (hk : CycOk l (cycleN l) (jobsB (msgN l) (cycleN l))) => refJobs_any w1 A c l (cycleN l) h1 hk.valid hk.great hk.div (by have := hk.len; omega)
  obtain ⟨n, hn⟩ : ∃ n, l.length = n := ⟨_, rfl⟩
  have HN := Lib.hid hn
  obtain ⟨nt, hnt⟩ : ∃ nt, T.length = nt := ⟨_, rfl⟩
  have HNT := Lib.hid hnt
  obtain ⟨er, her⟩ : ∃ er, (cycleB l).2 = er := ⟨_, rfl⟩
  have HER := Lib.hid her
  obtain ⟨C0, hC0⟩ : ∃ C0, (cycleB l).1 = C0 := ⟨_, rfl⟩
  rw [hC0, her] at HCY HOK
  rw [her, hnt] at HQ
  rw [hn] at hll HCY HRJ ⊢
  rw [hnt] at hlt ⊢
  obtain ⟨JP, hJP⟩ : ∃ Q, ServPost w l T = Q := ⟨_, rfl⟩
  rw [hJP] at HFIN ⊢
  clear h h' hn hnt her hC0 hJP
  go_enter Try.func36, Try.ntmps36
  go_wp2_with fail
  refine HCY.out.mono ?_
  rintro e w1 ⟨rfl, hb1⟩
  have HB1 := Lib.hid hb1
  clear hb1
  by_cases he : er = 0
  case neg =>
    have HNO : Hid (¬ servQ l T) := Lib.hid fun h => he (HQ.out h).1
    go_wp2_with fail
    exact HFIN.out false _ (by simpa using HNO.out) HB1.out
  subst he
  obtain ⟨hCe, hcyc⟩ := HOK.out rfl
  have HRJ2 := Lib.hid fun w1 h1 => HRJ.out w1 h1 hcyc
  have HCYC := Lib.hid hcyc
  obtain ⟨C, hC⟩ : ∃ C, cycleN l = C := ⟨_, rfl⟩
  have HCN := Lib.hid hC
  rw [hC] at hCe hcyc HQ HRJ2
  subst hCe
  have hC1 := hcyc.least
  have hC2 := hcyc.great
  have hn16 := validB_len hcyc.valid
  rw [HN.out] at hn16
  by_cases hlen : nt = C
  case neg =>
    have HNO : Hid (¬ servQ l T) := Lib.hid fun h => hlen (HQ.out h).2
    have hleni : ¬ (nt : Int) = (C : Int) := by omega
    clear hC hcyc
    go_wp2_with fail
    exact HFIN.out false _ (by simpa using HNO.out) HB1.out
  subst hlen
  obtain ⟨L, hL⟩ : ∃ L, jobsB (msgN l) nt = L := ⟨_, rfl⟩
  have HLL : Hid (jobsB (msgN l) (cycleN l) = L) := Lib.hid (by rw [HCN.out]; exact hL)
  rw [hL] at hcyc HRJ2
  have hL256 := hcyc.len
  have hLsome := hcyc.some
  have HJOK := Lib.hid hcyc.ok
  have HJL := Lib.hid hcyc.left
  have HJM := Lib.hid hcyc.msg
  clear hC hcyc hL HRJ
  have KM := makeInts n (by omega) w1
  obtain ⟨ub, hub⟩ : ∃ ub, w1.heap.size = ub := ⟨_, rfl⟩
  obtain ⟨W1, hW1⟩ : ∃ W1, w1.alloc (.cells (intA n fun _ => 0) 3) = W1 := ⟨_, rfl⟩
  have HBW : Hid (Below w.heap.size w W1) := Lib.hid (by rw [← hW1]; exact HB1.out.trans (((Below.refl _ _).alloc (Nat.le_refl _) _).mono HB1.out.size))
  have HU0 : Hid (Bk W1 ub 3 (intA n fun i => (cntB (isM (getI T) i) 0 : Nat))) := Lib.hid (by rw [← hW1, ← hub]; exact Bk.new _ _ _)
  have HUB : Hid (w.heap.size ≤ ub) := Lib.hid (by rw [← hub]; exact HB1.out.size)
  rw [hW1, hub] at KM
  go_wp2_with fail
  clear KM hW1 hub
  go_loopw [8] (fun i wr => ∃ q : Nat, q ≤ nt ∧ i = .int .i64 q ∧ Hid (Below w.heap.size w wr ∧ Bk wr ub 3 (intA n fun i => (cntB (isM (getI T) i) q : Nat)) ∧ ∀ s, s < q → slotR l.length (getI T) s)) (fun i _ => nt - (intOf i).toNat)
  case atStart => exact ⟨0, Nat.zero_le _, rfl, Lib.hid ⟨HBW.out, HU0.out, fun s hs => absurd hs (Nat.not_lt_zero s)⟩⟩
  case round =>
    clear HU0 HBW
    obtain ⟨q, hq, rfl, hs⟩ := hrel
    by_cases hlq : q < nt
    · have hqi : (q : Int) < (nt : Int) := by omega
      have h0q : (0 : Int) ≤ (q : Int) := by omega
      obtain ⟨bt, ot, rfl, _, d0⟩ := Sl.at1 (Sl.below HT.out hs.out.1) (i := q) (by rw [HNT.out]; exact hlq)
      obtain ⟨x, hx⟩ : ∃ x, getI T q = x := ⟨_, rfl⟩
      have HX := Lib.hid hx
      try dsimp only at d0
      rw [hx] at d0
      have HSN : Hid (∀ i, cntB (isM (getI T) i) (q + 1) = cntB (isM (getI T) i) q + if isM (getI T) i q then 1 else 0) := Lib.hid fun i => cntB_succ _ _
      have HSR : Hid (slotR n (getI T) q ↔ inB x (-1) ((n : Int) - 1) = true) := Lib.hid (by rw [← hx]; exact slotR_iff)
      clear hx
      obtain ⟨bi, hbi⟩ : ∃ bi, inB x (-1) ((n : Int) - 1) = bi := ⟨_, rfl⟩
      have HIW := Lib.hid (fun w' => in_any x (-1) ((n : Int) - 1) w')
      have HBI := Lib.hid hbi
      rw [hbi] at HIW HSR
      clear hbi
      cases bi with
      | false =>
        have HNO : Hid (¬ servQ l T) := Lib.hid fun h => by
          have h1 := servQ_slotR h (s := q) (by rw [HCN.out]; exact hlq)
          rw [HN.out] at h1
          exact absurd (HSR.out.1 h1) (by simp)
        go_wp2_with fail
        refine (HIW.out _).mono ?_
        rintro e w2 ⟨rfl, rfl⟩
        go_wp2_with fail
        exact HFIN.out false _ (by simpa using HNO.out) hs.out.1
      | true =>
        obtain ⟨hx0, hx1⟩ := inB_iff.1 HBI.out
        have HSQ : Hid (∀ s, s < q + 1 → slotR l.length (getI T) s) := Lib.hid fun s h1 => by
          by_cases e : s = q
          · subst e; rw [HN.out]; exact HSR.out.2 rfl
          · exact hs.out.2.2 s (by omega)
        by_cases hneg : 0 ≤ x
        · obtain ⟨i, rfl⟩ : ∃ i : Nat, x = i := ⟨x.toNat, by omega⟩
          have hin : i < n := by omega
          have hini : (i : Int) < (n : Int) := by omega
          obtain ⟨cn, hcn⟩ : ∃ cn, cntB (isM (getI T) i) q = cn := ⟨_, rfl⟩
          have hcn1 : cn ≤ 1000 := by rw [← hcn]; exact Nat.le_trans (cntB_le _ _) (by omega)
          have d1 : wr.cell? ⟨ub, i, none⟩ = some (.int .i64 cn) := by rw [hs.out.2.1.cell, intA_get _ _ _ hin, hcn]
          have d2 := hs.out.2.1.free i
          have HNX : Hid (Below w.heap.size w (wr.setCell ⟨ub, i, none⟩ (.int .i64 ((cn : Int) + 1))) ∧ Bk (wr.setCell ⟨ub, i, none⟩ (.int .i64 ((cn : Int) + 1))) ub 3 (intA n fun a => (cntB (isM (getI T) a) (q + 1) : Nat)) ∧ ∀ s, s < q + 1 → slotR l.length (getI T) s) := Lib.hid (by
            refine ⟨hs.out.1.setCell (p := ⟨ub, i, none⟩) HUB.out _, ?_, HSQ.out⟩
            have h6 := hs.out.2.1.set i (.int .i64 ((cn : Int) + 1))
            rw [intA_set] at h6
            rw [show (fun a => ((cntB (isM (getI T) a) (q + 1) : Nat) : Int)) = fun a => if a = i then (cn : Int) + 1 else ((cntB (isM (getI T) a) q : Nat) : Int) from funext fun a => by
              rw [HSN.out a]
              unfold isM
              rw [HX.out]
              by_cases e : a = i
              · subst e
                rw [decide_eq_true rfl, if_pos rfl, if_pos rfl]
                have : cntB (fun s => decide (getI T s = (a : Int))) q = cn := hcn
                rw [this]; rfl
              · rw [decide_eq_false (by omega), if_neg e]; rfl]
            exact h6)
          clear hcn
          go_wp2_with fail
          refine (HIW.out _).mono ?_
          rintro e w2 ⟨rfl, rfl⟩
          go_wp2_with fail
          obtain ⟨w5, hw5⟩ : ∃ w5, wr.setCell ⟨ub, i, none⟩ (.int .i64 ((cn : Int) + 1)) = w5 := ⟨_, rfl⟩
          rw [hw5] at HNX
          try rw [hw5]
          clear hw5 d0 d1 d2
          go_roundw
          case rel => exact ⟨q + 1, by omega, by go_num, HNX⟩
          case measure => simp [intOf]; omega
        · have HNX : Hid (Below w.heap.size w wr ∧ Bk wr ub 3 (intA n fun a => (cntB (isM (getI T) a) (q + 1) : Nat)) ∧ ∀ s, s < q + 1 → slotR l.length (getI T) s) := Lib.hid (by
            refine ⟨hs.out.1, ?_, HSQ.out⟩
            rw [show (fun a => ((cntB (isM (getI T) a) (q + 1) : Nat) : Int)) = fun a => ((cntB (isM (getI T) a) q : Nat) : Int) from funext fun a => by
              rw [HSN.out a]
              unfold isM
              rw [HX.out, decide_eq_false (by omega)]; rfl]
            exact hs.out.2.1)
          go_wp2_with fail
          refine (HIW.out _).mono ?_
          rintro e w2 ⟨rfl, rfl⟩
          go_wp2_with fail
          go_roundw
          case rel => exact ⟨q + 1, by omega, by go_num, HNX⟩
          case measure => simp [intOf]; omega
    · obtain rfl : q = nt := by omega
      have HJC := Lib.hid (HRJ2.out wr (Sl.mono (Sl.below HL.out hs.out.1) hs.out.1.size))
      go_wp2_with fail
      refine HJC.out.mono ?_
      rintro e w2 ⟨AJ, jc, rfl, hclj, hb2⟩
      obtain ⟨jg, cur, rfl, hjg, hbk, hcc⟩ := hclj.2 hLsome
      have HB2 : Hid (Below w.heap.size w w2) := Lib.hid (hs.out.1.trans (hb2.mono hs.out.1.size))
      have HU2 : Hid (Bk w2 ub 3 (intA n fun i => ((cntB (isM (getI T) i) q : Nat) : Int) - (sumM L i 0 : Nat))) := Lib.hid (by
        rw [show (fun i => ((cntB (isM (getI T) i) q : Nat) : Int) - (sumM L i 0 : Nat)) = fun i => ((cntB (isM (getI T) i) q : Nat) : Int) from funext fun i => by show _ - ((0 : Nat) : Int) = _; omega]
        exact hs.out.2.1.below hb2 hs.out.2.1.lt)
      have HJ2 := Lib.hid hbk
      have HJC2 := Lib.hid hcc
      have HSL := Lib.hid hs.out.2.2
      obtain ⟨Ln, hLn⟩ : ∃ Ln, L.length = Ln := ⟨_, rfl⟩
      have HLN := Lib.hid hLn
      rw [hLn] at hL256
      clear hclj hbk hcc hs hb2 HJC hjg
      rw [hLn]
      clear hLn
      go_wp2_with fail
      go_loopw [10] (fun i w3 => ∃ j : Nat, j ≤ Ln ∧ i = .int .i64 j ∧ Hid (Below w.heap.size w w3 ∧ Bk w3 ub 3 (intA n fun i => ((cntB (isM (getI T) i) q : Nat) : Int) - (sumM L i j : Nat)) ∧ Bk w3 jg 99 cur ∧ ∀ a, a < j → winC (getI T) L a = (JobD.at_ L a).left)) (fun i _ => Ln - (intOf i).toNat)
      case atStart => exact ⟨0, Nat.zero_le _, rfl, Lib.hid ⟨HB2.out, HU2.out, HJ2.out, fun s hs => absurd hs (Nat.not_lt_zero s)⟩⟩
      case round =>
        clear HB2 HU2 HJ2
        obtain ⟨j, hj, rfl, hs⟩ := hrel
        by_cases hjl : j < Ln
        · have hji : (j : Int) < (Ln : Int) := by omega
          have h0j : (0 : Int) ≤ (j : Int) := by omega
          have hjL : j < L.length := by rw [HLN.out]; exact hjl
          obtain ⟨⟨ms, src, fn, lf⟩, hr⟩ : ∃ r, L.getD j job0 = r := ⟨_, rfl⟩
          have hat : JobD.at_ L j = ⟨ms, src, fn, lf⟩ := hr
          have hfin := HJOK.out.fin j hjL
          have hlf := HJL.out j hjL
          have hms := HJM.out j hjL
          rw [hat] at hfin hlf hms
          have hfin1 : src < fn := hfin.1
          have hfin2 : fn ≤ q := hfin.2
          have hlf : lf ≤ 1000 := hlf
          have hms : ms < l.length := hms
          rw [HN.out] at hms
          have HCE : Hid (∀ w1, Below wr.heap.size wr w1 → w1.cell? ⟨jg, j * 4, none⟩ = some (.int .i64 ms) ∧ w1.cell? ⟨jg, j * 4 + 1, none⟩ = some (.int .i64 src) ∧ w1.cell? ⟨jg, j * 4 + 2, none⟩ = some (.int .i64 fn) ∧ w1.cell? ⟨jg, j * 4 + 3, none⟩ = some (.int .i64 lf)) := Lib.hid fun w1 h1 => by
            have h6 := hs.out.2.2.1.below h1 hs.out.2.2.1.lt
            have h7 := HJC2.out j hjL
            rw [hr] at h7
            refine ⟨?_, ?_, ?_, ?_⟩
            · rw [h6.cell]; exact h7 0 (by omega)
            · rw [h6.cell]; exact h7 1 (by omega)
            · rw [h6.cell]; exact h7 2 (by omega)
            · rw [h6.cell]; exact h7 3 (by omega)
          obtain ⟨c0, c1, c2, c3⟩ := HCE.out wr (Below.refl _ _)
          have HAT := Lib.hid hat
          have HWC : Hid (winC (getI T) L j = cntB (fun t => isM (getI T) ms (src + t)) (fn - src)) := Lib.hid (by unfold winC; rw [hat])
          clear hr hat hfin
          obtain ⟨wo, hwo⟩ : ∃ wo, wo = wr := ⟨_, rfl⟩
          have HWO : Hid (Below wo.heap.size wo wr) := Lib.hid (by rw [hwo]; exact Below.refl _ _)
          rw [← hwo] at hs HCE
          clear hwo
          go_wp2_with fail
          clear c0 c1 c2 c3
          go_loopw [11, 12] (fun v i w4 => ∃ s : Nat, s ≤ fn - src ∧ i = .int .i64 (src + s : Nat) ∧ v = .int .i64 (cntB (fun t => isM (getI T) ms (src + t)) s : Nat) ∧ Hid (Below wo.heap.size wo w4)) (fun _ i _ => fn - (intOf i).toNat)
          case atStart => exact ⟨0, Nat.zero_le _, rfl, rfl, HWO⟩
          case round =>
            clear HWO
            obtain ⟨s, hs2, rfl, rfl, hw4⟩ := hrel
            obtain ⟨c0, c1, c2, c3⟩ := HCE.out wr hw4.out
            have HCS : Hid (cntB (fun t => isM (getI T) ms (src + t)) (s + 1) = cntB (fun t => isM (getI T) ms (src + t)) s + if isM (getI T) ms (src + s) then 1 else 0) := Lib.hid (cntB_succ _ _)
            obtain ⟨nn, hnn⟩ : ∃ nn, cntB (fun t => isM (getI T) ms (src + t)) s = nn := ⟨_, rfl⟩
            have hnn1 : nn ≤ 1000 := by rw [← hnn]; exact Nat.le_trans (cntB_le _ _) (by omega)
            rw [hnn] at HCS ⊢
            by_cases hsl : src + s < fn
            · have hsli : ((src + s : Nat) : Int) < (fn : Int) := by omega
              have h0s : (0 : Int) ≤ ((src + s : Nat) : Int) := by omega
              have hsq : ((src + s : Nat) : Int) < (q : Int) := by omega
              obtain ⟨bt, ot, rfl, _, d0⟩ := Sl.at1 (Sl.below HT.out (hs.out.1.trans (hw4.out.mono hs.out.1.size))) (i := src + s) (by rw [HNT.out]; omega)
              obtain ⟨x, hx⟩ : ∃ x, getI T (src + s) = x := ⟨_, rfl⟩
              have HIM : Hid (isM (getI T) ms (src + s) = decide (x = (ms : Int))) := Lib.hid (by unfold isM; rw [hx])
              try dsimp only at d0
              rw [hx] at d0
              obtain ⟨sl, hsl⟩ : ∃ sl, src + s = sl := ⟨_, rfl⟩
              have HSLT := Lib.hid hsl
              rw [hsl] at hsli h0s hsq d0 HIM HCS
              clear hx hnn
              by_cases he : x = (ms : Int)
              · have HNX : Hid (cntB (fun t => isM (getI T) ms (src + t)) (s + 1) = nn + 1) := Lib.hid (by rw [HCS.out, HIM.out, decide_eq_true he]; rfl)
                subst he
                rw [hsl]
                go_wp2_with fail
                go_quiet (fail)
                go_wp2_with fail
                go_roundw
                case rel => exact ⟨s + 1, by omega, by rw [show src + (s + 1) = sl + 1 from by omega]; go_num, by rw [HNX.out]; go_num, Lib.hid (below_drewN hw4.out _)⟩
                case measure => simp [intOf]; omega
              · have HNX : Hid (cntB (fun t => isM (getI T) ms (src + t)) (s + 1) = nn) := Lib.hid (by rw [HCS.out, HIM.out, decide_eq_false he]; rfl)
                rw [hsl]
                go_wp2_with fail
                go_quiet (fail)
                go_wp2_with fail
                go_roundw
                case rel => exact ⟨s + 1, by omega, by rw [show src + (s + 1) = sl + 1 from by omega]; go_num, by rw [HNX.out], Lib.hid (below_drewN hw4.out _)⟩
                case measure => simp [intOf]; omega
            · obtain rfl : s = fn - src := by omega
              have hsf : src + (fn - src) = fn := by omega
              rw [hsf]
              have HWN : Hid (winC (getI T) L j = nn) := Lib.hid (by rw [HWC.out, hnn])
              clear hnn hsf
              by_cases hne : nn = lf
              case neg =>
                have hnei : ¬ (nn : Int) = (lf : Int) := by omega
                have HNO : Hid (¬ servQ l T) := Lib.hid fun h => by
                  have h6 := servQ_win h (j := j) (by rw [HLL.out]; exact hjL)
                  rw [HLL.out, HWN.out, HAT.out] at h6
                  exact hne h6
                go_wp2_with fail
                exact HFIN.out false _ (by simpa using HNO.out) (hs.out.1.trans (hw4.out.mono hs.out.1.size))
              subst hne
              obtain ⟨us, hus⟩ : ∃ us : Int, ((cntB (isM (getI T) ms) q : Nat) : Int) - (sumM L ms j : Nat) = us := ⟨_, rfl⟩
              have husb : -1000000 ≤ us ∧ us ≤ 1000000 := by
                have h6 := cntB_le (isM (getI T) ms) q
                have h7 := sumM_le HJL.out ms j (by omega)
                omega
              have HC4 : Hid (∀ w1, Below wr.heap.size wr w1 → w1.cell? ⟨jg, j * 4, none⟩ = some (.int .i64 ms) ∧ w1.cell? ⟨ub, ms, none⟩ = some (.int .i64 us) ∧ w1.frozen? ⟨ub, ms, none⟩ = false) := Lib.hid fun w1 h1 => by
                have h6 := hw4.out.trans (h1.mono hw4.out.size)
                have h7 := hs.out.2.1.below h6 hs.out.2.1.lt
                refine ⟨(HCE.out w1 h6).1, ?_, h7.free ms⟩
                rw [h7.cell, intA_get _ _ _ hms, hus]
              have hmsn : (ms : Int) < (n : Int) := by omega
              have h0ms : (0 : Int) ≤ (ms : Int) := by omega
              have HUS := Lib.hid hus
              have HSM : Hid (∀ i, sumM L i (j + 1) = sumM L i j + if ms = i then nn else 0) := Lib.hid fun i => by rw [sumM_succ, HAT.out]
              clear hus
              go_upto_region 24 with (fail)
              clear c0 c1 c2 c3
              refine wp_region_stepsM (by kernel_rfl) (by kernel_rfl) 17 (by decide) (fun bq w1 => if bq = true then ∃ w0, Below wr.heap.size wr w0 ∧ w1 = w0.setCell ⟨ub, ms, none⟩ (.int .i64 (us - nn)) else Below wr.heap.size wr w1) (fun _ _ _ => True)
                (fun ix u _ _ => match ix with
                  | 0 => u = .slice (some ⟨ub, 0, none⟩) n n
                  | 1 => u = .slice (some ⟨jg, 0, none⟩) Ln jc
                  | 2 => u = .int .i64 j
                  | 3 => u = .pointer (some ⟨jg, j * 4, none⟩)
                  | 4 => u = .pointer (some ⟨jg, j * 4, none⟩)
                  | 5 => u = .int .i64 ms
                  | 6 => u = .slice (some ⟨ub, 0, none⟩) n n
                  | 7 => u = .slice (some ⟨jg, 0, none⟩) Ln jc
                  | 8 => u = .int .i64 j
                  | 9 => u = .pointer (some ⟨jg, j * 4, none⟩)
                  | 10 => u = .pointer (some ⟨jg, j * 4, none⟩)
                  | 11 => u = .int .i64 ms
                  | 12 => u = .pointer (some ⟨ub, ms, none⟩)
                  | 13 => u = .int .i64 us
                  | 14 => u = .int .i64 nn
                  | 15 => u = .int .i64 (us - nn)
                  | 16 => u = .pointer (some ⟨ub, ms, none⟩)
                  | _ => True) (Below.refl _ _).drew (fun _ _ _ _ _ _ _ _ h _ => h) ?_ ?_
              · refine ⟨?_, ?_, ?_, ?_, ?_, ?_, ?_, ?_, ?_, ?_, ?_, ?_, ?_, ?_, ?_, ?_, ?_, ?_, trivial⟩
                · intro a w1 vs K bq Hb HJ HK HD HN kk
                  obtain rfl : bq = false := by cases bq with | false => rfl | true => exact absurd (Hb rfl).2 (by decide)
                  have HJ' : Below wr.heap.size wr w1 := HJ
                  have e7 := HK 7 (by decide)
                  go_simp; exact kk _ _ (by simp) HJ trivial rfl
                · intro a w1 vs K bq Hb HJ HK HD HN kk
                  obtain rfl : bq = false := by cases bq with | false => rfl | true => exact absurd (Hb rfl).2 (by decide)
                  have HJ' : Below wr.heap.size wr w1 := HJ
                  have e9 := HK 9 (by decide)
                  go_simp; exact kk _ _ (by simp) HJ trivial rfl
                · intro a w1 vs K bq Hb HJ HK HD HN kk
                  obtain rfl : bq = false := by cases bq with | false => rfl | true => exact absurd (Hb rfl).2 (by decide)
                  have HJ' : Below wr.heap.size wr w1 := HJ
                  have e10 := HK 10 (by decide)
                  go_simp; exact kk _ _ (by simp) HJ trivial rfl
                · intro a w1 vs K bq Hb HJ HK HD HN kk
                  obtain rfl : bq = false := by cases bq with | false => rfl | true => exact absurd (Hb rfl).2 (by decide)
                  have HJ' : Below wr.heap.size wr w1 := HJ
                  have e101 := (HD 1 _ 101 rfl rfl rfl).1.trans (HD 1 _ 101 rfl rfl rfl).2
                  have e102 := (HD 2 _ 102 rfl rfl rfl).1.trans (HD 2 _ 102 rfl rfl rfl).2
                  go_simp; exact kk _ _ (by simp) HJ trivial rfl
                · intro a w1 vs K bq Hb HJ HK HD HN kk
                  obtain rfl : bq = false := by cases bq with | false => rfl | true => exact absurd (Hb rfl).2 (by decide)
                  have HJ' : Below wr.heap.size wr w1 := HJ
                  have e103 := (HD 3 _ 103 rfl rfl rfl).1.trans (HD 3 _ 103 rfl rfl rfl).2
                  go_simp; exact kk _ _ (by simp) HJ trivial rfl
                · intro a w1 vs K bq Hb HJ HK HD HN kk
                  obtain rfl : bq = false := by cases bq with | false => rfl | true => exact absurd (Hb rfl).2 (by decide)
                  have HJ' : Below wr.heap.size wr w1 := HJ
                  have e104 := (HD 4 _ 104 rfl rfl rfl).1.trans (HD 4 _ 104 rfl rfl rfl).2
                  have ca := (HC4.out w1 HJ').1
                  go_simp; exact kk _ _ (by simp) HJ trivial rfl
                · intro a w1 vs K bq Hb HJ HK HD HN kk
                  obtain rfl : bq = false := by cases bq with | false => rfl | true => exact absurd (Hb rfl).2 (by decide)
                  have HJ' : Below wr.heap.size wr w1 := HJ
                  have e7 := HK 7 (by decide)
                  go_simp; exact kk _ _ (by simp) HJ trivial rfl
                · intro a w1 vs K bq Hb HJ HK HD HN kk
                  obtain rfl : bq = false := by cases bq with | false => rfl | true => exact absurd (Hb rfl).2 (by decide)
                  have HJ' : Below wr.heap.size wr w1 := HJ
                  have e9 := HK 9 (by decide)
                  go_simp; exact kk _ _ (by simp) HJ trivial rfl
                · intro a w1 vs K bq Hb HJ HK HD HN kk
                  obtain rfl : bq = false := by cases bq with | false => rfl | true => exact absurd (Hb rfl).2 (by decide)
                  have HJ' : Below wr.heap.size wr w1 := HJ
                  have e10 := HK 10 (by decide)
                  go_simp; exact kk _ _ (by simp) HJ trivial rfl
                · intro a w1 vs K bq Hb HJ HK HD HN kk
                  obtain rfl : bq = false := by cases bq with | false => rfl | true => exact absurd (Hb rfl).2 (by decide)
                  have HJ' : Below wr.heap.size wr w1 := HJ
                  have e107 := (HD 7 _ 107 rfl rfl rfl).1.trans (HD 7 _ 107 rfl rfl rfl).2
                  have e108 := (HD 8 _ 108 rfl rfl rfl).1.trans (HD 8 _ 108 rfl rfl rfl).2
                  go_simp; exact kk _ _ (by simp) HJ trivial rfl
                · intro a w1 vs K bq Hb HJ HK HD HN kk
                  obtain rfl : bq = false := by cases bq with | false => rfl | true => exact absurd (Hb rfl).2 (by decide)
                  have HJ' : Below wr.heap.size wr w1 := HJ
                  have e109 := (HD 9 _ 109 rfl rfl rfl).1.trans (HD 9 _ 109 rfl rfl rfl).2
                  go_simp; exact kk _ _ (by simp) HJ trivial rfl
                · intro a w1 vs K bq Hb HJ HK HD HN kk
                  obtain rfl : bq = false := by cases bq with | false => rfl | true => exact absurd (Hb rfl).2 (by decide)
                  have HJ' : Below wr.heap.size wr w1 := HJ
                  have e110 := (HD 10 _ 110 rfl rfl rfl).1.trans (HD 10 _ 110 rfl rfl rfl).2
                  have ca := (HC4.out w1 HJ').1
                  go_simp; exact kk _ _ (by simp) HJ trivial rfl
                · intro a w1 vs K bq Hb HJ HK HD HN kk
                  obtain rfl : bq = false := by cases bq with | false => rfl | true => exact absurd (Hb rfl).2 (by decide)
                  have HJ' : Below wr.heap.size wr w1 := HJ
                  have e106 := (HD 6 _ 106 rfl rfl rfl).1.trans (HD 6 _ 106 rfl rfl rfl).2
                  have e111 := (HD 11 _ 111 rfl rfl rfl).1.trans (HD 11 _ 111 rfl rfl rfl).2
                  go_simp; exact kk _ _ (by simp) HJ trivial rfl
                · intro a w1 vs K bq Hb HJ HK HD HN kk
                  obtain rfl : bq = false := by cases bq with | false => rfl | true => exact absurd (Hb rfl).2 (by decide)
                  have HJ' : Below wr.heap.size wr w1 := HJ
                  have e112 := (HD 12 _ 112 rfl rfl rfl).1.trans (HD 12 _ 112 rfl rfl rfl).2
                  have ca := (HC4.out w1 HJ').2.1
                  go_simp; exact kk _ _ (by simp) HJ trivial rfl
                · intro a w1 vs K bq Hb HJ HK HD HN kk
                  obtain rfl : bq = false := by cases bq with | false => rfl | true => exact absurd (Hb rfl).2 (by decide)
                  have HJ' : Below wr.heap.size wr w1 := HJ
                  have e11 := HK 11 (by decide)
                  go_simp; exact kk _ _ (by simp) HJ trivial rfl
                · intro a w1 vs K bq Hb HJ HK HD HN kk
                  obtain rfl : bq = false := by cases bq with | false => rfl | true => exact absurd (Hb rfl).2 (by decide)
                  have HJ' : Below wr.heap.size wr w1 := HJ
                  have e113 := (HD 13 _ 113 rfl rfl rfl).1.trans (HD 13 _ 113 rfl rfl rfl).2
                  have e114 := (HD 14 _ 114 rfl rfl rfl).1.trans (HD 14 _ 114 rfl rfl rfl).2
                  have hws : IntKind.i64.wrap (us - (nn : Int)) = us - (nn : Int) := IntWalk.i64_in _ (by omega)
                  go_simp; exact kk _ _ (by simp) HJ' trivial (by first | rfl | (show Value.int _ _ = Value.int _ _; rw [hws]))
                · intro a w1 vs K bq Hb HJ HK HD HN kk
                  obtain rfl : bq = false := by cases bq with | false => rfl | true => exact absurd (Hb rfl).2 (by decide)
                  have HJ' : Below wr.heap.size wr w1 := HJ
                  have e100 := (HD 0 _ 100 rfl rfl rfl).1.trans (HD 0 _ 100 rfl rfl rfl).2
                  have e105 := (HD 5 _ 105 rfl rfl rfl).1.trans (HD 5 _ 105 rfl rfl rfl).2
                  go_simp; exact kk _ _ (by simp) HJ trivial rfl
                · intro a w1 vs K bq Hb HJ HK HD HN kk
                  obtain rfl : bq = false := by cases bq with | false => rfl | true => exact absurd rfl (Hb rfl).1
                  have HJ' : Below wr.heap.size wr w1 := HJ
                  have e116 := (HD 16 _ 116 rfl rfl rfl).1.trans (HD 16 _ 116 rfl rfl rfl).2
                  have e115 := (HD 15 _ 115 rfl rfl rfl).1.trans (HD 15 _ 115 rfl rfl rfl).2
                  have ca := (HC4.out w1 HJ').2.1
                  have cf := (HC4.out w1 HJ').2.2
                  go_simp; exact kk undef _ (by simp) ⟨w1, HJ', rfl⟩ trivial trivial
              · intro vs w6 hw6 hrr
                obtain ⟨w0, hb6, rfl⟩ := hw6
                have HNX : Hid (Below w.heap.size w (w0.setCell ⟨ub, ms, none⟩ (.int .i64 (us - nn))) ∧ Bk (w0.setCell ⟨ub, ms, none⟩ (.int .i64 (us - nn))) ub 3 (intA n fun i => ((cntB (isM (getI T) i) q : Nat) : Int) - (sumM L i (j + 1) : Nat)) ∧ Bk (w0.setCell ⟨ub, ms, none⟩ (.int .i64 (us - nn))) jg 99 cur ∧ ∀ a, a < j + 1 → winC (getI T) L a = (JobD.at_ L a).left) := Lib.hid (by
                  have h5 := hw4.out.trans (hb6.mono hw4.out.size)
                  have h6 := hs.out.2.1.below h5 hs.out.2.1.lt
                  have h7 := hs.out.2.2.1.below h5 hs.out.2.2.1.lt
                  refine ⟨(hs.out.1.trans (h5.mono hs.out.1.size)).setCell (p := ⟨ub, ms, none⟩) HUB.out _, ?_, h7.far (p := ⟨ub, ms, none⟩) (h7.neT h6 (by decide)) _, fun a ha => ?_⟩
                  · have h8 := h6.set ms (.int .i64 (us - nn))
                    rw [intA_set] at h8
                    rw [show (fun i => ((cntB (isM (getI T) i) q : Nat) : Int) - (sumM L i (j + 1) : Nat)) = fun i => if i = ms then us - nn else ((cntB (isM (getI T) i) q : Nat) : Int) - (sumM L i j : Nat) from funext fun i => by
                      rw [HSM.out i]
                      by_cases e : i = ms
                      · subst e; rw [if_pos rfl, if_pos rfl, ← HUS.out]; omega
                      · rw [if_neg e, if_neg (fun h => e h.symm)]; rfl]
                    exact h8
                  · by_cases e : a = j
                    · subst e; rw [HWN.out, HAT.out]
                    · exact hs.out.2.2.2 a (by omega))
                obtain ⟨w7, hw7⟩ : ∃ w7, w0.setCell ⟨ub, ms, none⟩ (.int .i64 (us - nn)) = w7 := ⟨_, rfl⟩
                rw [hw7] at HNX ⊢
                clear hrr hb6 hw7
                simp only [putAll, Act.put, List.setIfInBounds_toArray, List.set_cons_zero, List.set_cons_succ]
                go_wp2_with fail
                go_roundw
                case rel => first | exact ⟨j + 1, by omega, by go_num, HNX⟩ | ((repeat apply Exists.intro); exact ⟨⟨j + 1, by omega, by go_num, HNX⟩, rfl⟩)
                case measure => simp [intOf]; omega
        · obtain rfl : j = Ln := by omega
          have HSZ := Lib.hid hs.out
          clear hs
          obtain ⟨wo, hwo⟩ : ∃ wo, wr = wo := ⟨_, rfl⟩
          rw [hwo] at HSZ ⊢
          clear hwo
          go_wp2_with fail
          go_loopw [13] (fun i w3 => ∃ a : Nat, a ≤ n ∧ i = .int .i64 a ∧ w3 = wo ∧ Hid (∀ i, i < a → cntB (isM (getI T) i) q = sumM L i j)) (fun i _ => n - (intOf i).toNat)
          case atStart => exact ⟨0, Nat.zero_le _, rfl, rfl, Lib.hid fun s hs => absurd hs (Nat.not_lt_zero s)⟩
          case round =>
            obtain ⟨a, ha, rfl, rfl, hs⟩ := hrel
            by_cases han : a < n
            · have hani : (a : Int) < (n : Int) := by omega
              have h0a : (0 : Int) ≤ (a : Int) := by omega
              obtain ⟨us, hus⟩ : ∃ us : Int, ((cntB (isM (getI T) a) q : Nat) : Int) - (sumM L a j : Nat) = us := ⟨_, rfl⟩
              have d0 : wr.cell? ⟨ub, a, none⟩ = some (.int .i64 us) := by rw [HSZ.out.2.1.cell, intA_get _ _ _ han, hus]
              have HUS := Lib.hid hus
              clear hus
              by_cases hz : us = 0
              · subst hz
                go_wp2_with fail
                go_roundw
                case rel => exact ⟨a + 1, by omega, by go_num, trivial, Lib.hid fun i hi => by
                  by_cases e : i = a
                  · subst e; have := HUS.out; omega
                  · exact hs.out i (by omega)⟩
                case measure => simp [intOf]; omega
              · have HNO : Hid (¬ servQ l T) := Lib.hid fun h => by
                  have h6 := servQ_used h (i := a) (by rw [HN.out]; exact han)
                  rw [HLL.out, HCN.out, HLN.out] at h6
                  have := HUS.out
                  omega
                go_wp2_with fail
                exact HFIN.out false _ (by simpa using HNO.out) HSZ.out.1
            · obtain rfl : a = n := by omega
              go_wp2_with fail
              refine HFIN.out true _ ?_ HSZ.out.1
              have HLQ : jobsB (msgN l) q = L := by rw [← HLL.out, HCN.out]
              exact ⟨fun _ => servR_of HER.out HCN.out HNT.out HSL.out (by rw [HLQ, HLN.out]; exact HSZ.out.2.2.2) (by rw [HLQ, HLN.out, HN.out]; exact hs.out), fun _ => rfl⟩
end Go.Proofs.Ytnmccbjdfdbgpaa
/- What is proved: AvionicsFits returns true, and makes only memory. Conditions: the messages lie in memory. -/
namespace Go.Proofs.Ytnmccbjdfdbgpaa
open Go.RowKit

theorem servP_congr {m : MsgN} {C : Nat} {T T' : Nat → Int} (hok : MsgOk m C) (h : ∀ s, s < C → T s = T' s) (hs : ServP m C T) : ServP m C T' := by
  refine ⟨fun s h1 => by rw [← h s h1]; exact hs.slot s h1, fun i r hi hr => ?_⟩
  rw [← hs.cnt i r hi hr]
  have h2 := round_end (hok.dvd i hi) hr
  refine Nat.le_antisymm (cntB_mono fun s h1 h3 => ?_) (cntB_mono fun s h1 h3 => ?_)
  · unfold isM at h3 ⊢; rw [h _ (by omega)]; exact h3
  · unfold isM at h3 ⊢; rw [← h _ (by omega)]; exact h3
theorem cycleB_err (l : List MsgD) : (cycleB l).2 = 0 ∨ (cycleB l).2 = 2 ∨ (cycleB l).2 = 3 := by
  unfold cycleB
  split
  · simp
  · split
    · simp
    · split <;> simp
theorem tableB_len (L : List JobD) (C : Nat) : (tableB L C).length = C := by unfold tableB; simp
theorem tableB_at (L : List JobD) {C s : Nat} (h : s < C) : getI (tableB L C) s = cellB L s := by
  unfold tableB getI; simp [List.getD_eq_getElem?_getD, h]
theorem sched_serves {l : List MsgD} {T : List Int} {p : Nat × Nat} (h : schedB l = (T, p, 0)) : servQ l T := by
  unfold schedB at h
  by_cases hc : ¬ (cycleB l).2 = 0
  · rw [if_pos hc] at h
    injection h with _ h
    injection h with _ h
    exact absurd h hc
  · rw [if_neg hc] at h
    have hc' : (cycleB l).2 = 0 := by simpa using hc
    obtain ⟨_, hok⟩ := cycle_ok hc'
    cases ho : overB (jobsB (msgN l) (cycleN l)) (cycleN l) 1 with
    | some q => rw [ho] at h; injection h with _ h; injection h with _ h; cases h
    | none =>
      rw [ho] at h
      injection h with hT _
      subst hT
      refine ⟨hc', tableB_len _ _, servP_congr (msgOk_of hok) (fun s hs => (tableB_at _ hs).symm) (made_serv (msgOk_of hok) ?_)⟩
      rw [made_over hok.ok, ho]; rfl
theorem serves_sched {l : List MsgD} {T : List Int} (h : servQ l T) : (schedB l).2.2 = 0 := by
  obtain ⟨_, hok⟩ := cycle_ok h.1
  have hm := serv_made (msgOk_of hok) h.2.2
  rw [made_over hok.ok] at hm
  unfold schedB
  rw [if_neg (by simpa using h.1)]
  cases ho : overB (jobsB (msgN l) (cycleN l)) (cycleN l) 1 with
  | some q => rw [ho] at hm; cases hm
  | none => rfl
theorem sched_none {l : List MsgD} {T : List Int} {p : Nat × Nat} (h : schedB l = (T, p, 7)) : (cycleB l).2 = 0 ∧ p.1 < p.2 ∧ p.2 ≤ cycleN l ∧ p.2 - p.1 < demandB (jobsB (msgN l) (cycleN l)) p.1 p.2 := by
  unfold schedB at h
  by_cases hc : ¬ (cycleB l).2 = 0
  · rw [if_pos hc] at h
    injection h with _ h
    injection h with _ h
    rcases cycleB_err l with h1 | h1 | h1 <;> rw [h1] at h <;> cases h
  · rw [if_neg hc] at h
    have hc' : (cycleB l).2 = 0 := by simpa using hc
    cases ho : overB (jobsB (msgN l) (cycleN l)) (cycleN l) 1 with
    | some q =>
      rw [ho] at h
      injection h with _ h
      injection h with h _
      subst h
      have := overB_some ho
      exact ⟨hc', this.2.2.1, by omega, this.2.2.2⟩
    | none => rw [ho] at h; injection h with _ h; injection h with _ h; cases h
theorem ServPost.yes {w : World} {l : List MsgD} {T : List Int} {e : Ending} {w' : World} (h : ServPost w l T e w') (hs : servQ l T) : e = .returned (.bool true) ∧ Below w.heap.size w w' := by
  obtain ⟨b, h1, h2, h3⟩ := h
  rw [h2.2 hs] at h1
  exact ⟨h1, h3⟩
theorem Sl.later {w w' : World} {k n : Nat} {A : Option Addr} {f : Nat → Nat → Value} (h : Sl w w.heap.size k A n f) (hb : Below w.heap.size w w') : Sl w' w'.heap.size k A n f := Sl.mono (Sl.below h hb) hb.size
/-- What is left by the operations of the witness's test. -/
def FtR (L : List JobD) (ix : Nat) (u : Value) (w1 : World) : Prop := ix = 19 → ∃ A c, u = .slice A L.length c ∧ Sl w1 w1.heap.size 4 A L.length (fun i => jobC (L.getD i job0))
theorem FtR.no {L : List JobD} {ix : Nat} {u : Value} {w1 : World} (h : ix ≠ 19) : FtR L ix u w1 := fun e => absurd e h
theorem FtR.later {L : List JobD} {ix : Nat} {u : Value} {w1 w2 : World} (h : FtR L ix u w1) (hb : Below w1.heap.size w1 w2) : FtR L ix u w2 := fun e => by
  obtain ⟨A, c, h1, h2⟩ := h e
  exact ⟨A, c, h1, h2.later hb⟩
set_option maxRecDepth 100000 in
set_option maxHeartbeats 16000000 in
theorem fits_any (w : World) (Am : Option Addr) (c : Nat) (l : List MsgD) (h : MsgsAt w w.heap.size Am l) :
    Calls Try.prog 12 #[.slice Am l.length c] w fun e w' => e = .returned (.bool true) ∧ Below w.heap.size w w' := by
  have HL := Lib.hid h
  have hll := h.1
  have HSC := Lib.hid (schedule_any w Am c l h)
  have HTR : Hid (∀ a b, Below w.heap.size w a → Below a.heap.size a b → Below w.heap.size w b) := Lib.hid fun _ _ h1 h2 => h1.trans (h2.mono h1.size)
  have HFIN : Hid (∀ (e : Ending) (w' : World), e = .returned (.bool true) → Below w.heap.size w w' → e = .returned (.bool true) ∧ Below w.heap.size w w') := Lib.hid fun _ _ a b => ⟨a, b⟩
  have HRS := Lib.hid fun (w1 : World) (hb : Below w.heap.size w w1) (A' : Option Addr) (c' : Nat) (T : List Int) (h' : IntsAt w1 w1.heap.size A' T) (hs : servQ l T) => (refServes_any w1 Am c l (Sl.mono (Sl.below h hb) hb.size) A' c' T h').mono fun e w' hp => hp.yes hs
  have HPS := Lib.hid fun (w1 : World) (hb : Below w.heap.size w w1) (A' : Option Addr) (c' : Nat) (T : List Int) (h' : IntsAt w1 w1.heap.size A' T) (hs : servQ l T) => (serves_any w1 Am c l (Sl.mono (Sl.below h hb) hb.size) A' c' T h').mono fun e w' hp => hp.yes hs
  have HRC := Lib.hid fun (w1 : World) (hb : Below w.heap.size w w1) => refCycle_any w1 Am c l (Sl.mono (Sl.below h hb) hb.size)
  have HOK := Lib.hid (cycle_ok (l := l))
  have HRJ0 := Lib.hid fun (w1 : World) (hb : Below w.heap.size w w1) (hk : CycOk l (cycleN l) (jobsB (msgN l) (cycleN l))) => refJobs_any w1 Am c l (cycleN l) (Sl.mono (Sl.below h hb) hb.size) hk.valid hk.great hk.div (by have := hk.len; omega)
  obtain ⟨n, hn⟩ : ∃ n, l.length = n := ⟨_, rfl⟩
  have HN := Lib.hid hn
  obtain ⟨Q1, hQ1⟩ : ∃ Q, SchPost w l = Q := ⟨_, rfl⟩
  have HQ1 : Hid (∀ e w', Q1 e w' → SchPost w l e w') := Lib.hid fun e w' hq => by rw [hQ1]; exact hq
  rw [hQ1] at HSC
  rw [hn] at hll HSC HRS HPS HRC HRJ0 ⊢
  clear h hn hQ1
  go_enter Try.func12, Try.ntmps12
  by_cases h20 : 20 < n
  · have h20i : (20 : Int) < (n : Int) := by omega
    go_wp2_with fail
    refine (awake_any _).mono ?_
    rintro e w1 ⟨rfl, hb1⟩
    go_wp2_with fail
    go_ret
    exact HFIN.out _ _ rfl hb1
  have h20i : ¬ (20 : Int) < (n : Int) := by omega
  go_wp2_with fail
  refine HSC.out.mono ?_
  intro e w1 hp1
  obtain ⟨A1, c1, T, ⟨na, nb⟩, er, hsc, rfl, hcl1, hb1⟩ := HQ1.out _ _ hp1
  have HB1 := Lib.hid hb1
  have HT1 : Hid (IntsAt w1 w1.heap.size A1 T) := Lib.hid hcl1.sl
  have HSCH := Lib.hid hsc
  dsimp only
  obtain ⟨nt, hnt⟩ : ∃ nt, T.length = nt := ⟨_, rfl⟩
  have HNT := Lib.hid hnt
  rw [hnt]
  obtain ⟨pb, hpb⟩ : ∃ pb, w1.heap.size = pb := ⟨_, rfl⟩
  obtain ⟨W2, hW2⟩ : ∃ W2, w1.alloc (.cells #[.int .i64 na, .int .i64 nb] 23) = W2 := ⟨_, rfl⟩
  have hb2 : Below w1.heap.size w1 W2 := by rw [← hW2]; exact (Below.refl _ _).alloc (Nat.le_refl _) _
  have HB2 := Lib.hid (HTR.out _ _ HB1.out hb2)
  have HK2 : Hid (Bk W2 pb 23 #[.int .i64 na, .int .i64 nb]) := Lib.hid (by rw [← hW2, ← hpb]; exact Bk.new _ _ _)
  have HT2 := Lib.hid (HT1.out.later hb2 : IntsAt W2 W2.heap.size A1 T)
  clear hp1 HQ1 HSC hcl1 hb1 hb2 hsc hnt
  go_upto_region 4 with (fail)
  clear hpb hW2
  by_cases he0 : er = 0
  · subst he0
    have HSV := Lib.hid (sched_serves HSCH.out)
    have HR2 := Lib.hid (HRS.out W2 HB2.out A1 c1 T HT2.out HSV.out)
    rw [HNT.out] at HR2
    go_wp2_with fail
    refine HR2.out.mono ?_
    rintro e w3 ⟨rfl, hb3⟩
    have HB3 := Lib.hid (HTR.out _ _ HB2.out hb3)
    have HP3 := Lib.hid (HPS.out w3 HB3.out A1 c1 T (HT2.out.later hb3) HSV.out)
    rw [HNT.out] at HP3
    clear hb3 HR2
    go_wp2_with fail
    refine HP3.out.mono ?_
    rintro e w4 ⟨rfl, hb4⟩
    have HB4 := Lib.hid (HTR.out _ _ HB3.out hb4)
    clear hb4 HP3
    go_wp2_with fail
    refine (awake_any _).mono ?_
    rintro e w5 ⟨rfl, hb5⟩
    go_wp2_with fail
    go_ret
    exact HFIN.out _ _ rfl (HTR.out _ _ HB4.out hb5)
  by_cases he7 : er = 7
  case neg =>
    go_wp2_with fail
    refine (awake_any _).mono ?_
    rintro e w3 ⟨rfl, hb3⟩
    go_wp2_with fail
    go_ret
    exact HFIN.out _ _ rfl (HTR.out _ _ HB2.out hb3)
  subst he7
  obtain ⟨hc0, hab, hbC, hdem⟩ := sched_none HSCH.out
  obtain ⟨hCe, hcyc⟩ := HOK.out hc0
  have HRC2 := Lib.hid (HRC.out W2 HB2.out)
  rw [hc0, hCe] at HRC2
  have HRJ1 := Lib.hid fun w1 hb => HRJ0.out w1 hb hcyc
  obtain ⟨C, hC⟩ : ∃ C, cycleN l = C := ⟨_, rfl⟩
  rw [hC] at hcyc hbC hdem HRC2 HRJ1
  obtain ⟨L, hL⟩ : ∃ L, jobsB (msgN l) C = L := ⟨_, rfl⟩
  rw [hL] at hcyc hdem HRJ1
  have hC2 := hcyc.great
  have HDM : Hid (∀ w1 A9 c9, Sl w1 w1.heap.size 4 A9 L.length (fun i => jobC (L.getD i job0)) → Calls Try.prog 38 #[.slice A9 L.length c9, .int .i64 na, .int .i64 nb] w1 fun e w' => e = .returned (.int .i64 (demandB L na nb : Nat)) ∧ Below w1.heap.size w1 w') := Lib.hid fun w1 A9 c9 h1 => demand_any w1 A9 c9 L na nb h1 hcyc.left (by have := hcyc.len; omega)
  have hab : na < nb := hab
  have hbC : nb ≤ C := hbC
  have hdem : nb - na < demandB L na nb := hdem
  obtain ⟨D, hD⟩ : ∃ D, demandB L na nb = D := ⟨_, rfl⟩
  rw [hD] at hdem HDM
  clear hc0 hCe hcyc hC hL hD HRC HRJ0 HOK
  go_wp2_with fail
  refine HRC2.out.mono ?_
  rintro e w5 ⟨rfl, hb5⟩
  have HB5 := Lib.hid (HTR.out _ _ HB2.out hb5)
  have HK5 := Lib.hid (HK2.out.below hb5 HK2.out.lt)
  have HC4 : Hid (∀ w1, Below w5.heap.size w5 w1 → w1.cell? ⟨pb, 0, none⟩ = some (.int .i64 na) ∧ w1.cell? ⟨pb, 1, none⟩ = some (.int .i64 nb)) := Lib.hid fun w1 h1 => by
    have h2 := HK5.out.below h1 HK5.out.lt
    exact ⟨h2.cell 0, h2.cell 1⟩
  have HRJ : Hid (∀ w1, Below w5.heap.size w5 w1 → Calls Try.prog 39 #[.slice Am n c, .int .i64 C] w1 (RefJobsPost w1 L)) := Lib.hid fun w1 h1 => HRJ1.out w1 (HTR.out _ _ HB5.out h1)
  have g0 : (0 : Int) ≤ (na : Int) := by omega
  have g1 : (na : Int) < (nb : Int) := by omega
  have g2 : (nb : Int) ≤ (C : Int) := by omega
  have g3 : (nb : Int) - (na : Int) < (D : Int) := by omega
  clear hb5 HRC2 HRJ1
  go_upto_region 9 with (fail)
  refine wp_region_steps (by kernel_rfl) (by kernel_rfl) (fun w1 => Below w5.heap.size w5 w1) (fun _ w1 w2 => Below w1.heap.size w1 w2)
    (fun ix u d w1 => (match ix with
      | 0 => u = .pointer (some ⟨pb, 0, none⟩)
      | 1 => u = .int .i64 na
      | 2 => u = .bool true
      | 3 => u = .bool true
      | 4 => u = .pointer (some ⟨pb, 0, none⟩)
      | 5 => u = .int .i64 na
      | 6 => u = .pointer (some ⟨pb, 1, none⟩)
      | 7 => u = .int .i64 nb
      | 8 => u = .bool true
      | 9 => u = .bool true
      | 10 => u = .bool true
      | 11 => u = .pointer (some ⟨pb, 1, none⟩)
      | 12 => u = .int .i64 nb
      | 13 => u = .int .i64 C
      | 14 => u = .bool true
      | 15 => u = .bool true
      | 16 => u = .bool true
      | 17 => u = .slice Am n c
      | 18 => u = .int .i64 C
      | 19 => True
      | 20 => u = .pointer (some ⟨pb, 0, none⟩)
      | 21 => u = .int .i64 na
      | 22 => u = .pointer (some ⟨pb, 1, none⟩)
      | 23 => u = .int .i64 nb
      | 24 => u = .int .i64 D
      | 25 => u = .pointer (some ⟨pb, 1, none⟩)
      | 26 => u = .int .i64 nb
      | 27 => u = .pointer (some ⟨pb, 0, none⟩)
      | 28 => u = .int .i64 na
      | 29 => u = .int .i64 ((nb : Int) - (na : Int))
      | 30 => u = .bool true
      | 31 => u = .bool true
      | 32 => u = .bool true
      | 33 => u = .bool true
      | 34 => u = .bool true
      | _ => u = .bool true) ∧ FtR L ix u w1) (Below.refl _ _).drew (fun i j _ _ u d w1 w2 ⟨h1, h2⟩ _ he => ⟨h1, h2.later he⟩) ?_ ?_
  · refine ⟨?_, ?_, ?_, ?_, ?_, ?_, ?_, ?_, ?_, ?_, ?_, ?_, ?_, ?_, ?_, ?_, ?_, ?_, ?_, ?_, ?_, ?_, ?_, ?_, ?_, ?_, ?_, ?_, ?_, ?_, ?_, ?_, ?_, ?_, ?_, ?_, trivial⟩
    · intro a w1 vs K HJ HK HD HN kk
      have e4 := HK 4 (by decide)
      go_simp; exact kk _ _ (by simp) HJ (Below.refl _ _) ⟨rfl, FtR.no (by decide)⟩
    · intro a w1 vs K HJ HK HD HN kk
      have e39 := (HD 0 _ 39 rfl rfl rfl).1.trans (HD 0 _ 39 rfl rfl rfl).2.1
      have ca := HC4.out w1 HJ
      go_simp; exact kk _ _ (by simp) HJ (Below.refl _ _) ⟨rfl, FtR.no (by decide)⟩
    · intro a w1 vs K HJ HK HD HN kk
      have e40 := (HD 1 _ 40 rfl rfl rfl).1.trans (HD 1 _ 40 rfl rfl rfl).2.1
      go_simp; exact kk _ _ (by simp) HJ (Below.refl _ _) ⟨rfl, FtR.no (by decide)⟩
    · intro a w1 vs K HJ HK HD HN kk
      have e41 := (HD 2 _ 41 rfl rfl rfl).1.trans (HD 2 _ 41 rfl rfl rfl).2.1
      go_simp; exact kk _ _ (by simp) HJ (Below.refl _ _) ⟨rfl, FtR.no (by decide)⟩
    · intro a w1 vs K HJ HK HD HN kk
      have e42 := (HD 3 _ 42 rfl rfl rfl).1.trans (HD 3 _ 42 rfl rfl rfl).2.1
      rw [if_pos (wanted_yes 3 true rfl rfl rfl e42)]
      have e4 := HK 4 (by decide)
      go_simp; exact kk _ _ (by simp) HJ (Below.refl _ _) ⟨rfl, FtR.no (by decide)⟩
    · intro a w1 vs K HJ HK HD HN kk
      have e42 := (HD 3 _ 42 rfl rfl rfl).1.trans (HD 3 _ 42 rfl rfl rfl).2.1
      rw [if_pos (wanted_yes 3 true rfl rfl rfl e42)]
      have e43 := (HD 4 _ 43 rfl rfl rfl).1.trans (HD 4 _ 43 rfl rfl rfl).2.1
      have ca := HC4.out w1 HJ
      go_simp; exact kk _ _ (by simp) HJ (Below.refl _ _) ⟨rfl, FtR.no (by decide)⟩
    · intro a w1 vs K HJ HK HD HN kk
      have e42 := (HD 3 _ 42 rfl rfl rfl).1.trans (HD 3 _ 42 rfl rfl rfl).2.1
      rw [if_pos (wanted_yes 3 true rfl rfl rfl e42)]
      have e4 := HK 4 (by decide)
      go_simp; exact kk _ _ (by simp) HJ (Below.refl _ _) ⟨rfl, FtR.no (by decide)⟩
    · intro a w1 vs K HJ HK HD HN kk
      have e42 := (HD 3 _ 42 rfl rfl rfl).1.trans (HD 3 _ 42 rfl rfl rfl).2.1
      rw [if_pos (wanted_yes 3 true rfl rfl rfl e42)]
      have e45 := (HD 6 _ 45 rfl rfl rfl).1.trans (HD 6 _ 45 rfl rfl rfl).2.1
      have ca := HC4.out w1 HJ
      go_simp; exact kk _ _ (by simp) HJ (Below.refl _ _) ⟨rfl, FtR.no (by decide)⟩
    · intro a w1 vs K HJ HK HD HN kk
      have e42 := (HD 3 _ 42 rfl rfl rfl).1.trans (HD 3 _ 42 rfl rfl rfl).2.1
      rw [if_pos (wanted_yes 3 true rfl rfl rfl e42)]
      have e44 := (HD 5 _ 44 rfl rfl rfl).1.trans (HD 5 _ 44 rfl rfl rfl).2.1
      have e46 := (HD 7 _ 46 rfl rfl rfl).1.trans (HD 7 _ 46 rfl rfl rfl).2.1
      go_simp; exact kk _ _ (by simp) HJ (Below.refl _ _) ⟨rfl, FtR.no (by decide)⟩
    · intro a w1 vs K HJ HK HD HN kk
      have e42 := (HD 3 _ 42 rfl rfl rfl).1.trans (HD 3 _ 42 rfl rfl rfl).2.1
      have e47 := (HD 8 _ 47 rfl rfl rfl).1.trans (HD 8 _ 47 rfl rfl rfl).2.1
      go_simp; exact kk _ _ (by simp) HJ (Below.refl _ _) ⟨rfl, FtR.no (by decide)⟩
    · intro a w1 vs K HJ HK HD HN kk
      have e48 := (HD 9 _ 48 rfl rfl rfl).1.trans (HD 9 _ 48 rfl rfl rfl).2.1
      go_simp; exact kk _ _ (by simp) HJ (Below.refl _ _) ⟨rfl, FtR.no (by decide)⟩
    · intro a w1 vs K HJ HK HD HN kk
      have e49 := (HD 10 _ 49 rfl rfl rfl).1.trans (HD 10 _ 49 rfl rfl rfl).2.1
      rw [if_pos (wanted_yes 10 true rfl rfl rfl e49)]
      have e4 := HK 4 (by decide)
      go_simp; exact kk _ _ (by simp) HJ (Below.refl _ _) ⟨rfl, FtR.no (by decide)⟩
    · intro a w1 vs K HJ HK HD HN kk
      have e49 := (HD 10 _ 49 rfl rfl rfl).1.trans (HD 10 _ 49 rfl rfl rfl).2.1
      rw [if_pos (wanted_yes 10 true rfl rfl rfl e49)]
      have e50 := (HD 11 _ 50 rfl rfl rfl).1.trans (HD 11 _ 50 rfl rfl rfl).2.1
      have ca := HC4.out w1 HJ
      go_simp; exact kk _ _ (by simp) HJ (Below.refl _ _) ⟨rfl, FtR.no (by decide)⟩
    · intro a w1 vs K HJ HK HD HN kk
      have e49 := (HD 10 _ 49 rfl rfl rfl).1.trans (HD 10 _ 49 rfl rfl rfl).2.1
      rw [if_pos (wanted_yes 10 true rfl rfl rfl e49)]
      have e6 := HK 6 (by decide)
      go_simp; exact kk _ _ (by simp) HJ (Below.refl _ _) ⟨rfl, FtR.no (by decide)⟩
    · intro a w1 vs K HJ HK HD HN kk
      have e49 := (HD 10 _ 49 rfl rfl rfl).1.trans (HD 10 _ 49 rfl rfl rfl).2.1
      rw [if_pos (wanted_yes 10 true rfl rfl rfl e49)]
      have e51 := (HD 12 _ 51 rfl rfl rfl).1.trans (HD 12 _ 51 rfl rfl rfl).2.1
      have e52 := (HD 13 _ 52 rfl rfl rfl).1.trans (HD 13 _ 52 rfl rfl rfl).2.1
      go_simp; exact kk _ _ (by simp) HJ (Below.refl _ _) ⟨rfl, FtR.no (by decide)⟩
    · intro a w1 vs K HJ HK HD HN kk
      have e49 := (HD 10 _ 49 rfl rfl rfl).1.trans (HD 10 _ 49 rfl rfl rfl).2.1
      have e53 := (HD 14 _ 53 rfl rfl rfl).1.trans (HD 14 _ 53 rfl rfl rfl).2.1
      go_simp; exact kk _ _ (by simp) HJ (Below.refl _ _) ⟨rfl, FtR.no (by decide)⟩
    · intro a w1 vs K HJ HK HD HN kk
      have e54 := (HD 15 _ 54 rfl rfl rfl).1.trans (HD 15 _ 54 rfl rfl rfl).2.1
      go_simp; exact kk _ _ (by simp) HJ (Below.refl _ _) ⟨rfl, FtR.no (by decide)⟩
    · intro a w1 vs K HJ HK HD HN kk
      have e55 := (HD 16 _ 55 rfl rfl rfl).1.trans (HD 16 _ 55 rfl rfl rfl).2.1
      rw [if_pos (wanted_yes 16 true rfl rfl rfl e55)]
      have e0 := HK 0 (by decide)
      go_simp; exact kk _ _ (by simp) HJ (Below.refl _ _) ⟨rfl, FtR.no (by decide)⟩
    · intro a w1 vs K HJ HK HD HN kk
      have e55 := (HD 16 _ 55 rfl rfl rfl).1.trans (HD 16 _ 55 rfl rfl rfl).2.1
      rw [if_pos (wanted_yes 16 true rfl rfl rfl e55)]
      have e6 := HK 6 (by decide)
      go_simp; exact kk _ _ (by simp) HJ (Below.refl _ _) ⟨rfl, FtR.no (by decide)⟩
    · intro a w1 vs K HJ HK HD HN kk
      have e55 := (HD 16 _ 55 rfl rfl rfl).1.trans (HD 16 _ 55 rfl rfl rfl).2.1
      rw [if_pos (wanted_yes 16 true rfl rfl rfl e55)]
      have e56 := (HD 17 _ 56 rfl rfl rfl).1.trans (HD 17 _ 56 rfl rfl rfl).2.1
      have e57 := (HD 18 _ 57 rfl rfl rfl).1.trans (HD 18 _ 57 rfl rfl rfl).2.1
      exact wpo_call 39 _ _ rfl #[.slice Am n c, .int .i64 C] (by simp [Act.eval, e56, e57]) (fun args w => by kernel_rfl)
        ((HRJ.out w1 HJ).mono fun e w' ⟨A9, c9, he, hcl, hb⟩ => ⟨_, he, kk _ _ (by simp) (HJ.trans (hb.mono HJ.size)) hb ⟨trivial, fun _ => ⟨A9, c9, rfl, hcl.sl⟩⟩⟩)
    · intro a w1 vs K HJ HK HD HN kk
      have e55 := (HD 16 _ 55 rfl rfl rfl).1.trans (HD 16 _ 55 rfl rfl rfl).2.1
      rw [if_pos (wanted_yes 16 true rfl rfl rfl e55)]
      have e4 := HK 4 (by decide)
      go_simp; exact kk _ _ (by simp) HJ (Below.refl _ _) ⟨rfl, FtR.no (by decide)⟩
    · intro a w1 vs K HJ HK HD HN kk
      have e55 := (HD 16 _ 55 rfl rfl rfl).1.trans (HD 16 _ 55 rfl rfl rfl).2.1
      rw [if_pos (wanted_yes 16 true rfl rfl rfl e55)]
      have e59 := (HD 20 _ 59 rfl rfl rfl).1.trans (HD 20 _ 59 rfl rfl rfl).2.1
      have ca := HC4.out w1 HJ
      go_simp; exact kk _ _ (by simp) HJ (Below.refl _ _) ⟨rfl, FtR.no (by decide)⟩
    · intro a w1 vs K HJ HK HD HN kk
      have e55 := (HD 16 _ 55 rfl rfl rfl).1.trans (HD 16 _ 55 rfl rfl rfl).2.1
      rw [if_pos (wanted_yes 16 true rfl rfl rfl e55)]
      have e4 := HK 4 (by decide)
      go_simp; exact kk _ _ (by simp) HJ (Below.refl _ _) ⟨rfl, FtR.no (by decide)⟩
    · intro a w1 vs K HJ HK HD HN kk
      have e55 := (HD 16 _ 55 rfl rfl rfl).1.trans (HD 16 _ 55 rfl rfl rfl).2.1
      rw [if_pos (wanted_yes 16 true rfl rfl rfl e55)]
      have e61 := (HD 22 _ 61 rfl rfl rfl).1.trans (HD 22 _ 61 rfl rfl rfl).2.1
      have ca := HC4.out w1 HJ
      go_simp; exact kk _ _ (by simp) HJ (Below.refl _ _) ⟨rfl, FtR.no (by decide)⟩
    · intro a w1 vs K HJ HK HD HN kk
      have e55 := (HD 16 _ 55 rfl rfl rfl).1.trans (HD 16 _ 55 rfl rfl rfl).2.1
      rw [if_pos (wanted_yes 16 true rfl rfl rfl e55)]
      have e60 := (HD 21 _ 60 rfl rfl rfl).1.trans (HD 21 _ 60 rfl rfl rfl).2.1
      have e62 := (HD 23 _ 62 rfl rfl rfl).1.trans (HD 23 _ 62 rfl rfl rfl).2.1
      obtain ⟨q, r⟩ := HD 19 _ 58 rfl rfl rfl
      obtain ⟨A9, c9, y1, y2⟩ := r.2 rfl
      have e58 := q.trans y1
      exact wpo_call 38 _ _ rfl #[.slice A9 L.length c9, .int .i64 na, .int .i64 nb] (by simp [Act.eval, e58, e60, e62]) (fun args w => by kernel_rfl)
        ((HDM.out w1 A9 c9 y2).mono fun e w' ⟨he, hb⟩ => ⟨_, he, kk _ _ (by simp) (HJ.trans (hb.mono HJ.size)) hb ⟨rfl, FtR.no (by decide)⟩⟩)
    · intro a w1 vs K HJ HK HD HN kk
      have e55 := (HD 16 _ 55 rfl rfl rfl).1.trans (HD 16 _ 55 rfl rfl rfl).2.1
      rw [if_pos (wanted_yes 16 true rfl rfl rfl e55)]
      have e4 := HK 4 (by decide)
      go_simp; exact kk _ _ (by simp) HJ (Below.refl _ _) ⟨rfl, FtR.no (by decide)⟩
    · intro a w1 vs K HJ HK HD HN kk
      have e55 := (HD 16 _ 55 rfl rfl rfl).1.trans (HD 16 _ 55 rfl rfl rfl).2.1
      rw [if_pos (wanted_yes 16 true rfl rfl rfl e55)]
      have e64 := (HD 25 _ 64 rfl rfl rfl).1.trans (HD 25 _ 64 rfl rfl rfl).2.1
      have ca := HC4.out w1 HJ
      go_simp; exact kk _ _ (by simp) HJ (Below.refl _ _) ⟨rfl, FtR.no (by decide)⟩
    · intro a w1 vs K HJ HK HD HN kk
      have e55 := (HD 16 _ 55 rfl rfl rfl).1.trans (HD 16 _ 55 rfl rfl rfl).2.1
      rw [if_pos (wanted_yes 16 true rfl rfl rfl e55)]
      have e4 := HK 4 (by decide)
      go_simp; exact kk _ _ (by simp) HJ (Below.refl _ _) ⟨rfl, FtR.no (by decide)⟩
    · intro a w1 vs K HJ HK HD HN kk
      have e55 := (HD 16 _ 55 rfl rfl rfl).1.trans (HD 16 _ 55 rfl rfl rfl).2.1
      rw [if_pos (wanted_yes 16 true rfl rfl rfl e55)]
      have e66 := (HD 27 _ 66 rfl rfl rfl).1.trans (HD 27 _ 66 rfl rfl rfl).2.1
      have ca := HC4.out w1 HJ
      go_simp; exact kk _ _ (by simp) HJ (Below.refl _ _) ⟨rfl, FtR.no (by decide)⟩
    · intro a w1 vs K HJ HK HD HN kk
      have e55 := (HD 16 _ 55 rfl rfl rfl).1.trans (HD 16 _ 55 rfl rfl rfl).2.1
      rw [if_pos (wanted_yes 16 true rfl rfl rfl e55)]
      have e65 := (HD 26 _ 65 rfl rfl rfl).1.trans (HD 26 _ 65 rfl rfl rfl).2.1
      have e67 := (HD 28 _ 67 rfl rfl rfl).1.trans (HD 28 _ 67 rfl rfl rfl).2.1
      have hws : IntKind.i64.wrap ((nb : Int) - (na : Int)) = (nb : Int) - (na : Int) := IntWalk.i64_in _ (by omega)
      go_simp; exact kk _ _ (by simp) HJ (Below.refl _ _) ⟨by first | rfl | (show Value.int _ _ = Value.int _ _; rw [hws]), FtR.no (by decide)⟩
    · intro a w1 vs K HJ HK HD HN kk
      have e55 := (HD 16 _ 55 rfl rfl rfl).1.trans (HD 16 _ 55 rfl rfl rfl).2.1
      rw [if_pos (wanted_yes 16 true rfl rfl rfl e55)]
      have e63 := (HD 24 _ 63 rfl rfl rfl).1.trans (HD 24 _ 63 rfl rfl rfl).2.1
      have e68 := (HD 29 _ 68 rfl rfl rfl).1.trans (HD 29 _ 68 rfl rfl rfl).2.1
      go_simp; exact kk _ _ (by simp) HJ (Below.refl _ _) ⟨rfl, FtR.no (by decide)⟩
    · intro a w1 vs K HJ HK HD HN kk
      have e55 := (HD 16 _ 55 rfl rfl rfl).1.trans (HD 16 _ 55 rfl rfl rfl).2.1
      have e69 := (HD 30 _ 69 rfl rfl rfl).1.trans (HD 30 _ 69 rfl rfl rfl).2.1
      go_simp; exact kk _ _ (by simp) HJ (Below.refl _ _) ⟨rfl, FtR.no (by decide)⟩
    · intro a w1 vs K HJ HK HD HN kk
      have e70 := (HD 31 _ 70 rfl rfl rfl).1.trans (HD 31 _ 70 rfl rfl rfl).2.1
      go_simp; exact kk _ _ (by simp) HJ (Below.refl _ _) ⟨rfl, FtR.no (by decide)⟩
    · intro a w1 vs K HJ HK HD HN kk
      have e71 := (HD 32 _ 71 rfl rfl rfl).1.trans (HD 32 _ 71 rfl rfl rfl).2.1
      rw [if_pos (wanted_yes 32 true rfl rfl rfl e71)]
      exact wpo_call 16 _ _ rfl #[] (by simp) (fun args w => by kernel_rfl)
        ((awake_any w1).mono fun e w' ⟨he, hb⟩ => ⟨_, he, kk _ _ (by simp) (Below.trans HJ (hb.mono HJ.size)) hb ⟨rfl, FtR.no (by decide)⟩⟩)
    · intro a w1 vs K HJ HK HD HN kk
      have e71 := (HD 32 _ 71 rfl rfl rfl).1.trans (HD 32 _ 71 rfl rfl rfl).2.1
      have e72 := (HD 33 _ 72 rfl rfl rfl).1.trans (HD 33 _ 72 rfl rfl rfl).2.1
      go_simp; exact kk _ _ (by simp) HJ (Below.refl _ _) ⟨rfl, FtR.no (by decide)⟩
    · intro a w1 vs K HJ HK HD HN kk
      have e73 := (HD 34 _ 73 rfl rfl rfl).1.trans (HD 34 _ 73 rfl rfl rfl).2.1
      go_simp; exact kk _ _ (by simp) HJ (Below.refl _ _) ⟨rfl, FtR.no (by decide)⟩
  · intro vs w6 hw6 hrr
    have e35 : vs 35 = .bool true := (hrr 35 _ rfl).1
    clear hrr
    have HB6 := Lib.hid (HTR.out _ _ HB5.out hw6)
    clear hw6
    simp only [putAll, Act.put, List.setIfInBounds_toArray, List.set_cons_zero, List.set_cons_succ]
    rw [e35]
    go_wp2_with fail
    go_ret
    exact HFIN.out _ _ rfl HB6.out
end Go.Proofs.Ytnmccbjdfdbgpaa
