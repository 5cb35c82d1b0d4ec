/- What is proved: the texts Cd Ce, one behind the other; each says at its head what it proves, and under which conditions. -/
import Derived.BigQuiet
import Derived.Test.Ytnmccbjdfdbgpaan14
/- What is proved: contracts of the document's NewVoter and of the law's alike. Conditions: the voter and the lists lie in memory. -/
namespace Go.Proofs.Ytnmccbjdfdbgpaa
open Go.RowKit

theorem und_votR : ∃ fs, Try.prog.underlying 63 = some (.struct fs) := und_struct (by kernel_rfl)
theorem info_votR : (Try.prog.info? 63).map (·.size) = some 4 := by kernel_rfl
theorem results_f33 (tmps : Array Value) (w : World) (g : Nat) (cs : Array Value) (x : Value) (hx : tmps.getD 7 undef = x) (hp : tmps.getD 6 undef = .pointer (some ⟨g, 0, none⟩)) (hg : Bk w g 63 cs) (h4 : cs.size = 4) :
    (results Try.f33 tmps).run Try.prog w = .ok (.tuple #[.agg cs, x]) w := by
  rw [← hx]
  obtain ⟨fs, hu⟩ := und_votR
  exact results_cellS_tmp rfl tmps w g _ cs _ hp hg hu rfl (by rw [h4]; exact info_votR)
/-- A voter of the document. -/
def rvA (V : VotD) (Al : Option Addr) (cl : Nat) (Ac : Option Addr) (cc : Nat) : Array Value := #[.int .i64 V.tol, .int .i64 V.pat, .slice Al V.n cl, .slice Ac V.n cc]
structure RVot (w : World) (V : VotD) (Al Ac : Option Addr) : Prop where
  l : Sl w w.heap.size 1 Al V.n fun i _ => .bool (V.live i)
  c : Sl w w.heap.size 1 Ac V.n fun i _ => .int .i64 (V.cnt i)
  tl : ∀ b off, Al = some ⟨b, off, none⟩ → ∃ cs, Bk w b 4 cs
  tc : ∀ b off, Ac = some ⟨b, off, none⟩ → ∃ cs, Bk w b 3 cs
theorem RVot.later {w w' : World} {V : VotD} {Al Ac : Option Addr} (h : RVot w V Al Ac) (hb : Below w.heap.size w w') : RVot w' V Al Ac :=
  ⟨h.l.later hb, h.c.later hb, fun b off e => by obtain ⟨cs, hk⟩ := h.tl b off e; exact ⟨cs, hk.below hb hk.lt⟩, fun b off e => by obtain ⟨cs, hk⟩ := h.tc b off e; exact ⟨cs, hk.below hb hk.lt⟩⟩
def RNewPost (w : World) (n t p : Int) (e : Ending) (w' : World) : Prop :=
  Below w.heap.size w w' ∧ (newOk n t p = false → e = .returned (.tuple #[.agg #[.int .i64 0, .int .i64 0, .slice none 0 0, .slice none 0 0], .int .i64 4])) ∧
  (newOk n t p = true → ∃ Al cl Ac cc, e = .returned (.tuple #[.agg (rvA (newV n.toNat t p) Al cl Ac cc), .int .i64 0]) ∧ RVot w' (newV n.toNat t p) Al Ac ∧ (∀ b off, Al = some ⟨b, off, none⟩ → w.heap.size ≤ b) ∧ (∀ b off, Ac = some ⟨b, off, none⟩ → w.heap.size ≤ b))
def truesL (k : Nat) : List Value := rowsL k 1 fun _ _ => .bool true
theorem truesL_succ (k : Nat) : truesL (k + 1) = truesL k ++ [.bool true] := by
  unfold truesL; rw [rowsL_succ _ _ (by omega)]; rfl
set_option maxRecDepth 100000 in
set_option maxHeartbeats 8000000 in
theorem refNewVoter_any (w : World) (n t p : Int) : Calls Try.prog 33 #[.int .i64 n, .int .i64 t, .int .i64 p] w (RNewPost w n t p) := by
  obtain ⟨rb, hrb⟩ : ∃ rb, w.heap.size = rb := ⟨_, rfl⟩
  have HRB := Lib.hid hrb
  obtain ⟨W0, hW0⟩ : ∃ W0, w.alloc (.cells #[.int .i64 0, .int .i64 0, .slice none 0 0, .slice none 0 0] 63) = W0 := ⟨_, rfl⟩
  have HB0 : Hid (Below rb w W0) := Lib.hid (by rw [← hW0, ← hrb]; exact (Below.refl _ w).alloc (Nat.le_refl _) _)
  have HK0 : Hid (Bk W0 rb 63 #[.int .i64 0, .int .i64 0, .slice none 0 0, .slice none 0 0]) := Lib.hid (by rw [← hW0, ← hrb]; exact Bk.new _ _ _)
  have HIN := Lib.hid fun x a b w' => in_any x a b w'
  obtain ⟨b1, h1⟩ : ∃ b, inB n 1 8 = b := ⟨_, rfl⟩
  obtain ⟨b2, h2⟩ : ∃ b, inB t 0 1073741824 = b := ⟨_, rfl⟩
  obtain ⟨b3, h3⟩ : ∃ b, inB p 0 1073741824 = b := ⟨_, rfl⟩
  have HOD : Hid (newOk n t p = (b1 && b2 && b3)) := Lib.hid (by unfold newOk; rw [h1, h2, h3])
  have H1 := Lib.hid h1
  have H2 := Lib.hid h2
  have H3 := Lib.hid h3
  have HI1 := Lib.hid (HIN.out n 1 8)
  have HI2 := Lib.hid (HIN.out t 0 1073741824)
  have HI3 := Lib.hid (HIN.out p 0 1073741824)
  rw [h1] at HI1
  rw [h2] at HI2
  rw [h3] at HI3
  have HNO : Hid (∀ w', newOk n t p = false → Below rb w w' → RNewPost w n t p (.returned (.tuple #[.agg #[.int .i64 0, .int .i64 0, .slice none 0 0, .slice none 0 0], .int .i64 4])) w') := Lib.hid fun w' h hb => ⟨by rw [hrb]; exact hb, fun _ => rfl, fun h' => by rw [h] at h'; cases h'⟩
  have HYES : Hid (∀ (k : Nat) (v : Value) (cb : Nat) (w' : World) (B : Nat), n = k → 1 ≤ k → k ≤ 8 → rb ≤ B → rb ≤ cb → newOk n t p = true → w'.ownsRow B 4 1 v k (truesL k) → Bk w' cb 3 (intA k fun _ => 0) → Below rb w w' → RNewPost w n t p (.returned (.tuple #[.agg #[.int .i64 t, .int .i64 p, v, .slice (some ⟨cb, 0, none⟩) k k], .int .i64 0])) w') := Lib.hid fun k v cb w' B hk hk1 hk8 hB hcb h ho hc hb => by
    subst hk
    refine ⟨by rw [hrb]; exact hb, (fun h' => by rw [h] at h'; cases h'), fun _ => ?_⟩
    unfold truesL at ho
    obtain ⟨A', c', rfl, h5⟩ := Cl.of_own (by omega) ho
    rw [Int.toNat_natCast]
    obtain ⟨g, cu5, e', hg, hbk, _⟩ := h5.2 (by omega)
    exact ⟨A', c', some ⟨cb, 0, none⟩, k, rfl, ⟨h5.sl, intSl hc hk8, fun b off e => by rw [e'] at e; cases e; exact ⟨_, hbk⟩, fun b off e => by cases e; exact ⟨_, hc⟩⟩, fun b off e => by rw [e'] at e; cases e; rw [hrb]; omega, fun b off e => by cases e; rw [hrb]; exact hcb⟩
  obtain ⟨JP, hJP⟩ : ∃ Q, RNewPost w n t p = Q := ⟨_, rfl⟩
  rw [hJP] at HNO HYES ⊢
  clear h1 h2 h3 hJP
  go_enter Try.func33, Try.ntmps33
  go_upto_region 1 with (fail)
  clear hrb hW0
  have z0 : W0.cell? ⟨rb, 0, none⟩ = some (.int .i64 0) := HK0.out.cell 0
  have z1 : W0.cell? ⟨rb, 1, none⟩ = some (.int .i64 0) := HK0.out.cell 1
  have z2 : W0.cell? ⟨rb, 2, none⟩ = some (.slice none 0 0) := HK0.out.cell 2
  have z3 : W0.cell? ⟨rb, 3, none⟩ = some (.slice none 0 0) := HK0.out.cell 3
  have zf := HK0.out.free
  have HZB : Hid (Below rb w ((((W0.setCell ⟨rb, 0, none⟩ (.int .i64 0)).setCell ⟨rb, 1, none⟩ (.int .i64 0)).setCell ⟨rb, 2, none⟩ (.slice none 0 0)).setCell ⟨rb, 3, none⟩ (.slice none 0 0))) := Lib.hid ((((HB0.out.setCell (p := ⟨rb, 0, none⟩) (Nat.le_refl _) _).setCell (p := ⟨rb, 1, none⟩) (Nat.le_refl _) _).setCell (p := ⟨rb, 2, none⟩) (Nat.le_refl _) _).setCell (p := ⟨rb, 3, none⟩) (Nat.le_refl _) _)
  have HZK : Hid (Bk ((((W0.setCell ⟨rb, 0, none⟩ (.int .i64 0)).setCell ⟨rb, 1, none⟩ (.int .i64 0)).setCell ⟨rb, 2, none⟩ (.slice none 0 0)).setCell ⟨rb, 3, none⟩ (.slice none 0 0)) rb 63 #[.int .i64 0, .int .i64 0, .slice none 0 0, .slice none 0 0]) := Lib.hid ((((HK0.out.set 0 (.int .i64 0)).set 1 (.int .i64 0)).set 2 (.slice none 0 0)).set 3 (.slice none 0 0))
  cases b1 with
  | false =>
    go_wp2_with fail
    refine (HI1.out _).mono ?_
    rintro e w1 ⟨rfl, rfl⟩
    go_wp2_with fail
    exact bodyPost_ret (results_f33 _ _ rb _ _ rfl rfl HZK.out rfl) rfl (HNO.out _ (by rw [HOD.out]; rfl) HZB.out)
  | true =>
  cases b2 with
  | false =>
    go_wp2_with fail
    refine (HI1.out _).mono ?_
    rintro e w1 ⟨rfl, rfl⟩
    go_wp2_with fail
    refine (HI2.out _).mono ?_
    rintro e w1 ⟨rfl, rfl⟩
    go_wp2_with fail
    exact bodyPost_ret (results_f33 _ _ rb _ _ rfl rfl HZK.out rfl) rfl (HNO.out _ (by rw [HOD.out]; rfl) HZB.out)
  | true =>
  cases b3 with
  | false =>
    go_wp2_with fail
    refine (HI1.out _).mono ?_
    rintro e w1 ⟨rfl, rfl⟩
    go_wp2_with fail
    refine (HI2.out _).mono ?_
    rintro e w1 ⟨rfl, rfl⟩
    go_wp2_with fail
    refine (HI3.out _).mono ?_
    rintro e w1 ⟨rfl, rfl⟩
    go_wp2_with fail
    exact bodyPost_ret (results_f33 _ _ rb _ _ rfl rfl HZK.out rfl) rfl (HNO.out _ (by rw [HOD.out]; rfl) HZB.out)
  | true =>
  obtain ⟨hn1, hn8⟩ := inB_iff.1 H1.out
  obtain ⟨k8, rfl⟩ : ∃ k8 : Nat, n = k8 := ⟨n.toNat, by omega⟩
  have hk8 : k8 ≤ 8 := by omega
  clear z0 z1 z2 z3 zf
  go_wp2_with fail
  refine (HI1.out _).mono ?_
  rintro e w1 ⟨rfl, hw⟩
  rw [← hw]
  clear hw
  go_wp2_with fail
  refine (HI2.out _).mono ?_
  rintro e w1 ⟨rfl, hw⟩
  rw [← hw]
  clear hw
  go_wp2_with fail
  refine (HI3.out _).mono ?_
  rintro e w1 ⟨rfl, hw⟩
  rw [← hw]
  clear hw
  have KM := makeInts k8 (by omega) W0
  obtain ⟨cb, hcb⟩ : ∃ cb, W0.heap.size = cb := ⟨_, rfl⟩
  obtain ⟨W1, hW1⟩ : ∃ W1, W0.alloc (.cells (intA k8 fun _ => 0) 3) = W1 := ⟨_, rfl⟩
  rw [hW1, hcb] at KM
  obtain ⟨vb, hvb⟩ : ∃ vb, W1.heap.size = vb := ⟨_, rfl⟩
  obtain ⟨W2, hW2⟩ : ∃ W2, W1.alloc (.cells #[.int .i64 t, .int .i64 p, .slice none 0 0, .slice (some ⟨cb, 0, none⟩) k8 k8] 63) = W2 := ⟨_, rfl⟩
  have hb1 : Below W0.heap.size W0 W1 := by rw [← hW1]; exact (Below.refl _ _).alloc (Nat.le_refl _) _
  have hb2 : Below W1.heap.size W1 W2 := by rw [← hW2]; exact (Below.refl _ _).alloc (Nat.le_refl _) _
  have hb02 : Below W0.heap.size W0 W2 := hb1.trans (hb2.mono hb1.size)
  have HB2 : Hid (Below rb w W2) := Lib.hid (HB0.out.trans (hb02.mono (Nat.le_of_lt HK0.out.lt)))
  have HKR2 := Lib.hid (HK0.out.below hb02 HK0.out.lt)
  have HKC2 : Hid (Bk W2 cb 3 (intA k8 fun _ => 0)) := Lib.hid (by rw [← hW2, ← hW1, ← hcb]; exact (Bk.new _ _ _).alloc _)
  have HKV2 : Hid (Bk W2 vb 63 #[.int .i64 t, .int .i64 p, .slice none 0 0, .slice (some ⟨cb, 0, none⟩) k8 k8]) := Lib.hid (by rw [← hW2, ← hvb]; exact Bk.new _ _ _)
  have HVR : Hid (rb < vb) := Lib.hid (by rw [← hvb]; exact Nat.lt_of_lt_of_le HK0.out.lt hb1.size)
  have HCB : Hid (rb ≤ cb) := Lib.hid (by rw [← hcb]; exact Nat.le_of_lt HK0.out.lt)
  clear hb1 hb2 hb02
  obtain ⟨i0, hi, hz0, hz1, hz2⟩ := info_parts infoC_Bool
  go_wp2_with fail
  clear KM hW1 hW2 hcb hvb
  go_loopw [9] (fun i wr => ∃ k : Nat, k ≤ k8 ∧ i = .int .i64 k ∧ Hid (∃ v, Below rb w wr ∧ Bk wr rb 63 #[.int .i64 0, .int .i64 0, .slice none 0 0, .slice none 0 0] ∧ Bk wr cb 3 (intA k8 fun _ => 0) ∧ Bk wr vb 63 #[.int .i64 t, .int .i64 p, v, .slice (some ⟨cb, 0, none⟩) k8 k8] ∧ wr.ownsRow rb 4 1 v k (truesL k))) (fun i _ => k8 - (intOf i).toNat)
  case atStart => exact ⟨0, Nat.zero_le _, rfl, Lib.hid ⟨_, HB2.out, HKR2.out, HKC2.out, HKV2.out, World.ownsRow_nil _ _ _ _⟩⟩
  case round =>
    clear HB2 HKR2 HKC2 HKV2
    obtain ⟨k, hk, rfl, hs0⟩ := hrel
    obtain ⟨v, hs1, hs2, hs3, hs4, hown⟩ := hs0.out
    obtain ⟨Av, cv, hve⟩ : ∃ Av cv, v = .slice Av k cv := by
      have h5 := hown
      unfold truesL at h5
      obtain ⟨A', c', e, _⟩ := Cl.of_own (by omega) h5
      exact ⟨A', c', e⟩
    subst hve
    have HS1 := Lib.hid hs1
    have HS2 := Lib.hid hs2
    have HS3 := Lib.hid hs3
    have HS4 := Lib.hid hs4
    have HOW := Lib.hid hown
    clear hs0 hs1 hs2 hs3 hs4
    have d2 : wr.cell? ⟨vb, 2, none⟩ = some (.slice Av k cv) := HS4.out.cell 2
    by_cases hlt : k < k8
    · have hki : (k : Int) < (k8 : Int) := by omega
      have hszr : rb ≤ wr.heap.size := Nat.le_of_lt HS2.out.lt
      have d5 : (wr.alloc (.cells #[.bool true] 4)).cell? ⟨vb, 2, none⟩ = some (.slice Av k cv) := (HS4.out.alloc _).cell 2
      go_wp2_with (at_builtin; refine wpList_append_own _ rfl _ _ 38 rfl rb 4 i0 (.bool false) 1 1 Try.underlying38 hi hz0 hz1 hz2 rfl (by decide) _ _ _ rfl (hown.alloc _) ⟨wr.heap.size, 0, none⟩ 1 1 [.bool true] rfl rfl ?qc2 ?qc3 ?qc4 ?qc5 ?qc6 ?_)
      case qc2 => intro j u hj; match j, hj with | 0, hj => simp at hj; subst hj; simp [Addr.add]
      case qc3 => intro u hu; simp at hu; subst hu; rfl
      case qc4 => unfold maxLen; omega
      case qc5 => omega
      case qc6 => simp; omega
      intro v' w4 hown' hgrow _
      have hkt := KT.grown (hown.alloc (.cells #[.bool true] 4)) hgrow
      have HB4 : Hid (Below rb w w4) := Lib.hid (by
        have h1 := HS1.out.alloc hszr (.cells #[.bool true] 4)
        exact h1.grown hgrow (by simp; omega) fun g hg => ((hown.alloc (.cells #[] 0)).lt g hg).1)
      have HR4 := Lib.hid (hkt.2 _ _ _ (by decide) (HS2.out.alloc _))
      have HC4 := Lib.hid (hkt.2 _ _ _ (by decide) (HS3.out.alloc _))
      have HV4 := Lib.hid (hkt.2 _ _ _ (by decide) (HS4.out.alloc _))
      rw [show truesL k ++ [.bool true] = truesL (k + 1) from (truesL_succ k).symm] at hown'
      obtain ⟨A5, c5, hv5⟩ : ∃ A5 c5, v' = .slice A5 (k + 1) c5 := by
        have h5 := hown'
        unfold truesL at h5
        obtain ⟨A', c', e, _⟩ := Cl.of_own (by omega) h5
        exact ⟨A', c', e⟩
      subst hv5
      have HO4 := Lib.hid hown'
      have d6 : w4.cell? ⟨vb, 2, none⟩ = some (.slice Av k cv) := HV4.out.cell 2
      have d7 := HV4.out.free 2
      have HNX : Hid (∃ v, Below rb w (w4.setCell ⟨vb, 2, none⟩ (.slice A5 (k + 1) c5)) ∧ Bk (w4.setCell ⟨vb, 2, none⟩ (.slice A5 (k + 1) c5)) rb 63 #[.int .i64 0, .int .i64 0, .slice none 0 0, .slice none 0 0] ∧ Bk (w4.setCell ⟨vb, 2, none⟩ (.slice A5 (k + 1) c5)) cb 3 (intA k8 fun _ => 0) ∧ Bk (w4.setCell ⟨vb, 2, none⟩ (.slice A5 (k + 1) c5)) vb 63 #[.int .i64 t, .int .i64 p, v, .slice (some ⟨cb, 0, none⟩) k8 k8] ∧ (w4.setCell ⟨vb, 2, none⟩ (.slice A5 (k + 1) c5)).ownsRow rb 4 1 v (k + 1) (truesL (k + 1))) := Lib.hid
        ⟨_, HB4.out.setCell (p := ⟨vb, 2, none⟩) (Nat.le_of_lt HVR.out) _, HR4.out.far (p := ⟨vb, 2, none⟩) (Nat.ne_of_lt HVR.out) _, HC4.out.far (p := ⟨vb, 2, none⟩) (HC4.out.neT HV4.out (by decide)) _, HV4.out.set 2 _, ownsKt HO4.out (KT.only (Only.setCell _ _ _ _) HV4.out) (by decide)⟩
      clear hgrow hown' hown hkt d2 d5
      go_wp2_with fail
      obtain ⟨w5, hw5⟩ : ∃ w5, w4.setCell ⟨vb, 2, none⟩ (.slice A5 (k + 1) c5) = w5 := ⟨_, rfl⟩
      rw [hw5] at HNX
      try rw [hw5]
      clear hw5 d6 d7
      go_roundw
      case rel => exact ⟨k + 1, by omega, by go_num, HNX⟩
      case measure => simp [intOf]; omega
    · obtain rfl : k = k8 := by omega
      have v0 : wr.cell? ⟨vb, 0, none⟩ = some (.int .i64 t) := HS4.out.cell 0
      have v1 : wr.cell? ⟨vb, 1, none⟩ = some (.int .i64 p) := HS4.out.cell 1
      have v3 : wr.cell? ⟨vb, 3, none⟩ = some (.slice (some ⟨cb, 0, none⟩) k k) := HS4.out.cell 3
      have z0 : wr.cell? ⟨rb, 0, none⟩ = some (.int .i64 0) := HS2.out.cell 0
      have z1 : wr.cell? ⟨rb, 1, none⟩ = some (.int .i64 0) := HS2.out.cell 1
      have z2 : wr.cell? ⟨rb, 2, none⟩ = some (.slice none 0 0) := HS2.out.cell 2
      have z3 : wr.cell? ⟨rb, 3, none⟩ = some (.slice none 0 0) := HS2.out.cell 3
      have zf := HS2.out.free
      clear HZB HZK
      have HZB : Hid (Below rb w ((((wr.setCell ⟨rb, 0, none⟩ (.int .i64 t)).setCell ⟨rb, 1, none⟩ (.int .i64 p)).setCell ⟨rb, 2, none⟩ (.slice Av k cv)).setCell ⟨rb, 3, none⟩ (.slice (some ⟨cb, 0, none⟩) k k))) := Lib.hid ((((HS1.out.setCell (p := ⟨rb, 0, none⟩) (Nat.le_refl _) _).setCell (p := ⟨rb, 1, none⟩) (Nat.le_refl _) _).setCell (p := ⟨rb, 2, none⟩) (Nat.le_refl _) _).setCell (p := ⟨rb, 3, none⟩) (Nat.le_refl _) _)
      have HZK : Hid (Bk ((((wr.setCell ⟨rb, 0, none⟩ (.int .i64 t)).setCell ⟨rb, 1, none⟩ (.int .i64 p)).setCell ⟨rb, 2, none⟩ (.slice Av k cv)).setCell ⟨rb, 3, none⟩ (.slice (some ⟨cb, 0, none⟩) k k)) rb 63 #[.int .i64 t, .int .i64 p, .slice Av k cv, .slice (some ⟨cb, 0, none⟩) k k]) := Lib.hid ((((HS2.out.set 0 (.int .i64 t)).set 1 (.int .i64 p)).set 2 (.slice Av k cv)).set 3 (.slice (some ⟨cb, 0, none⟩) k k))
      have HON : Hid (Only rb wr ((((wr.setCell ⟨rb, 0, none⟩ (.int .i64 t)).setCell ⟨rb, 1, none⟩ (.int .i64 p)).setCell ⟨rb, 2, none⟩ (.slice Av k cv)).setCell ⟨rb, 3, none⟩ (.slice (some ⟨cb, 0, none⟩) k k))) := Lib.hid ((((Only.setCell _ _ _ _).trans (Only.setCell _ _ _ _)).trans (Only.setCell _ _ _ _)).trans (Only.setCell _ _ _ _))
      have HOZ := Lib.hid (ownsKt HOW.out (KT.only HON.out HS2.out) (by decide))
      have HCZ := Lib.hid (HS3.out.only HON.out (HS3.out.neT HS2.out (by decide)))
      clear hown
      go_wp2_with fail
      exact bodyPost_ret (results_f33 _ _ rb _ _ rfl rfl HZK.out rfl) rfl (HYES.out k _ cb _ rb rfl (by omega) hk8 (Nat.le_refl _) HCB.out (by rw [HOD.out]; rfl) HOZ.out HCZ.out HZB.out)
/-- What is left by the operations of alike's first test. -/
def AlR (n : Nat) (f : Nat → Int) (ix : Nat) (u : Value) (w1 : World) : Prop := ix = 8 → ∃ A c, u = .slice A n c ∧ Sl w1 w1.heap.size 1 A n (fun i _ => .int .i64 (f i))
theorem AlR.no {n : Nat} {f : Nat → Int} {ix : Nat} {u : Value} {w1 : World} (h : ix ≠ 8) : AlR n f ix u w1 := fun e => absurd e h
theorem AlR.later {n : Nat} {f : Nat → Int} {ix : Nat} {u : Value} {w1 w2 : World} (h : AlR n f ix u w1) (hb : Below w1.heap.size w1 w2) : AlR n f ix u w2 := fun e => by
  obtain ⟨A, c, h1, h2⟩ := h e
  exact ⟨A, c, h1, h2.later hb⟩
theorem ints_of {w : World} {B n : Nat} {A : Option Addr} {f : Nat → Int} (h : Sl w B 1 A n fun i _ => .int .i64 (f i)) : IntsAt w B A ((List.range n).map f) := by
  unfold IntsAt
  rw [List.length_map, List.length_range]
  exact Sl.congr h fun i hi j _ => by rw [mapI_get _ hi]
set_option maxRecDepth 100000 in
set_option maxHeartbeats 8000000 in
theorem alike_any (w : World) (B : Nat) (X : VotX) (V : VotD) (h : VotAt w B X V) (Al : Option Addr) (cl : Nat) (Ac : Option Addr) (cc : Nat) (hr : RVot w V Al Ac) :
    Calls Try.prog 35 #[.pointer (some ⟨X.vb, 0, none⟩), .agg (rvA V Al cl Ac cc)] w fun e w' => e = .returned (.bool true) ∧ Below w.heap.size w w' := by
  have hn8 := h.n
  obtain ⟨qb, hqb⟩ : ∃ qb, w.heap.size = qb := ⟨_, rfl⟩
  have HQB := Lib.hid hqb
  have HTR : Hid (∀ a b, Below qb w a → Below a.heap.size a b → Below qb w b) := Lib.hid fun _ _ h1 h2 => h1.trans (h2.mono (by rw [← hqb]; exact h1.size))
  obtain ⟨W0, hW0⟩ : ∃ W0, w.alloc (.cells (rvA V Al cl Ac cc) 63) = W0 := ⟨_, rfl⟩
  have hb0 : Below w.heap.size w W0 := by rw [← hW0]; exact (Below.refl _ w).alloc (Nat.le_refl _) _
  have HB0 : Hid (Below qb w W0) := Lib.hid (by rw [← hqb]; exact hb0)
  have HK0 : Hid (Bk W0 qb 63 (rvA V Al cl Ac cc)) := Lib.hid (by rw [← hW0, ← hqb]; exact Bk.new _ _ _)
  have HV0 := Lib.hid (h.later hb0)
  have HR0 := Lib.hid (hr.later hb0)
  have HLV := Lib.hid (live_any W0 B X V HV0.out)
  have HFIN : Hid (∀ (e : Ending) (w' : World), e = .returned (.bool true) → Below qb w w' → e = .returned (.bool true) ∧ Below qb w w') := Lib.hid fun _ _ a b => ⟨a, b⟩
  obtain ⟨n, hn⟩ : ∃ n, V.n = n := ⟨_, rfl⟩
  have HN := Lib.hid hn
  obtain ⟨tl, htl⟩ : ∃ tl, V.tol = tl := ⟨_, rfl⟩
  obtain ⟨pt, hpt⟩ : ∃ pt, V.pat = pt := ⟨_, rfl⟩
  obtain ⟨f, hf⟩ : ∃ f, V.cnt = f := ⟨_, rfl⟩
  have HFE := Lib.hid hf
  unfold rvA at hW0 HK0 ⊢
  rw [hn, htl, hpt] at hW0 HK0 ⊢
  rw [hn] at hn8 HLV
  rw [hqb]
  clear h hr hb0 hn htl hpt hf
  go_enter Try.func35, Try.ntmps35
  go_upto_region 1 with (fail)
  clear hqb hW0
  go_wp2_with fail
  refine HLV.out.mono ?_
  rintro e w1x ⟨A1, c1, rfl, hcl1, hb1⟩
  have HB1 := Lib.hid (HTR.out _ _ HB0.out hb1)
  have HK1 := Lib.hid (HK0.out.below hb1 HK0.out.lt)
  have HV1 := Lib.hid (HV0.out.later hb1)
  have HR1 := Lib.hid (HR0.out.later hb1)
  have HL1 : Hid (Sl w1x w1x.heap.size 1 A1 n fun i _ => .bool (V.live i)) := Lib.hid hcl1.sl
  clear hb1 hcl1 HLV
  have HCN : Hid (∀ w1, Below w1x.heap.size w1x w1 → Calls Try.prog 40 #[.pointer (some ⟨X.vb, 0, none⟩)] w1 fun e w' => ∃ A c, e = .returned (.slice A n c) ∧ Cl w' w1.heap.size 3 1 A n (fun i _ => .int .i64 (f i)) ∧ Below w1.heap.size w1 w') := Lib.hid fun w1 h1 => by
    have := counts_any w1 B X V (HV1.out.later h1)
    rw [HN.out, HFE.out] at this; exact this
  have HIN : Hid (∀ w1, Below w1x.heap.size w1x w1 → ∀ A9 c9, Sl w1 w1.heap.size 1 A9 n (fun i _ => .int .i64 (f i)) → Calls Try.prog 23 #[.slice A9 n c9, .slice Ac n cc] w1 fun e w' => e = .returned (.bool true) ∧ Below w1.heap.size w1 w') := Lib.hid fun w1 h1 A9 c9 h2 => by
    have h3 := (HR1.out.later h1).c
    rw [HN.out, HFE.out] at h3
    have := ints_any w1 A9 Ac c9 cc _ _ (ints_of h2) (ints_of h3)
    rw [intsB_self, List.length_map, List.length_range] at this
    exact this
  have HC4 : Hid (∀ w1, Below w1x.heap.size w1x w1 → w1.cell? ⟨qb, 2, none⟩ = some (.slice Al n cl) ∧ w1.cell? ⟨qb, 3, none⟩ = some (.slice Ac n cc)) := Lib.hid fun w1 h1 => by
    have h2 := HK1.out.below h1 HK1.out.lt
    exact ⟨h2.cell 2, h2.cell 3⟩
  go_upto_region 2 with (fail)
  refine wp_region_steps (by kernel_rfl) (by kernel_rfl) (fun w1 => Below w1x.heap.size w1x w1) (fun _ w1 w2 => Below w1.heap.size w1 w2)
    (fun ix u d w1 => (match ix with
      | 0 => u = .slice A1 n c1
      | 1 => u = .int .i64 n
      | 2 => u = .pointer (some ⟨qb, 2, none⟩)
      | 3 => u = .slice Al n cl
      | 4 => u = .int .i64 n
      | 5 => u = .bool false
      | 6 => u = .bool false
      | 7 => u = .pointer (some ⟨X.vb, 0, none⟩)
      | 8 => True
      | 9 => u = .pointer (some ⟨qb, 3, none⟩)
      | 10 => u = .slice Ac n cc
      | 11 => u = .bool true
      | 12 => u = .bool false
      | _ => u = .bool false) ∧ AlR n f ix u w1) (Below.refl _ _).drew (fun i j _ _ u d w1 w2 ⟨h1, h2⟩ _ he => ⟨h1, h2.later he⟩) ?_ ?_
  · refine ⟨?_, ?_, ?_, ?_, ?_, ?_, ?_, ?_, ?_, ?_, ?_, ?_, ?_, ?_, trivial⟩
    · intro a w1 vs K HJ HK HD HN kk
      have e5 := HK 5 (by decide)
      go_simp; exact kk _ _ (by simp) HJ (Below.refl _ _) ⟨rfl, AlR.no (by decide)⟩
    · intro a w1 vs K HJ HK HD HN kk
      have e9 := (HD 0 _ 9 rfl rfl rfl).1.trans (HD 0 _ 9 rfl rfl rfl).2.1
      go_simp; exact kk _ _ (by simp) HJ (Below.refl _ _) ⟨rfl, AlR.no (by decide)⟩
    · intro a w1 vs K HJ HK HD HN kk
      have e3 := HK 3 (by decide)
      go_simp; exact kk _ _ (by simp) HJ (Below.refl _ _) ⟨rfl, AlR.no (by decide)⟩
    · intro a w1 vs K HJ HK HD HN kk
      have e11 := (HD 2 _ 11 rfl rfl rfl).1.trans (HD 2 _ 11 rfl rfl rfl).2.1
      have ca := (HC4.out w1 HJ).1
      go_simp; exact kk _ _ (by simp) HJ (Below.refl _ _) ⟨rfl, AlR.no (by decide)⟩
    · intro a w1 vs K HJ HK HD HN kk
      have e12 := (HD 3 _ 12 rfl rfl rfl).1.trans (HD 3 _ 12 rfl rfl rfl).2.1
      go_simp; exact kk _ _ (by simp) HJ (Below.refl _ _) ⟨rfl, AlR.no (by decide)⟩
    · intro a w1 vs K HJ HK HD HN kk
      have e10 := (HD 1 _ 10 rfl rfl rfl).1.trans (HD 1 _ 10 rfl rfl rfl).2.1
      have e13 := (HD 4 _ 13 rfl rfl rfl).1.trans (HD 4 _ 13 rfl rfl rfl).2.1
      go_simp; exact kk _ _ (by simp) HJ (Below.refl _ _) ⟨rfl, AlR.no (by decide)⟩
    · intro a w1 vs K HJ HK HD HN kk
      have e14 := (HD 5 _ 14 rfl rfl rfl).1.trans (HD 5 _ 14 rfl rfl rfl).2.1
      go_simp; exact kk _ _ (by simp) HJ (Below.refl _ _) ⟨rfl, AlR.no (by decide)⟩
    · intro a w1 vs K HJ HK HD HN kk
      have e15 := (HD 6 _ 15 rfl rfl rfl).1.trans (HD 6 _ 15 rfl rfl rfl).2.1
      rw [if_pos (wanted_yes 6 false rfl rfl rfl e15)]
      have e0 := HK 0 (by decide)
      go_simp; exact kk _ _ (by simp) HJ (Below.refl _ _) ⟨rfl, AlR.no (by decide)⟩
    · intro a w1 vs K HJ HK HD HN kk
      have e15 := (HD 6 _ 15 rfl rfl rfl).1.trans (HD 6 _ 15 rfl rfl rfl).2.1
      rw [if_pos (wanted_yes 6 false rfl rfl rfl e15)]
      have e16 := (HD 7 _ 16 rfl rfl rfl).1.trans (HD 7 _ 16 rfl rfl rfl).2.1
      exact wpo_call 40 _ _ rfl #[.pointer (some ⟨X.vb, 0, none⟩)] (by simp [Act.eval, e16]) (fun args w => by kernel_rfl)
        ((HCN.out w1 HJ).mono fun e w' ⟨A9, c9, he, hcl, hb⟩ => ⟨_, he, kk _ _ (by simp) (HJ.trans (hb.mono HJ.size)) hb ⟨trivial, fun _ => ⟨A9, c9, rfl, hcl.sl⟩⟩⟩)
    · intro a w1 vs K HJ HK HD HN kk
      have e15 := (HD 6 _ 15 rfl rfl rfl).1.trans (HD 6 _ 15 rfl rfl rfl).2.1
      rw [if_pos (wanted_yes 6 false rfl rfl rfl e15)]
      have e3 := HK 3 (by decide)
      go_simp; exact kk _ _ (by simp) HJ (Below.refl _ _) ⟨rfl, AlR.no (by decide)⟩
    · intro a w1 vs K HJ HK HD HN kk
      have e15 := (HD 6 _ 15 rfl rfl rfl).1.trans (HD 6 _ 15 rfl rfl rfl).2.1
      rw [if_pos (wanted_yes 6 false rfl rfl rfl e15)]
      have e18 := (HD 9 _ 18 rfl rfl rfl).1.trans (HD 9 _ 18 rfl rfl rfl).2.1
      have ca := (HC4.out w1 HJ).2
      go_simp; exact kk _ _ (by simp) HJ (Below.refl _ _) ⟨rfl, AlR.no (by decide)⟩
    · intro a w1 vs K HJ HK HD HN kk
      have e15 := (HD 6 _ 15 rfl rfl rfl).1.trans (HD 6 _ 15 rfl rfl rfl).2.1
      rw [if_pos (wanted_yes 6 false rfl rfl rfl e15)]
      have e19 := (HD 10 _ 19 rfl rfl rfl).1.trans (HD 10 _ 19 rfl rfl rfl).2.1
      obtain ⟨q, r⟩ := HD 8 _ 17 rfl rfl rfl
      obtain ⟨A9, c9, y1, y2⟩ := r.2 rfl
      have e17 := q.trans y1
      exact wpo_call 23 _ _ rfl #[.slice A9 n c9, .slice Ac n cc] (by simp [Act.eval, e17, e19]) (fun args w => by kernel_rfl)
        ((HIN.out w1 HJ A9 c9 y2).mono fun e w' ⟨he, hb⟩ => ⟨_, he, kk _ _ (by simp) (HJ.trans (hb.mono HJ.size)) hb ⟨rfl, AlR.no (by decide)⟩⟩)
    · intro a w1 vs K HJ HK HD HN kk
      have e15 := (HD 6 _ 15 rfl rfl rfl).1.trans (HD 6 _ 15 rfl rfl rfl).2.1
      rw [if_pos (wanted_yes 6 false rfl rfl rfl e15)]
      have e20 := (HD 11 _ 20 rfl rfl rfl).1.trans (HD 11 _ 20 rfl rfl rfl).2.1
      go_simp; exact kk _ _ (by simp) HJ (Below.refl _ _) ⟨rfl, AlR.no (by decide)⟩
    · intro a w1 vs K HJ HK HD HN kk
      have e15 := (HD 6 _ 15 rfl rfl rfl).1.trans (HD 6 _ 15 rfl rfl rfl).2.1
      have e21 := (HD 12 _ 21 rfl rfl rfl).1.trans (HD 12 _ 21 rfl rfl rfl).2.1
      go_simp; exact kk _ _ (by simp) HJ (Below.refl _ _) ⟨rfl, AlR.no (by decide)⟩
  · intro vs w2 hw2 hrr
    have e13 : vs 13 = .bool false := (hrr 13 _ rfl).1
    have HB2 := Lib.hid (HTR.out _ _ HB1.out hw2)
    have HB12 := Lib.hid hw2
    clear hrr hw2
    simp only [putAll, Act.put, List.setIfInBounds_toArray, List.set_cons_zero, List.set_cons_succ]
    rw [e13]
    clear e13
    go_wp2_with fail
    go_loopw [6] (fun i w3 => ∃ k : Nat, k ≤ n ∧ i = .int .i64 k ∧ Hid (Below w1x.heap.size w1x w3)) (fun i _ => n - (intOf i).toNat)
    case atStart => exact ⟨0, Nat.zero_le _, rfl, HB12⟩
    case round =>
      clear HB12
      obtain ⟨k, hk, rfl, hs⟩ := hrel
      by_cases hlt : k < n
      · have hki : (k : Int) < (n : Int) := by omega
        have h0k : (0 : Int) ≤ (k : Int) := by omega
        obtain ⟨q2, q3⟩ := HC4.out wr hs.out
        obtain ⟨b1, o1, rfl, _, d0⟩ := Sl.at1 (HL1.out.later hs.out) (i := k) hlt
        obtain ⟨b2, o2, rfl, _, d1⟩ := Sl.at1 (HR1.out.later hs.out).l (i := k) (by rw [HN.out]; exact hlt)
        obtain ⟨lv, hlv⟩ : ∃ lv, V.live k = lv := ⟨_, rfl⟩
        try dsimp only at d0 d1
        rw [hlv] at d0 d1
        clear hlv
        go_wp2_with fail
        go_quiet (fail)
        go_wp2_with fail
        go_roundw
        case rel => exact ⟨k + 1, by omega, by go_num, Lib.hid (below_drewN hs.out _)⟩
        case measure => simp [intOf]; omega
      · obtain rfl : k = n := by omega
        go_wp2_with fail
        go_ret
        exact HFIN.out _ _ rfl (HTR.out _ _ HB1.out hs.out)
end Go.Proofs.Ytnmccbjdfdbgpaa
/- What is proved: a contract of the document's Vote. Conditions: the voter's lists and the readings lie in memory. -/
namespace Go.Proofs.Ytnmccbjdfdbgpaa
open Go.RowKit

section
variable {P : Program}
theorem results_ctt {fn : Func} {p u v : Tmp} {ty : TypeId} (h : fn.results = #[.cell p ty, .tmp u, .tmp v]) (tmps : Array Value) (w : World) (g : Nat) (t : TypeId) (cs : Array Value) (d : TypeDesc)
    (hp : tmps.getD p undef = .pointer (some ⟨g, 0, none⟩)) (hg : Bk w g t cs)
    (hu : P.underlying ty = some d) (hd : (match d with | .struct _ | .array _ _ => true | _ => false) = true) (hi : (P.info? ty).map (·.size) = some cs.size) :
    (results fn tmps).run P w = .ok (.tuple #[.agg cs, tmps.getD u undef, tmps.getD v undef]) w := by
  have hl := run_loadVar_at (P := P) w g 0 ty cs d (fun j v hj => by rw [Nat.zero_add, hg.cell]; exact hj) hu hd hi
  have hp' : tmps[p]?.getD undef = .pointer (some ⟨g, 0, none⟩) := by simpa using hp
  simp [results, h, hp', asAddr, hl]
end
theorem results_f34 (tmps : Array Value) (w : World) (g : Nat) (cs : Array Value) (x y : Value) (hx : tmps.getD 5 undef = x) (hy : tmps.getD 6 undef = y) (hp : tmps.getD 4 undef = .pointer (some ⟨g, 0, none⟩)) (hg : Bk w g 63 cs) (h4 : cs.size = 4) :
    (results Try.f34 tmps).run Try.prog w = .ok (.tuple #[.agg cs, x, y]) w := by
  rw [← hx, ← hy]
  obtain ⟨fs, hu⟩ := und_votR
  exact results_ctt rfl tmps w g _ cs _ hp hg hu rfl (by rw [h4]; exact info_votR)
theorem Bk.set4 {w : World} {g : Nat} {T : TypeId} {a b c d : Value} (h : Bk w g T #[a, b, c, d]) (x0 x1 x2 x3 : Value) : Bk ((((w.setCell ⟨g, 0, none⟩ x0).setCell ⟨g, 1, none⟩ x1).setCell ⟨g, 2, none⟩ x2).setCell ⟨g, 3, none⟩ x3) g T #[x0, x1, x2, x3] :=
  (((h.set 0 x0).set 1 x1).set 2 x2).set 3 x3
theorem Only.set4 (w : World) (g : Nat) (x0 x1 x2 x3 : Value) : Only g w ((((w.setCell ⟨g, 0, none⟩ x0).setCell ⟨g, 1, none⟩ x1).setCell ⟨g, 2, none⟩ x2).setCell ⟨g, 3, none⟩ x3) :=
  (((Only.setCell _ _ _ _).trans (Only.setCell _ _ _ _)).trans (Only.setCell _ _ _ _)).trans (Only.setCell _ _ _ _)
/-- Block g begins with n numbers; with n truth values. -/
def CurN (w : World) (g n : Nat) (f : Nat → Int) : Prop := ∃ cur, Bk w g 3 cur ∧ ∀ i, i < n → cur[i]? = some (.int .i64 (f i))
def CurT (w : World) (g n : Nat) (f : Nat → Bool) : Prop := ∃ cur, Bk w g 4 cur ∧ ∀ i, i < n → cur[i]? = some (.bool (f i))
section
variable {w w' : World} {g n : Nat}
theorem CurN.only {f : Nat → Int} {g' : Nat} (h : CurN w g n f) (ho : Only g' w w') (hne : g ≠ g') : CurN w' g n f := by obtain ⟨c, h1, h2⟩ := h; exact ⟨c, h1.only ho hne, h2⟩
theorem CurT.only {f : Nat → Bool} {g' : Nat} (h : CurT w g n f) (ho : Only g' w w') (hne : g ≠ g') : CurT w' g n f := by obtain ⟨c, h1, h2⟩ := h; exact ⟨c, h1.only ho hne, h2⟩
theorem CurN.below {f : Nat → Int} (h : CurN w g n f) (hb : Below w.heap.size w w') : CurN w' g n f := by obtain ⟨c, h1, h2⟩ := h; exact ⟨c, h1.below hb h1.lt, h2⟩
theorem CurT.below {f : Nat → Bool} (h : CurT w g n f) (hb : Below w.heap.size w w') : CurT w' g n f := by obtain ⟨c, h1, h2⟩ := h; exact ⟨c, h1.below hb h1.lt, h2⟩
theorem CurN.cell {f : Nat → Int} (h : CurN w g n f) {i : Nat} (hi : i < n) : w.cell? ⟨g, i, none⟩ = some (.int .i64 (f i)) ∧ w.frozen? ⟨g, i, none⟩ = false := by obtain ⟨c, h1, h2⟩ := h; exact ⟨by rw [h1.cell]; exact h2 i hi, h1.free i⟩
theorem CurT.cell {f : Nat → Bool} (h : CurT w g n f) {i : Nat} (hi : i < n) : w.cell? ⟨g, i, none⟩ = some (.bool (f i)) ∧ w.frozen? ⟨g, i, none⟩ = false := by obtain ⟨c, h1, h2⟩ := h; exact ⟨by rw [h1.cell]; exact h2 i hi, h1.free i⟩
theorem CurN.set {f f' : Nat → Int} (h : CurN w g n f) {k : Nat} (hk : k < n) (v : Int) (hf : ∀ i, i < n → f' i = if i = k then v else f i) : CurN (w.setCell ⟨g, k, none⟩ (.int .i64 v)) g n f' := by
  obtain ⟨c, h1, h2⟩ := h
  refine ⟨_, h1.set k _, fun i hi => ?_⟩
  have hs := (Array.getElem?_eq_some_iff.1 (h2 k hk)).1
  rw [Array.getElem?_setIfInBounds, hf i hi]
  by_cases e : i = k
  · subst e; rw [if_pos rfl, if_pos rfl, if_pos hs]
  · rw [if_neg (fun x => e x.symm), if_neg e]; exact h2 i hi
theorem CurT.set {f f' : Nat → Bool} (h : CurT w g n f) {k : Nat} (hk : k < n) (v : Bool) (hf : ∀ i, i < n → f' i = if i = k then v else f i) : CurT (w.setCell ⟨g, k, none⟩ (.bool v)) g n f' := by
  obtain ⟨c, h1, h2⟩ := h
  refine ⟨_, h1.set k _, fun i hi => ?_⟩
  have hs := (Array.getElem?_eq_some_iff.1 (h2 k hk)).1
  rw [Array.getElem?_setIfInBounds, hf i hi]
  by_cases e : i = k
  · subst e; rw [if_pos rfl, if_pos rfl, if_pos hs]
  · rw [if_neg (fun x => e x.symm), if_neg e]; exact h2 i hi
theorem CurN.ne {f : Nat → Int} {T : TypeId} {cs : Array Value} {g' : Nat} (h : CurN w g n f) (h' : Bk w g' T cs) (hT : T ≠ 3) : g ≠ g' := by obtain ⟨c, h1, _⟩ := h; exact h1.neT h' (fun e => hT e.symm)
theorem CurT.ne {f : Nat → Bool} {T : TypeId} {cs : Array Value} {g' : Nat} (h : CurT w g n f) (h' : Bk w g' T cs) (hT : T ≠ 4) : g ≠ g' := by obtain ⟨c, h1, _⟩ := h; exact h1.neT h' (fun e => hT e.symm)
theorem CurN.neT {f : Nat → Int} {f' : Nat → Bool} {g' m : Nat} (h : CurN w g n f) (h' : CurT w g' m f') : g ≠ g' := by obtain ⟨c, h1, _⟩ := h; obtain ⟨c', h2, _⟩ := h'; exact h1.neT h2 (by decide)
theorem CurN.sl {f : Nat → Int} (h : CurN w g n f) (hn : n ≤ 4096) : Sl w w.heap.size 1 (some ⟨g, 0, none⟩) n fun i _ => .int .i64 (f i) := by
  obtain ⟨c, h1, h2⟩ := h
  refine ⟨by omega, fun _ => ⟨g, 0, rfl, h1.lt, fun i hi j hj => ?_⟩⟩
  obtain rfl : j = 0 := by omega
  rw [h1.cell]; simpa using h2 i hi
theorem CurT.sl {f : Nat → Bool} (h : CurT w g n f) (hn : n ≤ 4096) : Sl w w.heap.size 1 (some ⟨g, 0, none⟩) n fun i _ => .bool (f i) := by
  obtain ⟨c, h1, h2⟩ := h
  refine ⟨by omega, fun _ => ⟨g, 0, rfl, h1.lt, fun i hi j hj => ?_⟩⟩
  obtain rfl : j = 0 := by omega
  rw [h1.cell]; simpa using h2 i hi
end
theorem Cl.curN {w : World} {B n : Nat} {A : Option Addr} {f : Nat → Int} (h : Cl w B 3 1 A n fun i _ => .int .i64 (f i)) (hn : 0 < n) : ∃ g, A = some ⟨g, 0, none⟩ ∧ B ≤ g ∧ CurN w g n f := by
  obtain ⟨g, cur, e, h1, h2, h3⟩ := h.2 hn
  exact ⟨g, e, h1, cur, h2, fun i hi => by have := h3 i hi 0 (by omega); simpa using this⟩
theorem Cl.curT {w : World} {B n : Nat} {A : Option Addr} {f : Nat → Bool} (h : Cl w B 4 1 A n fun i _ => .bool (f i)) (hn : 0 < n) : ∃ g, A = some ⟨g, 0, none⟩ ∧ B ≤ g ∧ CurT w g n f := by
  obtain ⟨g, cur, e, h1, h2, h3⟩ := h.2 hn
  exact ⟨g, e, h1, cur, h2, fun i hi => by have := h3 i hi 0 (by omega); simpa using this⟩
/-- The world of a round of the document's Vote. -/
structure RvW (w : World) (qb rb cb lb n : Nat) (box : Array Value) (L : Nat → Bool) (C : Nat → Int) (wr : World) : Prop where
  bel : Below qb w wr
  box : Bk wr qb 63 box
  res : Bk wr rb 63 #[.int .i64 0, .int .i64 0, .slice none 0 0, .slice none 0 0]
  cnt : CurN wr cb n C
  liv : CurT wr lb n L
  lo : qb ≤ cb ∧ qb ≤ lb
section
variable {w : World} {qb rb cb lb n : Nat} {box : Array Value} {L L' : Nat → Bool} {C C' : Nat → Int} {wr w' : World}
theorem RvW.below (h : RvW w qb rb cb lb n box L C wr) (hb : Below wr.heap.size wr w') : RvW w qb rb cb lb n box L C w' :=
  ⟨h.bel.trans (hb.mono (Nat.le_of_lt h.box.lt)), h.box.below hb h.box.lt, h.res.below hb h.res.lt, h.cnt.below hb, h.liv.below hb, h.lo⟩
theorem RvW.setC (h : RvW w qb rb cb lb n box L C wr) {k : Nat} (hk : k < n) (v : Int) (hf : ∀ i, i < n → C' i = if i = k then v else C i) : RvW w qb rb cb lb n box L C' (wr.setCell ⟨cb, k, none⟩ (.int .i64 v)) :=
  ⟨h.bel.setCell (p := ⟨cb, k, none⟩) h.lo.1 _, h.box.far (p := ⟨cb, k, none⟩) (fun e => h.cnt.ne h.box (by decide) e.symm) _, h.res.far (p := ⟨cb, k, none⟩) (fun e => h.cnt.ne h.res (by decide) e.symm) _, h.cnt.set hk v hf, h.liv.only (Only.setCell _ _ _ _) (fun e => h.cnt.neT h.liv e.symm), h.lo⟩
theorem RvW.setL (h : RvW w qb rb cb lb n box L C wr) {k : Nat} (hk : k < n) (v : Bool) (hf : ∀ i, i < n → L' i = if i = k then v else L i) : RvW w qb rb cb lb n box L' C (wr.setCell ⟨lb, k, none⟩ (.bool v)) :=
  ⟨h.bel.setCell (p := ⟨lb, k, none⟩) h.lo.2 _, h.box.far (p := ⟨lb, k, none⟩) (fun e => h.liv.ne h.box (by decide) e.symm) _, h.res.far (p := ⟨lb, k, none⟩) (fun e => h.liv.ne h.res (by decide) e.symm) _, h.cnt.only (Only.setCell _ _ _ _) (h.cnt.neT h.liv), h.liv.set hk v hf, h.lo⟩
end
def RVotePost (w : World) (V : VotD) (l : List RdD) (Al0 Ac0 : Option Addr) (e : Ending) (w' : World) : Prop :=
  ∃ Al cl Ac cc, e = .returned (.tuple #[.agg (rvA (voteB V l).2 Al cl Ac cc), .int .i64 (voteB V l).1.1, .int .i64 (voteB V l).1.2]) ∧ RVot w' (voteB V l).2 Al Ac ∧ Below w.heap.size w w' ∧ (Al = Al0 ∨ ∀ b off, Al = some ⟨b, off, none⟩ → w.heap.size ≤ b) ∧ (Ac = Ac0 ∨ ∀ b off, Ac = some ⟨b, off, none⟩ → w.heap.size ≤ b)
theorem valsK_succ (V : VotD) (l : List RdD) (k : Nat) : valsK V l (k + 1) = if (rdAt l k).there && V.live k then valsK V l k ++ [(rdAt l k).val] else valsK V l k := rfl
end Go.Proofs.Ytnmccbjdfdbgpaa
