/- What is proved: the texts Bg, one behind the other; each says at its head what it proves, and under which conditions. -/
import Derived.BigQuiet
import Derived.Test.Ytnmccbjdfdbgpaan10
/- What is proved: AvionicsMasks returns true, and makes only memory. Conditions: the readings lie in memory. -/
namespace Go.Proofs.Ytnmccbjdfdbgpaa
open Go.RowKit

theorem RdsAt.off {w : World} {B : Nat} {X : VotX} {A : Option Addr} {l : List RdD} (h : RdsAt w B A l) (hn : 0 < l.length) (h1 : B ≤ X.lb) (h2 : B ≤ X.cb) : RdsOff X A := by
  intro b off e
  obtain ⟨b', off', e', hb, _⟩ := h.2 hn
  rw [e] at e'
  injection e' with e'
  injection e' with e1 _ _
  omega
theorem allR_succ (l : List RdD) (k : Nat) : allR l (k + 1) = if (rdAt l k).there then allR l k + 1 else allR l k := rfl
theorem manyR_succ (l : List RdD) (a b : Int) (k : Nat) : manyR l a b (k + 1) = if (rdAt l k).there && inB (rdAt l k).val a b then manyR l a b k + 1 else manyR l a b k := rfl
set_option maxRecDepth 100000 in
set_option maxHeartbeats 16000000 in
theorem masks_any (w : World) (A : Option Addr) (c : Nat) (l : List RdD) (h : RdsAt w w.heap.size A l) (_hw : ∀ y ∈ l, Wd y.val) (p q : Int) (_hp : Wd p) (_hq : Wd q) :
    Calls Try.prog 3 #[.slice A l.length c, .agg #[.int .i64 p, .int .i64 q]] w fun e w' => e = .returned (.bool true) ∧ Below w.heap.size w w' := by
  clear _hw _hp _hq
  have HL := Lib.hid h
  have hll := h.1
  obtain ⟨qb, hqb⟩ : ∃ qb, w.heap.size = qb := ⟨_, rfl⟩
  obtain ⟨W0, hW0⟩ : ∃ W0, w.alloc (.cells #[.int .i64 p, .int .i64 q] 23) = W0 := ⟨_, rfl⟩
  have HB0 : Hid (Below qb w W0) := Lib.hid (by rw [← hW0, ← hqb]; exact (Below.refl _ w).alloc (Nat.le_refl _) _)
  have HK0 : Hid (Bk W0 qb 23 #[.int .i64 p, .int .i64 q]) := Lib.hid (by rw [← hW0, ← hqb]; exact Bk.new _ _ _)
  have HNV := Lib.hid (newVoter_any W0 l.length 0 0)
  have HLQ := Lib.hid (fun (w1 : World) (hb : Below qb w w1) => (Sl.mono (Sl.below h (by rw [hqb]; exact hb)) hb.size : RdsAt w1 w1.heap.size A l))
  have HLB : Hid (∀ w1, Below qb w w1 → RdsAt w1 qb A l) := Lib.hid fun w1 hb => by have := Sl.below h (by rw [hqb]; exact hb); rw [hqb] at this; exact this
  have HTR : Hid (∀ a b, Below qb w a → Below a.heap.size a b → Below qb w b) := Lib.hid fun a b h1 h2 => h1.trans (h2.mono (by rw [← hqb]; exact h1.size))
  have HFIN : Hid (∀ (e : Ending) (w' : World), e = .returned (.bool true) → Below qb w w' → e = .returned (.bool true) ∧ Below qb w w') := Lib.hid fun _ _ a b => ⟨a, b⟩
  obtain ⟨n, hn⟩ : ∃ n, l.length = n := ⟨_, rfl⟩
  have HN := Lib.hid hn
  have HVA := Lib.hid (fun (w1 : World) (X : VotX) (hv : VotAt w1 W0.heap.size X (newV n 0 0)) (hl : RdsAt w1 w1.heap.size A l) (hx : RdsOff X A) => vote_any w1 _ X _ hv A c l hl hx)
  obtain ⟨R, hR⟩ : ∃ R, voteB (newV n 0 0) l = R := ⟨_, rfl⟩
  have HVR := Lib.hid hR
  have HLAW : Hid (R.1.2 = 0 → allR l n < 2 * manyR l p q n → p ≤ R.1.1 ∧ R.1.1 ≤ q) := Lib.hid fun h1 h2 => by
    rw [← hR] at h1 ⊢
    rw [← hn] at h2
    exact masks_law h1 h2
  rw [hn] at hll HNV HVA ⊢
  have HNV2 : Hid (∀ e w1, NewPost W0 n 0 0 e w1 → Below W0.heap.size W0 w1 ∧ (e = .returned (.tuple #[.pointer none, .int .i64 4]) ∨ (1 ≤ n ∧ ∃ X, e = .returned (.tuple #[.pointer (some ⟨X.vb, 0, none⟩), .int .i64 0]) ∧ VotAt w1 W0.heap.size X (newV n 0 0)))) := Lib.hid fun e w1 ⟨h1, h2, h3⟩ => by
    refine ⟨h1, ?_⟩
    cases hb : newOk n 0 0 with
    | false => exact Or.inl (h2 hb)
    | true =>
      right
      obtain ⟨X, hX, hv⟩ := h3 hb
      rw [Int.toNat_natCast] at hv
      exact ⟨hv.n.1, X, hX, hv⟩
  obtain ⟨Q1, hQ1⟩ : ∃ Q, NewPost W0 n 0 0 = Q := ⟨_, rfl⟩
  rw [hQ1] at HNV HNV2
  have hsz0 : qb < W0.heap.size := HK0.out.lt
  obtain ⟨a, ha⟩ : ∃ a, R.1.1 = a := ⟨_, rfl⟩
  obtain ⟨er, her⟩ : ∃ er, R.1.2 = er := ⟨_, rfl⟩
  rw [ha, her] at HLAW
  have HVP : Hid (∀ (X : VotX) (w1 : World) (e : Ending) (w2 : World), VotePost w1 W0.heap.size X (newV n 0 0) l e w2 → e = .returned (.tuple #[.int .i64 a, .int .i64 er]) ∧ ChgV X w1 w2) := Lib.hid fun X w1 e w2 ⟨h1, _, h3⟩ => by
    rw [hR, ha, her] at h1
    exact ⟨h1, h3⟩
  rw [hqb]
  clear h hn hQ1 hR ha her
  go_enter Try.func3, Try.ntmps3
  go_upto_region 1 with (fail)
  clear hW0 hqb
  go_wp2_with fail
  refine HNV.out.mono ?_
  intro e w1 hp1
  obtain ⟨hb1, hcase⟩ := HNV2.out _ _ hp1
  have HB1 := Lib.hid (HTR.out _ _ HB0.out hb1)
  have HK1 := Lib.hid (HK0.out.below hb1 HK0.out.lt)
  clear hp1 HNV HNV2 HVR
  rcases hcase with rfl | ⟨hn1, X, rfl, hv⟩
  · clear hb1
    by_cases h20 : 20 < n
    · have h20i : (20 : Int) < (n : Int) := by omega
      go_wp2_with fail
      refine (awake_any _).mono ?_
      rintro e w2 ⟨rfl, hb2⟩
      go_wp2_with fail
      go_ret
      exact HFIN.out _ _ rfl (HTR.out _ _ HB1.out hb2)
    · have h20i : ¬ (20 : Int) < (n : Int) := by omega
      go_wp2_with fail
      refine (awake_any _).mono ?_
      rintro e w2 ⟨rfl, hb2⟩
      go_wp2_with fail
      go_ret
      exact HFIN.out _ _ rfl (HTR.out _ _ HB1.out hb2)
  have HV := Lib.hid hv
  have hlo := hv.lo
  have HLT : Hid (w1.heap.size ≤ w1.heap.size) := Lib.hid (Nat.le_refl _)
  clear hv hb1
  by_cases h20 : 20 < n
  · have h20i : (20 : Int) < (n : Int) := by omega
    go_wp2_with fail
    refine (awake_any _).mono ?_
    rintro e w2 ⟨rfl, hb2⟩
    go_wp2_with fail
    go_ret
    exact HFIN.out _ _ rfl (HTR.out _ _ HB1.out hb2)
  have h20i : ¬ (20 : Int) < (n : Int) := by omega
  go_wp2_with fail
  go_loopw [7, 8, 9] (fun m al i wr => ∃ k : Nat, k ≤ n ∧ i = .int .i64 k ∧ m = .int .i64 (manyR l p q k : Nat) ∧ al = .int .i64 (allR l k : Nat) ∧ Hid (Below w1.heap.size w1 wr)) (fun _ _ i _ => n - (intOf i).toNat)
  case atStart => exact ⟨0, Nat.zero_le _, rfl, rfl, rfl, Lib.hid (Below.refl _ _)⟩
  case round =>
    obtain ⟨k, hk, rfl, rfl, rfl, hs⟩ := hrel
    obtain ⟨al, hal⟩ : ∃ al, allR l k = al := ⟨_, rfl⟩
    obtain ⟨mn, hmn⟩ : ∃ mn, manyR l p q k = mn := ⟨_, rfl⟩
    have hal1 : al ≤ k := by rw [← hal]; exact allR_le l k
    have hmn1 : mn ≤ k := by rw [← hmn]; exact manyR_le l p q k
    have HBR := Lib.hid (HTR.out _ _ HB1.out hs.out)
    have HAS := Lib.hid (allR_succ l k)
    have HMS := Lib.hid (manyR_succ l p q k)
    rw [hal] at HAS ⊢
    rw [hmn] at HMS ⊢
    by_cases hlt : k < n
    · have hki : (k : Int) < (n : Int) := by omega
      have h0k : (0 : Int) ≤ (k : Int) := by omega
      obtain ⟨bb, off, rfl, hbb, d0, d1⟩ := Sl.at2 (HLB.out wr HBR.out) (i := k) (by rw [HN.out]; exact hlt)
      obtain ⟨y, hy⟩ : ∃ y, rdAt l k = y := ⟨_, rfl⟩
      change wr.cell? _ = some (rdC (rdAt l k) 0) at d0
      change wr.cell? _ = some (rdC (rdAt l k) 1) at d1
      rw [hy] at d0 d1 HAS HMS
      obtain ⟨v, t⟩ := y
      change wr.cell? _ = some (.int .i64 v) at d0
      change wr.cell? _ = some (.bool t) at d1
      change Hid (_ = if t then _ else _) at HAS
      change Hid (_ = if t && inB v p q then _ else _) at HMS
      have k1 := HK1.out.below hs.out HK1.out.lt
      have q0 : wr.cell? ⟨qb, 0, none⟩ = some (.int .i64 p) := k1.cell 0
      have q1 : wr.cell? ⟨qb, 1, none⟩ = some (.int .i64 q) := k1.cell 1
      clear hal hmn hy k1
      cases t with
      | false =>
        go_wp2_with fail
        go_roundw
        case rel => exact ⟨k + 1, by omega, by go_num, by rw [HMS.out]; rfl, by rw [HAS.out]; rfl, hs⟩
        case measure => simp [intOf]; omega
      | true =>
        have HA2 : Hid (allR l (k + 1) = al + 1) := Lib.hid (by rw [HAS.out]; rfl)
        by_cases hvp : p ≤ v
        · have g1 : decide (p ≤ v) = true := decide_eq_true hvp
          by_cases hvq : v ≤ q
          · have g2 : decide (v ≤ q) = true := decide_eq_true hvq
            have HM2 : Hid (manyR l p q (k + 1) = mn + 1) := Lib.hid (by rw [HMS.out]; unfold inB; rw [g1, g2]; rfl)
            go_wp2_with fail
            go_quiet (fail)
            go_wp2_with fail
            go_roundw
            case rel => exact ⟨k + 1, by omega, by go_num, by rw [HM2.out]; go_num, by rw [HA2.out]; go_num, Lib.hid (below_drewN hs.out _)⟩
            case measure => simp [intOf]; omega
          · have g2 : decide (v ≤ q) = false := decide_eq_false hvq
            have HM2 : Hid (manyR l p q (k + 1) = mn) := Lib.hid (by rw [HMS.out]; unfold inB; rw [g1, g2]; rfl)
            go_wp2_with fail
            go_quiet (fail)
            go_wp2_with fail
            go_roundw
            case rel => exact ⟨k + 1, by omega, by go_num, by rw [HM2.out], by rw [HA2.out]; go_num, Lib.hid (below_drewN hs.out _)⟩
            case measure => simp [intOf]; omega
        · have g1 : decide (p ≤ v) = false := decide_eq_false hvp
          have HM2 : Hid (manyR l p q (k + 1) = mn) := Lib.hid (by rw [HMS.out]; unfold inB; rw [g1]; rfl)
          go_wp2_with fail
          go_quiet (fail)
          go_wp2_with fail
          go_roundw
          case rel => exact ⟨k + 1, by omega, by go_num, by rw [HM2.out], by rw [HA2.out]; go_num, Lib.hid (below_drewN hs.out _)⟩
          case measure => simp [intOf]; omega
    · obtain rfl : k = n := by omega
      have hvr := HV.out.later hs.out
      have HVC := Lib.hid (HVA.out wr X hvr (HLQ.out _ HBR.out) ((HLB.out wr HBR.out).off (by rw [HN.out]; omega) (by omega) (by omega)))
      have k1 := HK1.out.below hs.out HK1.out.lt
      have HKR := Lib.hid k1
      clear hvr k1
      have HLW : Hid (er = 0 → al < 2 * mn → p ≤ a ∧ a ≤ q) := Lib.hid (by rw [← hal, ← hmn]; exact HLAW.out)
      clear hal hmn
      go_wp2_with fail
      refine HVC.out.mono ?_
      intro e w2 hp2
      obtain ⟨rfl, hcv⟩ := HVP.out _ _ _ _ hp2
      have HB2 : Hid (Below qb w w2) := Lib.hid (HBR.out.trans (hcv.below (by have := HBR.out.size; have := HKR.out.lt; omega) (by omega) (by omega)))
      have hbq : w2.heap[qb]? = wr.heap[qb]? := hcv.block qb HKR.out.lt (by omega) (by omega)
      have k2 : Bk w2 qb 23 #[.int .i64 p, .int .i64 q] := hbq.trans HKR.out
      have q0 : w2.cell? ⟨qb, 0, none⟩ = some (.int .i64 p) := k2.cell 0
      have q1 : w2.cell? ⟨qb, 1, none⟩ = some (.int .i64 q) := k2.cell 1
      clear hp2 hcv hbq k2
      by_cases he : er = 0
      · subst he
        by_cases hm : al < 2 * mn
        · obtain ⟨e1, e2⟩ := HLW.out rfl hm
          have hmi : (al : Int) < 2 * (mn : Int) := by omega
          have g1 : decide (a < p) = false := decide_eq_false (by omega)
          have g2 : decide (q < a) = false := decide_eq_false (by omega)
          go_wp2_with fail
          refine (awake_any _).mono ?_
          rintro e w3 ⟨rfl, hb3⟩
          go_wp2_with fail
          go_ret
          exact HFIN.out _ _ rfl (HTR.out _ _ HB2.out hb3)
        · have hmi : ¬ (al : Int) < 2 * (mn : Int) := by omega
          go_wp2_with fail
          refine (awake_any _).mono ?_
          rintro e w3 ⟨rfl, hb3⟩
          go_wp2_with fail
          go_ret
          exact HFIN.out _ _ rfl (HTR.out _ _ HB2.out hb3)
      · go_wp2_with fail
        refine (awake_any _).mono ?_
        rintro e w3 ⟨rfl, hb3⟩
        go_wp2_with fail
        go_ret
        exact HFIN.out _ _ rfl (HTR.out _ _ HB2.out hb3)
end Go.Proofs.Ytnmccbjdfdbgpaa
