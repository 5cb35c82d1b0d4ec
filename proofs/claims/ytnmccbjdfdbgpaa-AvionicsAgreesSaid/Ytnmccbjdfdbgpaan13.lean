/- What is proved: the texts By, one behind the other; each says at its head what it proves, and under which conditions. -/
import Derived.Test.Ytnmccbjdfdbgpaan12
/- What is proved: AvionicsAgrees returns true, and makes only memory. Conditions: the council and the lies lie in memory. -/
namespace Go.Proofs.Ytnmccbjdfdbgpaa
open Go.RowKit

set_option maxRecDepth 100000 in
set_option maxHeartbeats 16000000 in
theorem agrees_any (w : World) (N F : Int) (Af : Option Addr) (cf : Nat) (fl : List Int) (hf : IntsAt w w.heap.size Af fl) (_hN : Wd N) (_hF : Wd F) (_hw : ∀ n ∈ fl, Wd n)
    (A : Option Addr) (c : Nat) (l : List LieD) (hl : LiesAt w w.heap.size A l) (g v : Int) (_hg : Wd g) (_hv : Wd v) :
    Calls Try.prog 6 #[.agg #[.int .i64 N, .int .i64 F, .slice Af fl.length cf], .slice A l.length c, .agg #[.int .i64 g, .int .i64 v]] w fun e w' => e = .returned (.bool true) ∧ Below w.heap.size w w' := by
  clear _hN _hF _hw _hg _hv
  have hll := hl.len
  have hfl := hf.1
  obtain ⟨qb, hqb⟩ : ∃ qb, w.heap.size = qb := ⟨_, rfl⟩
  have HQB := Lib.hid hqb
  have HTR : Hid (∀ a b, Below qb w a → Below a.heap.size a b → Below qb w b) := Lib.hid fun _ _ h1 h2 => h1.trans (h2.mono (by rw [← hqb]; exact h1.size))
  have HFIN : Hid (∀ (e : Ending) (w' : World), e = .returned (.bool true) → Below qb w w' → e = .returned (.bool true) ∧ Below qb w w') := Lib.hid fun _ _ a b => ⟨a, b⟩
  have HAG := Lib.hid fun (w1 : World) (hb : Below qb w w1) => agree_any w1 N F Af cf fl g v A c l (Sl.mono (Sl.below hf (by rw [hqb]; exact hb)) hb.size) ((hl.below (by rw [hqb]; exact hb)).mono hb.size)
  have HGR := Lib.hid fun (w1 : World) (hb : Below qb w w1) => great_any w1 A c l ((hl.below (by rw [hqb]; exact hb)).mono hb.size)
  have HRA := Lib.hid fun (w1 : World) (hb : Below qb w w1) => refAgree_any w1 N F Af cf fl g v A c l (Sl.mono (Sl.below hf (by rw [hqb]; exact hb)) hb.size) ((hl.below (by rw [hqb]; exact hb)).mono hb.size)
  obtain ⟨nl, hnl⟩ : ∃ nl, l.length = nl := ⟨_, rfl⟩
  obtain ⟨nf, hnf⟩ : ∃ nf, fl.length = nf := ⟨_, rfl⟩
  obtain ⟨R, hR⟩ : ∃ R, agreeB N F fl g v l = R := ⟨_, rfl⟩
  rw [hR] at HAG HRA
  obtain ⟨W0, hW0⟩ : ∃ W0, (w.alloc (.cells #[.int .i64 N, .int .i64 F, .slice Af nf cf] 48)).alloc (.cells #[.int .i64 g, .int .i64 v] 23) = W0 := ⟨_, rfl⟩
  have HB0 : Hid (Below qb w W0) := Lib.hid (by rw [← hW0, ← hqb]; exact ((Below.refl _ w).alloc (Nat.le_refl _) _).alloc (by simp) _)
  have HK0 : Hid (Bk W0 qb 48 #[.int .i64 N, .int .i64 F, .slice Af nf cf]) := Lib.hid (by rw [← hW0, ← hqb]; exact (Bk.new _ _ _).alloc _)
  have HQ0 : Hid (Bk W0 (qb + 1) 23 #[.int .i64 g, .int .i64 v]) := Lib.hid (by rw [← hW0, ← hqb]; exact Bk.newAt _ _ _ _ (by simp))
  rw [hnl] at hll HAG HRA HGR ⊢
  rw [hnf] at hfl HAG HRA ⊢
  rw [hqb]
  clear hf hl hnl hnf hR
  go_enter Try.func6, Try.ntmps6
  go_upto_region 1 with (fail)
  clear hqb hW0
  have k2 : W0.cell? ⟨qb, 2, none⟩ = some (.slice Af nf cf) := HK0.out.cell 2
  by_cases h11 : 1100 < nl
  · have h11i : (1100 : Int) < (nl : Int) := by omega
    go_wp2_with fail
    refine (awake_any _).mono ?_
    rintro e w1 ⟨rfl, hb1⟩
    go_wp2_with fail
    go_ret
    exact HFIN.out _ _ rfl (HTR.out _ _ HB0.out hb1)
  have h11i : ¬ (1100 : Int) < (nl : Int) := by omega
  go_wp2_with fail
  refine (HGR.out _ HB0.out).mono ?_
  rintro e w1 ⟨b, rfl, hb1⟩
  have HB1 := Lib.hid (HTR.out _ _ HB0.out hb1)
  have HK1 := Lib.hid (HK0.out.below hb1 HK0.out.lt)
  have HQ1 := Lib.hid (HQ0.out.below hb1 HQ0.out.lt)
  clear hb1 k2 HGR
  have k2 : w1.cell? ⟨qb, 2, none⟩ = some (.slice Af nf cf) := HK1.out.cell 2
  cases b with
  | true =>
    go_wp2_with fail
    refine (awake_any _).mono ?_
    rintro e w2 ⟨rfl, hb2⟩
    go_wp2_with fail
    go_ret
    exact HFIN.out _ _ rfl (HTR.out _ _ HB1.out hb2)
  | false =>
  by_cases h20 : 20 < nf
  · have h20i : (20 : Int) < (nf : Int) := by omega
    go_wp2_with fail
    refine (awake_any _).mono ?_
    rintro e w2 ⟨rfl, hb2⟩
    go_wp2_with fail
    go_ret
    exact HFIN.out _ _ rfl (HTR.out _ _ HB1.out hb2)
  have h20i : ¬ (20 : Int) < (nf : Int) := by omega
  have k0 : w1.cell? ⟨qb, 0, none⟩ = some (.int .i64 N) := HK1.out.cell 0
  have k1 : w1.cell? ⟨qb, 1, none⟩ = some (.int .i64 F) := HK1.out.cell 1
  have q0 : w1.cell? ⟨qb + 1, 0, none⟩ = some (.int .i64 g) := HQ1.out.cell 0
  have q1 : w1.cell? ⟨qb + 1, 1, none⟩ = some (.int .i64 v) := HQ1.out.cell 1
  go_wp2_with fail
  refine (HAG.out _ HB1.out).mono ?_
  rintro e w2 ⟨A2, c2, rfl, hcl2, hb2⟩
  have HB2 := Lib.hid (HTR.out _ _ HB1.out hb2)
  have HK2 := Lib.hid (HK1.out.below hb2 HK1.out.lt)
  have HQ2 := Lib.hid (HQ1.out.below hb2 HQ1.out.lt)
  have HCL2 := Lib.hid hcl2
  clear hb2 hcl2 k0 k1 k2 q0 q1 HAG
  have k0 : w2.cell? ⟨qb, 0, none⟩ = some (.int .i64 N) := HK2.out.cell 0
  have k1 : w2.cell? ⟨qb, 1, none⟩ = some (.int .i64 F) := HK2.out.cell 1
  have k2 : w2.cell? ⟨qb, 2, none⟩ = some (.slice Af nf cf) := HK2.out.cell 2
  have q0 : w2.cell? ⟨qb + 1, 0, none⟩ = some (.int .i64 g) := HQ2.out.cell 0
  have q1 : w2.cell? ⟨qb + 1, 1, none⟩ = some (.int .i64 v) := HQ2.out.cell 1
  go_wp2_with fail
  refine (HRA.out _ HB2.out).mono ?_
  rintro e w3 ⟨A3, c3, rfl, hcl3, hb3⟩
  have HB3 := Lib.hid (HTR.out _ _ HB2.out hb3)
  have HIN := Lib.hid (ints_any w3 A2 A3 c2 c3 R.1 R.1 (HCL2.out.below hb3).sl hcl3.sl)
  rw [intsB_self] at HIN
  obtain ⟨rn, hrn⟩ : ∃ rn, R.1.length = rn := ⟨_, rfl⟩
  obtain ⟨er, her⟩ : ∃ er, R.2 = er := ⟨_, rfl⟩
  rw [hrn] at HIN ⊢
  rw [her]
  clear hb3 hcl3 hrn her k0 k1 k2 q0 q1 HRA HCL2
  go_wp2_with fail
  refine HIN.out.mono ?_
  rintro e w4 ⟨rfl, hb4⟩
  have HB4 := Lib.hid (HTR.out _ _ HB3.out hb4)
  clear hb4
  go_wp2_with fail
  refine (awake_any _).mono ?_
  rintro e w5 ⟨rfl, hb5⟩
  go_wp2_with fail
  go_ret
  exact HFIN.out _ _ rfl (HTR.out _ _ HB4.out hb5)
end Go.Proofs.Ytnmccbjdfdbgpaa
