/- What is proved: the texts Cc, one behind the other; each says at its head what it proves, and under which conditions. -/
import Derived.Test.Ytnmccbjdfdbgpaan15
/- What is proved: AvionicsCuts returns true, and makes only memory. Conditions: the council, the votes and the lies lie in memory. -/
namespace Go.Proofs.Ytnmccbjdfdbgpaa
open Go.RowKit

set_option maxRecDepth 100000 in
set_option maxHeartbeats 32000000 in
theorem cuts_any (w : World) (N F : Int) (Af : Option Addr) (cf : Nat) (fl : List Int) (hf : IntsAt w w.heap.size Af fl) (_hN : Wd N) (_hF : Wd F) (_hw : ∀ n ∈ fl, Wd n)
    (Av : Option Addr) (cv : Nat) (vs : List (List Int)) (hvs : RowsAt w w.heap.size Av vs) (_hv : ∀ r ∈ vs, ∀ n ∈ r, Wd n) (A : Option Addr) (c : Nat) (l : List LieD) (hl : LiesAt w w.heap.size A l) :
    Calls Try.prog 8 #[.agg #[.int .i64 N, .int .i64 F, .slice Af fl.length cf], .slice Av vs.length cv, .slice A l.length c] w fun e w' => e = .returned (.bool true) ∧ Below w.heap.size w w' := by
  clear _hN _hF _hw _hv
  have hll := hl.len
  have hlv := hvs.len
  have hfl := hf.1
  obtain ⟨qb, hqb⟩ : ∃ qb, w.heap.size = qb := ⟨_, rfl⟩
  have HQB := Lib.hid hqb
  have HTR : Hid (∀ a b, Below qb w a → Below a.heap.size a b → Below qb w b) := Lib.hid fun _ _ h1 h2 => h1.trans (h2.mono (by rw [← hqb]; exact h1.size))
  have HFIN : Hid (∀ (e : Ending) (w' : World), e = .returned (.bool true) → Below qb w w' → e = .returned (.bool true) ∧ Below qb w w') := Lib.hid fun _ _ a b => ⟨a, b⟩
  have HAG := Lib.hid fun (w1 : World) (hb : Below qb w w1) => cutOff_any w1 N F Af cf fl Av cv vs A c l (Sl.mono (Sl.below hf (by rw [hqb]; exact hb)) hb.size) (by
    have h1 := hvs.below (w' := w1) (by rw [hqb]; exact hb)
    obtain ⟨P, cc, h2, h3⟩ := h1.sl
    exact ⟨P, cc, Sl.mono h2 hb.size, fun i hi => Sl.mono (h3 i hi) hb.size⟩) ((hl.below (by rw [hqb]; exact hb)).mono hb.size)
  have HGR := Lib.hid fun (w1 : World) (hb : Below qb w w1) => great_any w1 A c l ((hl.below (by rw [hqb]; exact hb)).mono hb.size)
  have HWI := Lib.hid fun (w1 : World) (hb : Below qb w w1) => wide_any w1 Av cv vs (by
    have h1 := hvs.below (w' := w1) (by rw [hqb]; exact hb)
    obtain ⟨P, cc, h2, h3⟩ := h1.sl
    exact ⟨P, cc, Sl.mono h2 hb.size, fun i hi => Sl.mono (h3 i hi) hb.size⟩)
  have HRA := Lib.hid fun (w1 : World) (hb : Below qb w w1) => refCutOff_any w1 N F Af cf fl Av cv vs A c l (Sl.mono (Sl.below hf (by rw [hqb]; exact hb)) hb.size) (by
    have h1 := hvs.below (w' := w1) (by rw [hqb]; exact hb)
    obtain ⟨P, cc, h2, h3⟩ := h1.sl
    exact ⟨P, cc, Sl.mono h2 hb.size, fun i hi => Sl.mono (h3 i hi) hb.size⟩) ((hl.below (by rw [hqb]; exact hb)).mono hb.size)
  obtain ⟨nl, hnl⟩ : ∃ nl, l.length = nl := ⟨_, rfl⟩
  obtain ⟨nf, hnf⟩ : ∃ nf, fl.length = nf := ⟨_, rfl⟩
  obtain ⟨nv, hnv⟩ : ∃ nv, vs.length = nv := ⟨_, rfl⟩
  have HNV := Lib.hid hnv
  obtain ⟨R, hR⟩ : ∃ R, cutB N F fl vs l = R := ⟨_, rfl⟩
  rw [hR] at HAG HRA
  obtain ⟨W0, hW0⟩ : ∃ W0, w.alloc (.cells #[.int .i64 N, .int .i64 F, .slice Af nf cf] 48) = W0 := ⟨_, rfl⟩
  have HB0 : Hid (Below qb w W0) := Lib.hid (by rw [← hW0, ← hqb]; exact (Below.refl _ w).alloc (Nat.le_refl _) _)
  have HK0 : Hid (Bk W0 qb 48 #[.int .i64 N, .int .i64 F, .slice Af nf cf]) := Lib.hid (by rw [← hW0, ← hqb]; exact Bk.new _ _ _)
  rw [hnl] at hll HAG HRA HGR ⊢
  rw [hnf] at hfl HAG HRA ⊢
  rw [hnv] at hlv HAG HRA HWI ⊢
  rw [hqb]
  clear hf hl hnl hnf hR hvs hnv
  go_enter Try.func8, Try.ntmps8
  go_upto_region 1 with (fail)
  clear hqb hW0
  have k2 : W0.cell? ⟨qb, 2, none⟩ = some (.slice Af nf cf) := HK0.out.cell 2
  by_cases h11 : 1100 < nl
  · have h11i : (1100 : Int) < (nl : Int) := by omega
    go_wp2_with fail
    refine (awake_any _).mono ?_
    rintro e w1 ⟨rfl, hb1⟩
    go_wp2_with fail
    go_ret
    exact HFIN.out _ _ rfl (HTR.out _ _ HB0.out hb1)
  have h11i : ¬ (1100 : Int) < (nl : Int) := by omega
  go_wp2_with fail
  refine (HGR.out _ HB0.out).mono ?_
  rintro e w1 ⟨b, rfl, hb1⟩
  have HB1 := Lib.hid (HTR.out _ _ HB0.out hb1)
  have HK1 := Lib.hid (HK0.out.below hb1 HK0.out.lt)
  clear hb1 k2 HGR
  have k2 : w1.cell? ⟨qb, 2, none⟩ = some (.slice Af nf cf) := HK1.out.cell 2
  cases b with
  | true =>
    go_wp2_with fail
    refine (awake_any _).mono ?_
    rintro e w2 ⟨rfl, hb2⟩
    go_wp2_with fail
    go_ret
    exact HFIN.out _ _ rfl (HTR.out _ _ HB1.out hb2)
  | false =>
  by_cases h20 : 20 < nf
  · have h20i : (20 : Int) < (nf : Int) := by omega
    go_wp2_with fail
    refine (awake_any _).mono ?_
    rintro e w2 ⟨rfl, hb2⟩
    go_wp2_with fail
    go_ret
    exact HFIN.out _ _ rfl (HTR.out _ _ HB1.out hb2)
  have h20i : ¬ (20 : Int) < (nf : Int) := by omega
  by_cases h25 : 25 < nv
  · have h25i : (25 : Int) < (nv : Int) := by omega
    go_wp2_with fail
    refine (awake_any _).mono ?_
    rintro e w2 ⟨rfl, hb2⟩
    go_wp2_with fail
    go_ret
    exact HFIN.out _ _ rfl (HTR.out _ _ HB1.out hb2)
  have h25i : ¬ (25 : Int) < (nv : Int) := by omega
  go_wp2_with fail
  refine (HWI.out _ HB1.out).mono ?_
  rintro e w2 ⟨b, rfl, hb2⟩
  have HB2 := Lib.hid (HTR.out _ _ HB1.out hb2)
  have HK2 := Lib.hid (HK1.out.below hb2 HK1.out.lt)
  clear hb2 k2 HWI
  cases b with
  | true =>
    go_wp2_with fail
    refine (awake_any _).mono ?_
    rintro e w3 ⟨rfl, hb3⟩
    go_wp2_with fail
    go_ret
    exact HFIN.out _ _ rfl (HTR.out _ _ HB2.out hb3)
  | false =>
  have k0 : w2.cell? ⟨qb, 0, none⟩ = some (.int .i64 N) := HK2.out.cell 0
  have k1 : w2.cell? ⟨qb, 1, none⟩ = some (.int .i64 F) := HK2.out.cell 1
  have k2 : w2.cell? ⟨qb, 2, none⟩ = some (.slice Af nf cf) := HK2.out.cell 2
  go_wp2_with fail
  refine (HAG.out _ HB2.out).mono ?_
  rintro e w3 ⟨A3, c3, rfl, hcl3, hb3⟩
  have HB3 := Lib.hid (HTR.out _ _ HB2.out hb3)
  have HK3 := Lib.hid (HK2.out.below hb3 HK2.out.lt)
  have HCL3 := Lib.hid hcl3
  clear hb3 hcl3 k0 k1 k2 HAG
  have k0 : w3.cell? ⟨qb, 0, none⟩ = some (.int .i64 N) := HK3.out.cell 0
  have k1 : w3.cell? ⟨qb, 1, none⟩ = some (.int .i64 F) := HK3.out.cell 1
  have k2 : w3.cell? ⟨qb, 2, none⟩ = some (.slice Af nf cf) := HK3.out.cell 2
  go_wp2_with fail
  refine (HRA.out _ HB3.out).mono ?_
  rintro e w4 ⟨A4, c4, rfl, hcl4, hb4⟩
  have HB4 := Lib.hid (HTR.out _ _ HB3.out hb4)
  have HIN := Lib.hid (ints_any w4 A3 A4 c3 c4 R.1 R.1 (HCL3.out.below hb4).sl hcl4.sl)
  rw [intsB_self] at HIN
  obtain ⟨rn, hrn⟩ : ∃ rn, R.1.length = rn := ⟨_, rfl⟩
  obtain ⟨er, her⟩ : ∃ er, R.2 = er := ⟨_, rfl⟩
  rw [hrn] at HIN ⊢
  rw [her]
  clear hb4 hcl4 hrn her k0 k1 k2 HRA HCL3
  go_wp2_with fail
  refine HIN.out.mono ?_
  rintro e w5 ⟨rfl, hb5⟩
  have HB5 := Lib.hid (HTR.out _ _ HB4.out hb5)
  clear hb5
  go_wp2_with fail
  refine (awake_any _).mono ?_
  rintro e w6 ⟨rfl, hb6⟩
  go_wp2_with fail
  go_ret
  exact HFIN.out _ _ rfl (HTR.out _ _ HB5.out hb6)
end Go.Proofs.Ytnmccbjdfdbgpaa
