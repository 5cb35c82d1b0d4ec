/- What is proved: the texts T6, one behind the other; each says at its head what it proves, and under which conditions. -/
import Derived.Outline
import Derived.Test.YtogobjmmgjfjjaaGreatm6
/- What is proved: the law EngineChecks answers true. Conditions: the plant and the sequence lie in memory. -/
namespace Go.Proofs.YtogobjmmgjfjjaaGreat
open Go.RowKit

set_option maxRecDepth 100000 in
set_option maxHeartbeats 8000000 in
theorem checks_any (w : World) (x : PV) (p : PlantD) (hp : PlantAt w w.heap.size x p) (y : QV) (q : SeqD) (hq : SeqAt w w.heap.size y q) :
    Calls Tryz.prog 4 #[.agg (plantA x p), .agg (seqA y q)] w fun e w' => e = .returned (.bool true) ∧ Below w.heap.size w w' := by
  obtain ⟨W, hW⟩ : ∃ W, W = (w.alloc (.cells (plantA x p) 27)).alloc (.cells (seqA y q) 43) := ⟨_, rfl⟩
  have hbW : Below w.heap.size w W := by rw [hW]; exact ((Below.refl _ _).alloc (Nat.le_refl _) _).alloc (by simp) _
  have hb0 : Bk W w.heap.size 27 (plantA x p) := by rw [hW]; exact (Bk.new _ _ _).alloc _
  have hb1 : Bk W (w.heap.size + 1) 43 (seqA y q) := by rw [hW]; exact Bk.newAt _ _ _ _ (by simp)
  have HC : Hid (∀ wx, Below W.heap.size W wx → (wx.cell? ⟨w.heap.size, 0, none⟩ = some (.slice x.tA p.tanks.length x.tc) ∧ wx.cell? ⟨w.heap.size, 1, none⟩ = some (.slice x.vA p.valves.length x.vc) ∧
      wx.cell? ⟨w.heap.size, 2, none⟩ = some (.slice x.lA p.lines.length x.lc) ∧ wx.cell? ⟨w.heap.size, 3, none⟩ = some (.slice x.nA p.never.length x.nc)) ∧
      wx.cell? ⟨w.heap.size + 1, 0, none⟩ = some (.slice y.sA q.steps.length y.sc) ∧ wx.cell? ⟨w.heap.size + 1, 1, none⟩ = some (.slice y.rA q.reds.length y.rc) ∧ wx.cell? ⟨w.heap.size + 1, 2, none⟩ = some (.slice y.aA q.abort.length y.ac)) := Lib.hid fun wx hx =>
    have h0 := hb0.below hx hb0.lt
    have h1 := hb1.below hx hb1.lt
    ⟨⟨h0.cell 0, h0.cell 1, h0.cell 2, h0.cell 3⟩, h1.cell 0, h1.cell 1, h1.cell 2⟩
  have HP : Hid (∀ wx, Below W.heap.size W wx → PlantAt wx wx.heap.size x p) := Lib.hid fun wx hx => ((hp.below hbW).below (hx.mono hbW.size)).mono (Nat.le_trans hbW.size hx.size)
  have HQ : Hid (∀ wx, Below W.heap.size W wx → SeqAt wx wx.heap.size y q) := Lib.hid fun wx hx => ((hq.below hbW).below (hx.mono hbW.size)).mono (Nat.le_trans hbW.size hx.size)
  have HB := Lib.hid hbW
  have HW := Lib.hid hW
  have HA := Lib.hid awake_any
  simp only [plantA, seqA] at HW
  clear hp hq hbW hb0 hb1 hW
  have HG := Lib.hid fun wx hx => great_any wx x p (HP.out wx hx)
  have HL := Lib.hid fun wx hx => long_any wx y q (HQ.out wx hx)
  have HN := Lib.hid fun wx hx => new_any wx x p (HP.out wx hx)
  have HRP := Lib.hid fun wx hx => refCheckPlant_any wx x p (HP.out wx hx)
  have HEP := Lib.hid fun wx hx => checkPlant_any wx x p (HP.out wx hx)
  have HES := Lib.hid fun wx hx => checkSequence_any wx x p (HP.out wx hx) y q (HQ.out wx hx)
  have HRS := Lib.hid fun wx hx => refCheckSequence_any wx x p (HP.out wx hx) y q (HQ.out wx hx)
  simp only [plantA, seqA] at HG HL HN HRP HEP HES HRS
  have END : Hid (∀ wx, Below W.heap.size W wx → Calls Tryz.prog 14 #[] wx fun e w' => e = .returned (.bool true) ∧ Below W.heap.size W w') := Lib.hid fun wx hx =>
    (HA.out wx).mono fun e w' ⟨he, hb⟩ => ⟨he, hx.trans (hb.mono hx.size)⟩
  dsimp only [plantA, seqA]
  have C0 := HC.out W (Below.refl _ _)
  obtain ⟨⟨c0, c1, c2, c3⟩, s0, s1, s2⟩ := C0
  go_enter Tryz.func4, Tryz.ntmps4
  go_wp2_with fail
  rw [← HW.out]
  refine (HG.out W (Below.refl _ _)).mono ?_
  rintro e w1 ⟨b1, rfl, _, hb1⟩
  have HB1 : Hid (Below W.heap.size W w1) := Lib.hid hb1
  clear hb1 c0 c1 c2 c3 s0 s1 s2
  cases b1 with
  | true =>
    go_wp2_with fail
    refine (END.out w1 HB1.out).mono ?_
    rintro e w2 ⟨rfl, hb2⟩
    go_wp2_with fail
    go_ret
    exact ⟨rfl, HB.out.trans (hb2.mono HB.out.size)⟩
  | false =>
    obtain ⟨⟨c0, c1, c2, c3⟩, s0, s1, s2⟩ := HC.out w1 HB1.out
    go_wp2_with fail
    refine (HL.out w1 HB1.out).mono ?_
    rintro e w2 ⟨b2, rfl, hb2⟩
    have HB2 : Hid (Below W.heap.size W w2) := Lib.hid (HB1.out.trans (hb2.mono HB1.out.size))
    clear hb2 c0 c1 c2 c3 s0 s1 s2
    cases b2 with
    | true =>
      go_wp2_with fail
      refine (END.out w2 HB2.out).mono ?_
      rintro e w3 ⟨rfl, hb3⟩
      go_wp2_with fail
      go_ret
      exact ⟨rfl, HB.out.trans (hb3.mono HB.out.size)⟩
    | false =>
      obtain ⟨⟨c0, c1, c2, c3⟩, s0, s1, s2⟩ := HC.out w2 HB2.out
      go_wp2_with fail
      refine (HN.out w2 HB2.out).mono ?_
      rintro e w3 ⟨hb3, hnew⟩
      have HB3 : Hid (Below W.heap.size W w3) := Lib.hid (HB2.out.trans (hb3.mono HB2.out.size))
      clear hb3 c0 c1 c2 c3 s0 s1 s2
      have hcase : ∃ v r, e = .returned (.tuple #[.pointer v, .int .i64 r]) ∧ ((plantB p = true ∧ r = 0 ∧ ∃ a, v = some a) ∨ (plantB p = false ∧ r = 2 ∧ v = none)) := by
        by_cases hpb : plantB p = true
        · rw [if_pos hpb] at hnew
          obtain ⟨X, he, _⟩ := hnew
          exact ⟨_, _, he, Or.inl ⟨hpb, rfl, _, rfl⟩⟩
        · rw [if_neg hpb] at hnew
          exact ⟨_, _, hnew, Or.inr ⟨by simpa using hpb, rfl, rfl⟩⟩
      clear hnew
      obtain ⟨v, r, rfl, hc⟩ := hcase
      obtain ⟨⟨c0, c1, c2, c3⟩, s0, s1, s2⟩ := HC.out w3 HB3.out
      rcases hc with ⟨hpb, rfl, a, rfl⟩ | ⟨hpb, rfl, rfl⟩
      all_goals
        have HPB := Lib.hid hpb
        clear hpb
        go_wp2_with fail
        have c := HRP.out w3 HB3.out
        rw [HPB.out] at c
        refine c.mono ?_
        rintro e w4 ⟨rfl, hb4⟩
        have HB4 : Hid (Below W.heap.size W w4) := Lib.hid (HB3.out.trans (hb4.mono HB3.out.size))
        clear c hb4 c0 c1 c2 c3 s0 s1 s2
        obtain ⟨⟨d0, d1, d2, d3⟩, t0, t1, t2⟩ := HC.out w4 HB4.out
        have c0 := Ext.cell d0
        have c1 := Ext.cell d1
        have c2 := Ext.cell d2
        have c3 := Ext.cell d3
        have s0 := Ext.cell t0
        have s1 := Ext.cell t1
        have s2 := Ext.cell t2
        have HEPx : Hid (∀ z : Ext w4, _) := Lib.hid fun z => by have h := HEP.out z.w (HB4.out.trans (z.h.mono HB4.out.size)); rw [HPB.out] at h; exact h
        have HESx : Hid (∀ z : Ext w4, _) := Lib.hid fun z => HES.out z.w (HB4.out.trans (z.h.mono HB4.out.size))
        have HRSx : Hid (∀ z : Ext w4, _) := Lib.hid fun z => HRS.out z.w (HB4.out.trans (z.h.mono HB4.out.size))
        have HAx : Hid (∀ z : Ext w4, _) := Lib.hid fun z => HA.out z.w
        clear d0 d1 d2 d3 t0 t1 t2
        go_wp2_with fail
        refine wp_region_ext_quiet (by kernel_rfl) (by kernel_rfl) ?_
        repeat (go_big_quiet_step (first | ((go_at_call 20; exact Ext.calls (HEPx.out _))) | ((go_at_call 21; exact Ext.calls (HESx.out _))) | ((go_at_call 22; exact Ext.calls (HRSx.out _))) | ((go_at_call 14; exact Ext.calls (HAx.out _)))))
        refine wpQuiet_nil ?_
        intro w5 hw5
        go_wp2_with fail
        go_ret
        exact ⟨rfl, HB.out.trans ((HB4.out.trans (hw5.mono HB4.out.size)).mono HB.out.size)⟩
end Go.Proofs.YtogobjmmgjfjjaaGreat
