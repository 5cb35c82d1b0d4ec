/- What is proved: a contract of Put of engine.System. Conditions: the system lies in memory. -/
import Derived.Test.YtogobjmmgjfjjaaD2
namespace Go.Proofs.Ytogobjmmgjfjjaa
open Go.RowKit

set_option maxRecDepth 100000 in
set_option maxHeartbeats 2000000 in
theorem put_any (w : World) (X : SX) (S : Sys) (h : SysAt w X S) (t c g : Int) :
    Calls Try.prog 20 #[.pointer (some ⟨X.sb, 0, none⟩), .int .i64 t, .int .i64 c, .int .i64 g] w fun e w' => e = .returned (.int .i64 (putB S t c g).1) ∧ SysAt w' X (putB S t c g).2 ∧ Chg X w w' := by
  have HH := Lib.hid (hasTank_any w X S h t)
  have h0 := Lib.hid h
  have hl := h.lens
  by_cases h1 : inB t 0 (S.p.tanks.length - 1) = true
  · obtain ⟨g1, g2⟩ := inB_iff.1 h1
    obtain ⟨i, rfl⟩ := Int.eq_ofNat_of_zero_le g1
    have hi : i < S.p.tanks.length := by omega
    have hii : (i : Int) < (S.p.tanks.length : Int) := by omega
    have c40 := h.cells.c40
    have c0 := h.cells.c0
    have He : hasE i S.p.tanks.length = 0 := by unfold hasE; rw [h1]; rfl
    rw [He] at HH
    obtain ⟨b, off, hA, hB, _, d1, _, _⟩ := h.plantAt.tanks.at4 hi
    simp only [tankC] at d1
    rw [hA] at c0
    have hc : w.cell? ⟨X.tb, i * 5, none⟩ = some (.int .i64 (S.tank i).content) := (h.t.cell (i * 5 + 0)).trans (tanksA_get _ _ _ _ hi (by omega))
    have hg : w.cell? ⟨X.tb, i * 5 + 1, none⟩ = some (.int .i64 (S.tank i).gas) := (h.t.cell (i * 5 + 1)).trans (tanksA_get _ _ _ _ hi (by omega))
    have hf := h.t.free (i * 5)
    have hf1 := h.t.free (i * 5 + 1)
    have hput := Lib.hid (show putB S i c g = if inB c 0 (S.p.tank i).room && inB g 0 1073741824 then (0, S.setT i { S.tank i with content := c, gas := g }) else (4, S) by unfold putB; rw [if_pos h1, Int.toNat_natCast])
    clear h He h1 hA
    cases h2 : inB c 0 (S.p.tank i).room with
    | false =>
      go_enter Try.func20, Try.ntmps20
      go_wp2_with (first | (go_at_call 33; refine HH.out.mono ?_; rintro e w' ⟨rfl, rfl⟩) | (go_at_call 17; refine (within_any _ _ _ _).mono ?_; rintro e w' ⟨rfl, rfl⟩))
      go_ret
      rw [hput.out, h2]
      exact ⟨rfl, h0.out, Chg.refl _ _⟩
    | true =>
    cases h3 : inB g 0 1073741824 with
    | false =>
      go_enter Try.func20, Try.ntmps20
      go_wp2_with (first | (go_at_call 33; refine HH.out.mono ?_; rintro e w' ⟨rfl, rfl⟩) | (go_at_call 17; refine (within_any _ _ _ _).mono ?_; rintro e w' ⟨rfl, rfl⟩))
      go_ret
      rw [hput.out, h2, h3]
      exact ⟨rfl, h0.out, Chg.refl _ _⟩
    | true =>
      go_enter Try.func20, Try.ntmps20
      go_wp2_with (first | (go_at_call 33; refine HH.out.mono ?_; rintro e w' ⟨rfl, rfl⟩) | (go_at_call 17; refine (within_any _ _ _ _).mono ?_; rintro e w' ⟨rfl, rfl⟩))
      go_region
      go_wp2
      go_ret
      rw [hput.out, h2, h3]
      obtain ⟨e1, e2⟩ := inB_iff.1 h2
      obtain ⟨e3, e4⟩ := inB_iff.1 h3
      have ho := (Only.setCell w X.tb (i * 5) (.int .i64 c)).trans (Only.setCell _ X.tb (i * 5 + 1) (.int .i64 g))
      have ho' : Only X.tb w ((w.setCell ⟨X.tb, i * 5, none⟩ (.int .i64 c)).setCell ⟨X.tb, i * 5 + 1, none⟩ (.int .i64 g)).drew := ⟨ho.os, ho.tape, ho.output, ho.size, ho.block⟩
      obtain ⟨n1, n2, n3, _, _, _⟩ := h0.out.ne
      refine ⟨rfl, h0.out.turn (Chg.of_only ho' (by simp)) rfl (h0.out.s.only ho' n1) ?_ (h0.out.c.only ho' (Ne.symm n3)) (h0.out.ok.setT i _ ?_), Chg.of_only ho' (by simp)⟩
      · have := (h0.out.t.set (i * 5 + 0) (.int .i64 c)).set (i * 5 + 1) (.int .i64 g)
        rw [tanksA_set _ _ _ _ hi (by omega), tanksA_set _ _ _ _ hi (by omega)] at this
        refine Eq.trans this ?_
        congr 3
        funext k
        by_cases e : k = i
        · subst e; simp [Sys.setT, setTank]
        · simp [Sys.setT, e]
      · have := h0.out.ok.tanks i hi; exact ⟨e1, e2, e3, e4, this.2.2.2.2.1, this.2.2.2.2.2⟩
  · have He : hasE t S.p.tanks.length = 7 := by unfold hasE; rw [if_neg h1]
    rw [He] at HH
    have Hf := Lib.hid (show putB S t c g = (7, S) by unfold putB; rw [if_neg h1])
    clear h1 h He
    go_enter Try.func20, Try.ntmps20
    go_wp2_with (first | (go_at_call 33; refine HH.out.mono ?_; rintro e w' ⟨rfl, rfl⟩))
    go_ret
    rw [Hf.out]
    exact ⟨rfl, h0.out, Chg.refl _ _⟩
end Go.Proofs.Ytogobjmmgjfjjaa
