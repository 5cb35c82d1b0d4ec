/- What is proved: contracts of Put, Leak, Stick of engine.System. Conditions: the system lies in memory. -/
import Derived.Test.YtogobjmmgjfjjaaD1
import Derived.BigRegion
namespace Go.Proofs.Ytogobjmmgjfjjaa
open Go.RowKit

def Sys.setT (S : Sys) (i : Nat) (t : TankS) : Sys := { S with tank := fun k => if k = i then t else S.tank k }
def putB (S : Sys) (t c g : Int) : Int × Sys :=
  if inB t 0 (S.p.tanks.length - 1) then
    if inB c 0 (S.p.tank t.toNat).room && inB g 0 1073741824 then (0, S.setT t.toNat { S.tank t.toNat with content := c, gas := g }) else (4, S)
  else (7, S)
def leakB (S : Sys) (t r : Int) : Int × Sys :=
  if inB t 0 (S.p.tanks.length - 1) then
    if inB r 0 1073741824 then (0, S.setT t.toNat { S.tank t.toNat with leak := r }) else (4, S)
  else (7, S)
def stickB (S : Sys) (v : Int) (b : Bool) : Int × Sys :=
  if inB v 0 (S.p.valves.length - 1) then (0, { S with stuck := fun k => if k = v.toNat then b else S.stuck k }) else (7, S)

theorem SysOk.setT {S : Sys} (h : SysOk S) (i : Nat) (t : TankS) (ht : 0 ≤ t.content ∧ t.content ≤ (S.p.tank i).room ∧ 0 ≤ t.gas ∧ t.gas ≤ 1073741824 ∧ 0 ≤ t.leak ∧ t.leak ≤ 1073741824) : SysOk (S.setT i t) := by
  refine ⟨h.valid, h.spots, h.safe, fun k hk => ?_⟩
  unfold Sys.setT
  by_cases e : k = i
  · subst e; simpa using ht
  · simpa [e] using h.tanks k hk
theorem inB_iff {n a b : Int} : inB n a b = true ↔ a ≤ n ∧ n ≤ b := by unfold inB; rw [Bool.and_eq_true, decide_eq_true_eq, decide_eq_true_eq]

set_option maxRecDepth 100000 in
set_option maxHeartbeats 1000000 in
theorem leak_any (w : World) (X : SX) (S : Sys) (h : SysAt w X S) (t r : Int) :
    Calls Try.prog 45 #[.pointer (some ⟨X.sb, 0, none⟩), .int .i64 t, .int .i64 r] w fun e w' => e = .returned (.int .i64 (leakB S t r).1) ∧ SysAt w' X (leakB S t r).2 ∧ Chg X w w' := by
  have HH := Lib.hid (hasTank_any w X S h t)
  have h0 := Lib.hid h
  have hl := h.lens
  by_cases h1 : inB t 0 (S.p.tanks.length - 1) = true
  · obtain ⟨g1, g2⟩ := inB_iff.1 h1
    obtain ⟨i, rfl⟩ := Int.eq_ofNat_of_zero_le g1
    have hi : i < S.p.tanks.length := by omega
    have hii : (i : Int) < (S.p.tanks.length : Int) := by omega
    have c40 := h.cells.c40
    have hc := (h.t.cell (i * 5 + 2)).trans (tanksA_get _ _ _ _ hi (by omega))
    have hf := h.t.free (i * 5 + 2)
    simp only [tankRow] at hc
    have hc' : w.cell? ⟨X.tb, i * 5 + 2, none⟩ = some (.int .i64 (S.tank i).leak) := hc
    have He : hasE i S.p.tanks.length = 0 := by unfold hasE; rw [h1]; rfl
    rw [He] at HH
    clear h hc He
    by_cases h2 : inB r 0 1073741824 = true
    · have Hf := Lib.hid (show leakB S i r = (0, S.setT i { S.tank i with leak := r }) by unfold leakB; rw [if_pos h1, if_pos h2, Int.toNat_natCast])
      obtain ⟨r1, r2⟩ := inB_iff.1 h2
      clear h1
      go_enter Try.func45, Try.ntmps45
      go_wp2_with (first | (go_at_call 33; refine HH.out.mono ?_; rintro e w' ⟨rfl, rfl⟩) | (go_at_call 17; refine (within_any _ _ _ _).mono ?_; rintro e w' ⟨rfl, rfl⟩))
      go_ret
      rw [Hf.out]
      have ho := Only.setCell w X.tb (i * 5 + 2) (.int .i64 r)
      obtain ⟨n1, n2, n3, _, _, _⟩ := h0.out.ne
      refine ⟨rfl, h0.out.turn (Chg.of_only ho (by simp)) rfl (h0.out.s.only ho n1) ?_ (h0.out.c.only ho (Ne.symm n3)) (h0.out.ok.setT i _ ?_), Chg.of_only ho (by simp)⟩
      · have := h0.out.t.set (i * 5 + 2) (.int .i64 r)
        rw [tanksA_set _ _ _ _ hi (by omega)] at this
        exact this
      · have := h0.out.ok.tanks i hi; exact ⟨this.1, this.2.1, this.2.2.1, this.2.2.2.1, r1, r2⟩
    · have h2' : inB r 0 1073741824 = false := by simpa using h2
      have Hf := Lib.hid (show leakB S i r = (4, S) by unfold leakB; rw [if_pos h1, if_neg h2])
      clear h1 h2
      go_enter Try.func45, Try.ntmps45
      go_wp2_with (first | (go_at_call 33; refine HH.out.mono ?_; rintro e w' ⟨rfl, rfl⟩) | (go_at_call 17; refine (within_any _ _ _ _).mono ?_; rintro e w' ⟨rfl, rfl⟩))
      go_ret
      rw [Hf.out]
      exact ⟨rfl, h0.out, Chg.refl _ _⟩
  · have He : hasE t S.p.tanks.length = 7 := by unfold hasE; rw [if_neg h1]
    rw [He] at HH
    have Hf := Lib.hid (show leakB S t r = (7, S) by unfold leakB; rw [if_neg h1])
    clear h1 h He
    go_enter Try.func45, Try.ntmps45
    go_wp2_with (first | (go_at_call 33; refine HH.out.mono ?_; rintro e w' ⟨rfl, rfl⟩) | (go_at_call 17; refine (within_any _ _ _ _).mono ?_; rintro e w' ⟨rfl, rfl⟩))
    go_ret
    rw [Hf.out]
    exact ⟨rfl, h0.out, Chg.refl _ _⟩

set_option maxRecDepth 100000 in
set_option maxHeartbeats 1000000 in
theorem stick_any (w : World) (X : SX) (S : Sys) (h : SysAt w X S) (v : Int) (b : Bool) :
    Calls Try.prog 44 #[.pointer (some ⟨X.sb, 0, none⟩), .int .i64 v, .bool b] w fun e w' => e = .returned (.int .i64 (stickB S v b).1) ∧ SysAt w' X (stickB S v b).2 ∧ Chg X w w' := by
  have HH := Lib.hid (hasValve_any w X S h v)
  have h0 := Lib.hid h
  have hl := h.lens
  by_cases h1 : inB v 0 (S.p.valves.length - 1) = true
  · obtain ⟨g1, g2⟩ := inB_iff.1 h1
    obtain ⟨i, rfl⟩ := Int.eq_ofNat_of_zero_le g1
    have hi : i < 12 := by omega
    have hii : (i : Int) < 12 := by omega
    have hc := (h.s.cell (28 + i)).trans (sysA_stuck X S i _ (stuck_get S.stuck i hi))
    have hf := h.s.free (28 + i)
    have He : hasE i S.p.valves.length = 0 := by unfold hasE; rw [h1]; rfl
    rw [He] at HH
    have Hf := Lib.hid (show stickB S i b = (0, { S with stuck := fun k => if k = i then b else S.stuck k }) by unfold stickB; rw [if_pos h1, Int.toNat_natCast])
    clear h h1 He
    go_enter Try.func44, Try.ntmps44
    go_wp2_with (first | (go_at_call 33; refine HH.out.mono ?_; rintro e w' ⟨rfl, rfl⟩))
    go_ret
    rw [Hf.out]
    have ho := Only.setCell w X.sb (28 + i) (.bool b)
    obtain ⟨n1, n2, n3, _, _, _⟩ := h0.out.ne
    refine ⟨rfl, h0.out.turn (Chg.of_only ho (by simp)) rfl ?_ (h0.out.t.only ho (Ne.symm n1)) (h0.out.c.only ho (Ne.symm n2)) ⟨h0.out.ok.valid, h0.out.ok.spots, h0.out.ok.safe, h0.out.ok.tanks⟩, Chg.of_only ho (by simp)⟩
    have := h0.out.s.set (28 + i) (.bool b)
    rw [sysA_setStuck _ _ _ hi] at this
    exact this
  · have He : hasE v S.p.valves.length = 7 := by unfold hasE; rw [if_neg h1]
    rw [He] at HH
    have Hf := Lib.hid (show stickB S v b = (7, S) by unfold stickB; rw [if_neg h1])
    clear h1 h He
    go_enter Try.func44, Try.ntmps44
    go_wp2_with (first | (go_at_call 33; refine HH.out.mono ?_; rintro e w' ⟨rfl, rfl⟩))
    go_ret
    rw [Hf.out]
    exact ⟨rfl, h0.out, Chg.refl _ _⟩
end Go.Proofs.Ytogobjmmgjfjjaa
