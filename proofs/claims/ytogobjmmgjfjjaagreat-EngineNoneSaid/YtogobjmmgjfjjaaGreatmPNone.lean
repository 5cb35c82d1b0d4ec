/- What is proved: the texts S1 S2 Rd Rw Rp Lw, one behind the other; each says at its head what it proves, and under which conditions. -/
import Derived.Test.YtogobjmmgjfjjaaGreatRows
import Derived.ProofKit
import Derived.OpenShut
import Derived.JoinedOf
import Derived.JoinedCond
import Derived.SizedLaws
import Derived.ChangeSame
import Derived.Carry
import Derived.Test.YtogobjmmgjfjjaaGreatm4
/- What is proved: what the methods of engine.System, and ullagelaw07.does, answer of a system that no call made. Conditions: the pointer is nil, or the system's mark is not set. -/
namespace Go.Proofs.YtogobjmmgjfjjaaGreat
open Go.RowKit

/-- No call made the system. -/
def NoSys (w : World) (v : Value) : Prop := v = .pointer none ∨ ∃ sb cs, v = .pointer (some ⟨sb, 0, none⟩) ∧ Bk w sb 111 cs ∧ cs[46]? = some (.bool false)
theorem NoSys.below {w w' : World} {v : Value} (h : NoSys w v) (hb : Below w.heap.size w w') : NoSys w' v := by
  rcases h with rfl | ⟨sb, cs, rfl, h1, h2⟩
  · exact Or.inl rfl
  · exact Or.inr ⟨sb, cs, rfl, h1.below hb h1.lt, h2⟩
set_option maxHeartbeats 400000 in
theorem isNo_any (w : World) (v : Value) (h : NoSys w v) : Calls Tryz.prog 84 #[v] w fun e w' => e = .returned (.bool false) ∧ w = w' := by
  rcases h with rfl | ⟨sb, cs, rfl, hb, h46⟩
  · go_enter Tryz.func84, Tryz.ntmps84
    go_wp2
    go_ret
    exact ⟨rfl, rfl⟩
  · have c : w.cell? ⟨sb, 46, none⟩ = some (.bool false) := (hb.cell 46).trans h46
    clear hb h46
    go_enter Tryz.func84, Tryz.ntmps84
    go_wp2
    go_ret
    exact ⟨rfl, rfl⟩
set_option maxHeartbeats 400000 in
theorem hasNo_any (w : World) (v : Value) (h : NoSys w v) (i : Int) (F : Value) : Calls Tryz.prog 107 #[v, .int .i64 i, F] w fun e w' => e = .returned (.int .i64 1) ∧ w = w' := by
  have HI := Lib.hid (isNo_any w v h)
  clear h
  go_enter Tryz.func107, Tryz.ntmps107
  go_wp2_with fail
  refine HI.out.mono ?_
  rintro e w' ⟨rfl, rfl⟩
  go_wp2_with fail
  go_ret
  exact ⟨rfl, rfl⟩
set_option maxHeartbeats 400000 in
theorem putNo_any (w : World) (v : Value) (h : NoSys w v) (t c g : Int) : Calls Tryz.prog 40 #[v, .int .i64 t, .int .i64 c, .int .i64 g] w fun e w' => e = .returned (.int .i64 1) ∧ w = w' := by
  have HI := Lib.hid (hasNo_any w v h)
  clear h
  go_enter Tryz.func40, Tryz.ntmps40
  go_wp2_with fail
  refine (HI.out _ _).mono ?_
  rintro e w' ⟨rfl, rfl⟩
  go_wp2_with fail
  go_ret
  exact ⟨rfl, rfl⟩
set_option maxHeartbeats 400000 in
theorem leakNo_any (w : World) (v : Value) (h : NoSys w v) (t c : Int) : Calls Tryz.prog 79 #[v, .int .i64 t, .int .i64 c] w fun e w' => e = .returned (.int .i64 1) ∧ w = w' := by
  have HI := Lib.hid (hasNo_any w v h)
  clear h
  go_enter Tryz.func79, Tryz.ntmps79
  go_wp2_with fail
  refine (HI.out _ _).mono ?_
  rintro e w' ⟨rfl, rfl⟩
  go_wp2_with fail
  go_ret
  exact ⟨rfl, rfl⟩
set_option maxHeartbeats 400000 in
theorem stickNo_any (w : World) (v : Value) (h : NoSys w v) (t : Int) (b : Bool) : Calls Tryz.prog 78 #[v, .int .i64 t, .bool b] w fun e w' => e = .returned (.int .i64 1) ∧ w = w' := by
  have HI := Lib.hid (hasNo_any w v h)
  clear h
  go_enter Tryz.func78, Tryz.ntmps78
  go_wp2_with fail
  refine (HI.out _ _).mono ?_
  rintro e w' ⟨rfl, rfl⟩
  go_wp2_with fail
  go_ret
  exact ⟨rfl, rfl⟩
set_option maxHeartbeats 400000 in
theorem orderNo_any (w : World) (v : Value) (h : NoSys w v) (t : Int) (b : Bool) : Calls Tryz.prog 41 #[v, .agg #[.int .i64 t, .bool b]] w fun e w' => e = .returned (.int .i64 1) ∧ Below w.heap.size w w' := by
  have HB := Lib.hid fun ob => (Below.refl w.heap.size w).alloc (Nat.le_refl _) ob
  have HI := Lib.hid fun ob => hasNo_any (w.alloc ob) v (h.below (HB.out ob))
  clear h
  go_enter Tryz.func41, Tryz.ntmps41
  go_wp2_with fail
  refine (HI.out _ _ _).mono ?_
  rintro e w' ⟨rfl, rfl⟩
  go_wp2_with fail
  go_ret
  exact ⟨rfl, HB.out _⟩
set_option maxHeartbeats 400000 in
theorem tickNo_any (w : World) (v : Value) (h : NoSys w v) : Calls Tryz.prog 36 #[v] w fun e w' => e = .returned (.int .i64 1) ∧ w = w' := by
  have HI := Lib.hid (isNo_any w v h)
  clear h
  go_enter Tryz.func36, Tryz.ntmps36
  go_wp2_with fail
  refine HI.out.mono ?_
  rintro e w' ⟨rfl, rfl⟩
  go_wp2_with fail
  go_ret
  exact ⟨rfl, rfl⟩
set_option maxHeartbeats 400000 in
theorem numberNo_any (w : World) (v : Value) (h : NoSys w v) (k o l g : Int) : Calls Tryz.prog 30 #[v, .agg #[.int .i64 k, .int .i64 o, .int .i64 l, .int .i64 g]] w fun e w' => e = .returned (.tuple #[.int .i64 0, .int .i64 1]) ∧ Below w.heap.size w w' := by
  have HB := Lib.hid fun ob => (Below.refl w.heap.size w).alloc (Nat.le_refl _) ob
  have HI := Lib.hid fun ob => isNo_any (w.alloc ob) v (h.below (HB.out ob))
  clear h
  go_enter Tryz.func30, Tryz.ntmps30
  go_wp2_with fail
  refine (HI.out _).mono ?_
  rintro e w' ⟨rfl, rfl⟩
  go_wp2_with fail
  go_ret2
  exact ⟨rfl, HB.out _⟩
set_option maxHeartbeats 400000 in
theorem wantedNo_any (w : World) (v : Value) (h : NoSys w v) (t : Int) : Calls Tryz.prog 38 #[v, .int .i64 t] w fun e w' => e = .returned (.tuple #[.bool false, .int .i64 1]) ∧ w = w' := by
  have HI := Lib.hid (hasNo_any w v h)
  clear h
  go_enter Tryz.func38, Tryz.ntmps38
  go_wp2_with fail
  refine (HI.out _ _).mono ?_
  rintro e w' ⟨rfl, rfl⟩
  go_wp2_with fail
  go_ret2
  exact ⟨rfl, rfl⟩
set_option maxHeartbeats 400000 in
theorem carriedNo_any (w : World) (v : Value) (h : NoSys w v) : Calls Tryz.prog 32 #[v] w fun e w' => e = .returned (.slice none 0 0) ∧ w = w' := by
  have HI := Lib.hid (isNo_any w v h)
  clear h
  go_enter Tryz.func32, Tryz.ntmps32
  go_wp2_with fail
  refine HI.out.mono ?_
  rintro e w' ⟨rfl, rfl⟩
  go_wp2_with fail
  go_ret
  exact ⟨rfl, rfl⟩
set_option maxHeartbeats 400000 in
theorem eachNo_any (w : World) (v : Value) (h : NoSys w v) (F : Value) : Calls Tryz.prog 92 #[v, F] w fun e w' => e = .returned (.slice none 0 0) ∧ w = w' := by
  have HI := Lib.hid (isNo_any w v h)
  clear h
  go_enter Tryz.func92, Tryz.ntmps92
  go_wp2_with fail
  refine HI.out.mono ?_
  rintro e w' ⟨rfl, rfl⟩
  go_wp2_with fail
  go_ret
  exact ⟨rfl, rfl⟩
set_option maxHeartbeats 400000 in
theorem lostNo_any (w : World) (v : Value) (h : NoSys w v) : Calls Tryz.prog 33 #[v] w fun e w' => e = .returned (.slice none 0 0) ∧ w = w' := by
  have HI := Lib.hid (eachNo_any w v h)
  clear h
  go_enter Tryz.func33, Tryz.ntmps33
  go_wp2_with fail
  refine (HI.out _).mono ?_
  rintro e w' ⟨rfl, rfl⟩
  go_wp2_with fail
  go_ret
  exact ⟨rfl, rfl⟩
set_option maxHeartbeats 400000 in
theorem ventedNo_any (w : World) (v : Value) (h : NoSys w v) : Calls Tryz.prog 34 #[v] w fun e w' => e = .returned (.slice none 0 0) ∧ w = w' := by
  have HI := Lib.hid (eachNo_any w v h)
  clear h
  go_enter Tryz.func34, Tryz.ntmps34
  go_wp2_with fail
  refine (HI.out _).mono ?_
  rintro e w' ⟨rfl, rfl⟩
  go_wp2_with fail
  go_ret
  exact ⟨rfl, rfl⟩
set_option maxRecDepth 100000 in
set_option maxHeartbeats 800000 in
theorem holdsNo_any (w : World) (v : Value) (h : NoSys w v) (L : Value) : Calls Tryz.prog 26 #[v, L] w fun e w' => e = .returned (.bool false) ∧ Below w.heap.size w w' := by
  obtain ⟨o, rfl⟩ : ∃ o, v = .pointer o := by rcases h with rfl | ⟨sb, cs, rfl, _⟩ <;> exact ⟨_, rfl⟩
  have HI := Lib.hid fun w1 (h1 : Below w.heap.size w w1) => isNo_any w1 (.pointer o) (h.below h1)
  have HB := Lib.hid fun ob => (Below.refl w.heap.size w).alloc (Nat.le_refl _) ob
  clear h
  go_enter Tryz.func26, Tryz.ntmps26
  go_wp2_with fail
  refine (HI.out _ (HB.out _)).mono ?_
  rintro e w' ⟨rfl, rfl⟩
  go_wp2_with fail
  go_ret
  exact ⟨rfl, HB.out _⟩
set_option maxRecDepth 100000 in
set_option maxHeartbeats 1000000 in
theorem runNo_any (w : World) (v : Value) (h : NoSys w v) (q0 q1 q2 L : Value) : Calls Tryz.prog 35 #[v, .agg #[q0, q1, q2], L] w fun e w' => e = .returned (.tuple #[.agg #[.int .i64 0, .int .i64 0, .int .i64 0, .int .i64 0], .int .i64 1]) ∧ Below w.heap.size w w' := by
  have HI := Lib.hid fun w1 (h1 : Below w.heap.size w w1) => isNo_any w1 v (h.below h1)
  clear h
  go_enter Tryz.func35, Tryz.ntmps35
  go_wp2_with fail
  go_step3
  go_wp2_with fail
  refine (HI.out _ ((((Below.refl _ _).alloc (Nat.le_refl _) _).alloc (by simp) _))).mono ?_
  rintro e w' ⟨rfl, rfl⟩
  go_wp2_with fail
  rw [Exit.noGoto_ret]
  exact bodyPost_ret (v := .tuple #[.agg #[.int .i64 0, .int .i64 0, .int .i64 0, .int .i64 0], .int .i64 1]) (by simp [results, Tryz.results35, go_sem]) rfl ⟨rfl, ((Below.refl _ _).alloc (Nat.le_refl _) _).alloc (by simp) _⟩
set_option maxRecDepth 100000 in
set_option maxHeartbeats 2000000 in
theorem doesNo_any (w : World) (v : Value) (h : NoSys w v) (what a b c : Int) :
    Calls Tryz.prog 24 #[v, .agg #[.int .i64 what, .int .i64 a, .int .i64 b, .int .i64 c]] w
      fun e w' => e = .returned (.int .i64 1) ∧ Below w.heap.size w w' := by
  have HB := Lib.hid fun ob => (Below.refl w.heap.size w).alloc (Nat.le_refl _) ob
  have H0 := Lib.hid fun ob => h.below (HB.out ob)
  clear h
  by_cases k1 : what = 1
  · subst k1
    go_enter Tryz.func24, Tryz.ntmps24
    go_wp2_with fail
    refine (putNo_any _ v (H0.out _) a b c).mono ?_
    rintro e w' ⟨rfl, rfl⟩
    go_wp2_with fail
    go_ret
    exact ⟨rfl, HB.out _⟩
  by_cases k2 : what = 2
  · subst k2
    go_enter Tryz.func24, Tryz.ntmps24
    go_wp2_with fail
    refine (orderNo_any _ v (H0.out _) a (oddB b)).mono ?_
    rintro e w' ⟨rfl, hb⟩
    go_wp2_with fail
    go_ret
    exact ⟨rfl, (HB.out _).trans (hb.mono (HB.out _).size)⟩
  by_cases k3 : what = 3
  · subst k3
    go_enter Tryz.func24, Tryz.ntmps24
    go_wp2_with fail
    refine (stickNo_any _ v (H0.out _) a (oddB b)).mono ?_
    rintro e w' ⟨rfl, rfl⟩
    go_wp2_with fail
    go_ret
    exact ⟨rfl, HB.out _⟩
  by_cases k4 : what = 4
  · subst k4
    go_enter Tryz.func24, Tryz.ntmps24
    go_wp2_with fail
    refine (leakNo_any _ v (H0.out _) a b).mono ?_
    rintro e w' ⟨rfl, rfl⟩
    go_wp2_with fail
    go_ret
    exact ⟨rfl, HB.out _⟩
  · have e1 : (what == 1) = false := by simpa using k1
    have e2 : (what == 2) = false := by simpa using k2
    have e3 : (what == 3) = false := by simpa using k3
    have e4 : (what == 4) = false := by simpa using k4
    clear k1 k2 k3 k4
    go_enter Tryz.func24, Tryz.ntmps24
    go_wp2_with fail
    refine (tickNo_any _ v (H0.out _)).mono ?_
    rintro e w' ⟨rfl, rfl⟩
    go_wp2_with fail
    go_ret
    exact ⟨rfl, HB.out _⟩
end Go.Proofs.YtogobjmmgjfjjaaGreat
/- What is proved: the law EngineNone answers true. Conditions: none. -/
namespace Go.Proofs.YtogobjmmgjfjjaaGreat
open Go.RowKit

def sysZ : Array Value := #[Value.slice none 0 0, .slice none 0 0, .slice none 0 0, .slice none 0 0, .int .i8 0, .bool false, .int .i8 0, .bool false, .int .i8 0, .bool false, .int .i8 0, .bool false, .int .i8 0, .bool false, .int .i8 0, .bool false, .int .i8 0, .bool false, .int .i8 0, .bool false, .int .i8 0, .bool false, .int .i8 0, .bool false, .int .i8 0, .bool false, .int .i8 0, .bool false, .bool false, .bool false, .bool false, .bool false, .bool false, .bool false, .bool false, .bool false, .bool false, .bool false, .bool false, .bool false, .slice none 0 0, .slice none 0 0, .nilFunc, .nilFunc, .nilFunc, .nilFunc, .bool false]
def actA (what a b c : Int) : Array Value := #[.int .i64 what, .int .i64 a, .int .i64 b, .int .i64 c]
set_option maxRecDepth 100000 in
set_option maxHeartbeats 4000000 in
theorem none_any (w : World) (what a b c kind of low high : Int) :
    Calls Tryz.prog 12 #[.agg #[.int .i64 what, .int .i64 a, .int .i64 b, .int .i64 c], .agg #[.int .i64 kind, .int .i64 of, .int .i64 low, .int .i64 high]] w
      fun e w' => e = .returned (.bool true) ∧ Below w.heap.size w w' := by
  obtain ⟨W, hW⟩ : ∃ W, W = (((w.alloc (.cells (actA what a b c) 57)).alloc (.cells (actA kind of low high) 70)).alloc (.cells sysZ 111)).alloc (.cells #[.pointer none, .pointer (some ⟨w.heap.size + 1 + 1, 0, none⟩)] 45) := ⟨_, rfl⟩
  have hbW : Below w.heap.size w W := by rw [hW]; exact ((((Below.refl _ _).alloc (Nat.le_refl _) _).alloc (by simp) _).alloc (by simp; omega) _).alloc (by simp; omega) _
  have hb0 : Bk W w.heap.size 57 (actA what a b c) := by rw [hW]; exact (((Bk.new _ _ _).alloc _).alloc _).alloc _
  have hb1 : Bk W (w.heap.size + 1) 70 (actA kind of low high) := by rw [hW]; exact ((Bk.newAt _ _ _ _ (by simp)).alloc _).alloc _
  have hb2 : Bk W (w.heap.size + 1 + 1) 111 sysZ := by rw [hW]; exact (Bk.newAt _ _ _ _ (by simp)).alloc _
  have hb3 : Bk W (w.heap.size + 1 + 1 + 1) 45 #[.pointer none, .pointer (some ⟨w.heap.size + 1 + 1, 0, none⟩)] := by rw [hW]; exact Bk.newAt _ _ _ _ (by simp)
  have HA0 : Hid (∀ wx, Below W.heap.size W wx → wx.cell? ⟨w.heap.size, 0, none⟩ = some (.int .i64 what) ∧ wx.cell? ⟨w.heap.size, 1, none⟩ = some (.int .i64 a) ∧ wx.cell? ⟨w.heap.size, 2, none⟩ = some (.int .i64 b) ∧ wx.cell? ⟨w.heap.size, 3, none⟩ = some (.int .i64 c)) := Lib.hid fun wx hx =>
    have h := hb0.below hx hb0.lt
    ⟨h.cell 0, h.cell 1, h.cell 2, h.cell 3⟩
  have HN0 : Hid (∀ wx, Below W.heap.size W wx → wx.cell? ⟨w.heap.size + 1, 0, none⟩ = some (.int .i64 kind) ∧ wx.cell? ⟨w.heap.size + 1, 1, none⟩ = some (.int .i64 of) ∧ wx.cell? ⟨w.heap.size + 1, 2, none⟩ = some (.int .i64 low) ∧ wx.cell? ⟨w.heap.size + 1, 3, none⟩ = some (.int .i64 high)) := Lib.hid fun wx hx =>
    have h := hb1.below hx hb1.lt
    ⟨h.cell 0, h.cell 1, h.cell 2, h.cell 3⟩
  have HV : Hid (∀ k, k < 2 → ∃ v, ∀ wx, Below W.heap.size W wx → wx.cell? ⟨w.heap.size + 1 + 1 + 1, k, none⟩ = some v ∧ NoSys wx v) := Lib.hid fun k hk => by
    match k, hk with
    | 0, _ => exact ⟨_, fun wx hx => ⟨(hb3.below hx hb3.lt).cell 0, Or.inl rfl⟩⟩
    | 1, _ => exact ⟨_, fun wx hx => ⟨(hb3.below hx hb3.lt).cell 1, Or.inr ⟨_, _, rfl, hb2.below hx hb2.lt, rfl⟩⟩⟩
  have HB := Lib.hid hbW
  have HW := Lib.hid hW
  have HLT := Lib.hid hb3.lt
  simp only [actA, sysZ] at HW
  have HA := Lib.hid awake_any
  clear hW hbW hb0 hb1 hb2 hb3
  go_enter Tryz.func12, Tryz.ntmps12
  go_wp2_with fail
  rw [← HW.out]
  go_loopw [7] (fun i wr => ∃ k : Nat, k ≤ 2 ∧ i = .int .i64 k ∧ Hid (Below W.heap.size W wr)) (fun i _ => 2 - (intOf i).toNat)
  case atStart => exact ⟨0, by omega, rfl, Lib.hid (Below.refl _ _)⟩
  case round =>
    obtain ⟨k, hk, rfl, hb⟩ := hrel
    by_cases hlt : k < 2
    · obtain ⟨v, hv⟩ := HV.out k hlt
      have HVx := Lib.hid hv
      obtain ⟨hv0, _⟩ := hv wr hb.out
      obtain ⟨a0, a1, a2, a3⟩ := HA0.out wr hb.out
      obtain ⟨n0, n1, n2, n3⟩ := HN0.out wr hb.out
      have hki : (k : Int) < 2 := by omega
      have h0i : (0 : Int) ≤ (k : Int) := by omega
      clear hv
      go_wp2_with fail
      refine (numberNo_any wr v (HVx.out wr hb.out).2 kind of low high).mono ?_
      rintro e w1 ⟨rfl, hb1⟩
      have HB1 : Hid (Below W.heap.size W w1) := Lib.hid (hb.out.trans (hb1.mono hb.out.size))
      clear hb1 a0 a1 a2 a3 n0 n1 n2 n3 hv0
      obtain ⟨a0, a1, a2, a3⟩ := HA0.out w1 HB1.out
      go_wp2_with fail
      refine (wantedNo_any w1 v (HVx.out w1 HB1.out).2 a).mono ?_
      rintro e w' ⟨rfl, rfl⟩
      go_wp2_with fail
      refine (runNo_any w1 v (HVx.out w1 HB1.out).2 _ _ _ _).mono ?_
      rintro e w3 ⟨rfl, hb3⟩
      have HB3 : Hid (Below W.heap.size W w3) := Lib.hid (HB1.out.trans (hb3.mono HB1.out.size))
      have hz3 : w.heap.size < w3.heap.size := by have := HB3.out.size; have := HLT.out; omega
      clear hb3 a0 a1 a2 a3
      obtain ⟨a0, a1, a2, a3⟩ := HA0.out w3 HB3.out
      go_wp2_with fail
      have HD : Hid (∀ o, Below W.heap.size W (w3.alloc o)) := Lib.hid fun o => HB3.out.alloc HB3.out.size o
      refine (doesNo_any _ v (HVx.out _ (HD.out _)).2 what a b c).mono ?_
      rintro e w4 ⟨rfl, hb4⟩
      have HB4 : Hid (Below W.heap.size W w4) := Lib.hid ((HD.out _).trans (hb4.mono (HD.out _).size))
      have hz4 : w3.heap.size + 1 ≤ w4.heap.size := by have := hb4.size; simpa using this
      have ec : ∀ j, j < 4 → w4.cell? ⟨w3.heap.size, j, none⟩ = some (.int .i64 0) := fun j hj => by
        rw [hb4.cell (p := ⟨w3.heap.size, j, none⟩) (by simp)]
        match j, hj with
        | 0, _ => go_simp
        | 1, _ => go_simp
        | 2, _ => go_simp
        | 3, _ => go_simp
      have e0 := ec 0 (by omega)
      have e1 := ec 1 (by omega)
      have e2 := ec 2 (by omega)
      have e3 := ec 3 (by omega)
      clear hb4 ec a0 a1 a2 a3
      go_wp2_with fail
      refine (carriedNo_any w4 v (HVx.out w4 HB4.out).2).mono ?_
      rintro e w' ⟨rfl, rfl⟩
      go_wp2_with fail
      refine (lostNo_any w4 v (HVx.out w4 HB4.out).2).mono ?_
      rintro e w' ⟨rfl, rfl⟩
      go_wp2_with fail
      refine (ventedNo_any w4 v (HVx.out w4 HB4.out).2).mono ?_
      rintro e w' ⟨rfl, rfl⟩
      go_wp2_with fail
      have HD4 : Hid (∀ o, Below W.heap.size W (w4.alloc o)) := Lib.hid fun o => HB4.out.alloc HB4.out.size o
      refine (holdsNo_any _ v (HVx.out _ (HD4.out _)).2 _).mono ?_
      rintro e w5 ⟨rfl, hb5⟩
      have HB5 : Hid (Below W.heap.size W w5) := Lib.hid ((HD4.out _).trans (hb5.mono (HD4.out _).size))
      clear hb5
      go_wp2_with fail
      go_roundw
      case rel => exact ⟨k + 1, by omega, by go_num, HB5⟩
      case measure => simp [intOf]; omega
    · obtain rfl : k = 2 := by omega
      go_wp2_with fail
      refine (HA.out wr).mono ?_
      rintro e w5 ⟨rfl, hb5⟩
      go_wp2_with fail
      go_ret
      exact ⟨rfl, HB.out.trans ((hb.out.trans (hb5.mono hb.out.size)).mono HB.out.size)⟩
end Go.Proofs.YtogobjmmgjfjjaaGreat
/- What is proved: what the form's reading of data says of the cells, type by type; and the last step of a law that only makes memory. Conditions: those that each lemma states. -/
namespace Go.Proofs.YtogobjmmgjfjjaaGreat
open Go.ChangeShapes Go.WideShapes Go.ChangeAt Go.RowKit

section
variable {H : Type} {enc : TypeId × Value → H} {P : Program} {w : World} {t e : TypeId} {cs : List Value}
/-- The cells cs read as a value of type t. -/
def Rd (enc : TypeId × Value → H) (P : Program) (w : World) (t : TypeId) (cs : List Value) : Prop := ∃ fuel x, DataW.trod enc P w 0 (fun _ => true) true fuel t cs = some x
theorem Rd.of_trod {v : Value} {d : DataW H} {ps : List MemPlace} (h : DataW.Trod enc P w 0 (fun _ => true) true t v d ps) : Rd enc P w t v.cells.toList := by
  obtain ⟨n, hn⟩ := h
  exact ⟨n, _, hn⟩
theorem Rd.int {k : IntKind} (h : Rd enc P w t cs) (ht : P.underlying t = some (.int k)) : ∃ n, cs = [.int k n] ∧ (Lit.int k n).wf = true := by
  obtain ⟨fuel, x, h⟩ := h
  cases fuel with
  | zero => simp [DataW.trod] at h
  | succ m =>
    unfold DataW.trod at h
    rw [ht] at h
    split at h <;> simp_all
theorem Rd.bool (h : Rd enc P w t cs) (ht : P.underlying t = some .bool) : ∃ b, cs = [.bool b] := by
  obtain ⟨fuel, x, h⟩ := h
  cases fuel with
  | zero => simp [DataW.trod] at h
  | succ m =>
    unfold DataW.trod at h
    rw [ht] at h
    split at h <;> simp_all
theorem Rd.string (h : Rd enc P w t cs) (ht : P.underlying t = some .string) : ∃ s, cs = [.string s] ∧ s.size ≤ maxLen := by
  obtain ⟨fuel, x, h⟩ := h
  cases fuel with
  | zero => simp [DataW.trod] at h
  | succ m =>
    unfold DataW.trod at h
    rw [ht] at h
    split at h <;> simp_all
theorem Rd.struct {fs : Array Field} (h : Rd enc P w t cs) (ht : P.underlying t = some (.struct fs)) : cs.length = P.cellsOf t ∧ ∀ f ∈ fs.toList, Rd enc P w f.type ((cs.drop f.offset).take (P.cellsOf f.type)) := by
  obtain ⟨fuel, x, h⟩ := h
  cases fuel with
  | zero => simp [DataW.trod] at h
  | succ m =>
    unfold DataW.trod at h
    rw [ht] at h
    split at h <;> simp_all
    obtain ⟨hl, xs, hp, _⟩ := h
    refine fun f hf => ?_
    obtain ⟨i, hi⟩ := List.getElem?_of_mem (Array.mem_toList_iff.2 hf)
    have hg := mapM_some_get hp i f hi
    have hlen := mapM_some_length hp
    have : i < xs.length := by rw [hlen]; exact (List.getElem?_eq_some_iff.1 hi).1
    exact ⟨m, xs[i], by rw [hg]; exact List.getElem?_eq_getElem this⟩
theorem Rd.fields {fs : Array Field} {l : List (TypeId × Nat)} (h : Rd enc P w t cs) (ht : P.underlying t = some (.struct fs)) (hl : fs.toList.map (fun f => (f.type, f.offset)) = l) :
    cs.length = P.cellsOf t ∧ ∀ q ∈ l, Rd enc P w q.1 ((cs.drop q.2).take (P.cellsOf q.1)) := by
  obtain ⟨h1, h2⟩ := h.struct ht
  refine ⟨h1, fun q hq => ?_⟩
  rw [← hl] at hq
  obtain ⟨f, hf, rfl⟩ := List.mem_map.1 hq
  exact h2 f hf
theorem Rd.array {n : Nat} (h : Rd enc P w t cs) (ht : P.underlying t = some (.array n e)) : cs.length = P.cellsOf t ∧ ∀ i, i < n → Rd enc P w e ((cs.drop (i * P.cellsOf e)).take (P.cellsOf e)) := by
  obtain ⟨fuel, x, h⟩ := h
  obtain ⟨xs, m, _, _, h1, h2, h3⟩ := DataW.trod_array ht h
  refine ⟨h1, fun i hi => ?_⟩
  exact ⟨m, xs[i]'(by omega), by rw [h3 i hi]; exact List.getElem?_eq_getElem _⟩
theorem cells_get {base n : Nat} {a : Addr} {l : List Value} (h : w.cells? base a n = some l) : l.length = n ∧ ∀ j, j < n → w.cell? (a.add j) = l[j]? := by
  unfold World.cells? at h
  split at h
  · exact ⟨by simpa using mapM_some_length h, fun j hj => mapM_some_get h j j (by simp [hj])⟩
  · cases h
theorem Rd.slice (h : Rd enc P w t cs) (ht : P.underlying t = some (.slice e)) :
    cs = [.slice none 0 0] ∨ ∃ a len cap, cs = [.slice (some a) len cap] ∧ len ≤ maxLen ∧ ∀ i, i < len → ∃ l, w.cells? 0 (a.add (i * P.cellsOf e)) (P.cellsOf e) = some l ∧ Rd enc P w e l := by
  obtain ⟨fuel, x, h⟩ := h
  cases fuel with
  | zero => simp [DataW.trod] at h
  | succ m =>
    unfold DataW.trod at h
    rw [ht] at h
    split at h <;> simp_all
    rename_i a len cap _
    obtain ⟨⟨h1, h2⟩, h3⟩ := h
    refine ⟨a, len, ⟨rfl, rfl⟩, by omega, fun i hi => ?_⟩
    obtain ⟨elems, he, _⟩ := Option.bind_eq_some_iff.1 h3
    have hg := mapM_some_get he i i (by simp [hi])
    have hlen := mapM_some_length he
    have hi2 : i < elems.length := by rw [hlen]; simpa using hi
    rw [List.getElem?_eq_getElem hi2] at hg
    obtain ⟨l, hl, hr⟩ := Option.bind_eq_some_iff.1 hg
    exact ⟨l, hl, m, _, hr⟩
/-- A slice, each of whose rows of k cells is some y. -/
theorem Rd.list {Y : Type} (C : Y → Nat → Value) (Q : Y → Prop) (y0 : Y) {k : Nat} (h : Rd enc P w t cs) (ht : P.underlying t = some (.slice e)) (hk : P.cellsOf e = k) (hk0 : 0 < k)
    (hrow : ∀ l, l.length = k → Rd enc P w e l → ∃ y, Q y ∧ ∀ j, j < k → l[j]? = some (C y j)) :
    ∃ (A : Option Addr) (c : Nat) (l : List Y), cs = [.slice A l.length c] ∧ (∀ y ∈ l, Q y) ∧ Sl w w.heap.size k A l.length fun i => C (l.getD i y0) := by
  rcases h.slice ht with rfl | ⟨a, len, cap, rfl, hm, hi⟩
  · exact ⟨none, 0, [], rfl, fun y hy => by simp at hy, Sl.nil _ _ _ _ _⟩
  · rw [hk] at hi
    have hex : ∀ i, ∃ y, i < len → Q y ∧ ∀ j, j < k → w.cell? ((a.add (i * k)).add j) = some (C y j) := fun i => by
      by_cases hlt : i < len
      · obtain ⟨l, hl, hr⟩ := hi i hlt
        obtain ⟨h1, h2⟩ := cells_get hl
        obtain ⟨y, hq, hy⟩ := hrow l h1 hr
        exact ⟨y, fun _ => ⟨hq, fun j hj => (h2 j hj).trans (hy j hj)⟩⟩
      · exact ⟨y0, fun h => absurd h hlt⟩
    obtain ⟨f, hf⟩ := Classical.axiomOfChoice hex
    have hlen : ((List.range len).map f).length = len := by simp
    have hget : ∀ i, i < len → ((List.range len).map f).getD i y0 = f i := fun i hlt => by simp [hlt]
    refine ⟨some a, cap, (List.range len).map f, by rw [hlen], fun y hy => ?_, ?_, fun h0 => ?_⟩
    · obtain ⟨i, h1, rfl⟩ := List.mem_map.1 hy
      exact (hf i (by simpa using h1)).1
    · rw [hlen]; unfold maxLen at hm; omega
    · rw [hlen] at h0
      have h1 := (hf 0 h0).2 0 hk0
      simp only [Nat.zero_mul, Addr.add] at h1
      obtain ⟨b, off, sp⟩ := a
      have hsp : sp = none := by
        cases sp with
        | none => rfl
        | some s => simp [World.cell?] at h1; split at h1 <;> cases h1
      subst hsp
      refine ⟨b, off, rfl, World.block_lt_of_cell? w _ h1, fun i hi2 j hj => ?_⟩
      rw [hlen] at hi2
      show w.cell? _ = some (C (((List.range len).map f).getD i y0) j)
      rw [hget i hi2]
      have := (hf i hi2).2 j hj
      rwa [Addr.add_lit, Addr.add_lit] at this
theorem okWide_arr {n base : Nat} {v : Value} (hu : P.underlying t = some (.array n e)) (h : Value.okWide P w .any base t v) : ∃ cs, v = .agg cs := by
  simp only [Value.okWide, hu] at h
  cases v <;> simp at h
  exact ⟨_, rfl⟩
theorem i64_bd {n : Int} (h : (Lit.int .i64 n).wf = true) : -9223372036854775808 ≤ n ∧ n ≤ 9223372036854775807 := by
  simpa [Lit.wf, IntKind.min, IntKind.max, IntKind.signed, IntKind.bits] using h

/-! The last step. -/
theorem trodAll_stays (hl : laidOutB P = true) {W W' : World} {base : Nat} {sp : Nat → Bool} : ∀ (ts : List TypeId) {vs : List Value} {ds : List (DataW H)} {ps : List MemPlace}, (∀ t ∈ ts, P.readableRec t = true ∧ t < P.types.size) →
    DataW.TrodAll enc P W base (fun _ => true) true ts vs ds ps → (∀ p ∈ ps, W.sameAt W' p) → (∀ p ∈ ps, sp p.block = true) → DataW.TrodAll enc P W' base sp true ts vs ds ps
  | [], vs, ds, ps, _, h, _, _ => by
    cases vs <;> cases ds <;> simp_all [DataW.TrodAll]
  | t :: ts, vs, ds, ps, ht, h, hs, hsp => by
    obtain ⟨v, vs', d, ds', p, q, rfl, rfl, rfl, h1, h2⟩ := trodAll_cons h
    exact trodAll_cons_mk (WideElems.Trod_stays hl (ht t (List.mem_cons_self ..)).1 (ht t (List.mem_cons_self ..)).2 h1 (fun x hx => hs x (List.mem_append_left _ hx)) (fun x hx => hsp x (List.mem_append_left _ hx)))
      (trodAll_stays hl ts (fun t' h' => ht t' (List.mem_cons_of_mem _ h')) h2 (fun x hx => hs x (List.mem_append_right _ hx)) (fun x hx => hsp x (List.mem_append_right _ hx)))
theorem law_post {f : Func} {s : ChangeSpec} {bt : TypeId} {W W' : World} {args : Array Value} {ds gs : List (DataW H)} {before : List MemPlace}
    (hl : laidOutB P = true) (hps : ∀ t ∈ f.params.toList, P.readableRec t = true ∧ t < P.types.size) (hrt : f.resultTypes = #[bt]) (hbt : P.underlying bt = some .bool) (hv : s.vars = [])
    (hW : DataW.Whole enc P f.params.toList s.vars false W args.toList ds gs before) (hres : (s.fn H (ds ++ gs)).results = [.lit (.bool true)]) (hargs : (s.fn H (ds ++ gs)).args = ds) (hvars : (s.fn H (ds ++ gs)).vars = [])
    (hb : Below W.heap.size W W') : s.post enc P f false true false false W args (.bool true) W' := by
  have hW' := hW
  have hlt : ∀ p ∈ before, p.block < W.heap.size := fun p hp => hW.lt p hp
  have hold : ∀ p ∈ before, (fun b => decide (b < W.heap.size)) p.block = true := fun p hp => by simpa using hlt p hp
  obtain ⟨p, q, hA, hV, rfl, hz, hn⟩ := hW
  rw [hv] at hV
  obtain ⟨rfl, rfl⟩ := trodVars_none hV
  have hr : ∀ (b : Nat) (sp : Nat → Bool) (hd : Bool), DataW.TrodAll enc P W' b sp hd f.resultTypes.toList ((Value.bool true).resultList f.resultTypes.size) (s.fn H (ds ++ [])).results [] := fun b sp hd => by
    rw [hrt, hres]; exact trodAll_mk1 (shut_bool hbt _)
  have ha : ∀ sp : Nat → Bool, (∀ x ∈ p, sp x.block = true) → DataW.TrodAll enc P W' 0 sp true f.params.toList args.toList (s.fn H (ds ++ [])).args p := fun sp hsp => by
    rw [hargs]; exact trodAll_stays hl _ hps hA (fun x hx => hb.same (hlt x (List.mem_append_left _ hx))) hsp
  have hvs : ∀ sp : Nat → Bool, DataW.TrodVars enc P W' sp s.vars (s.fn H (ds ++ [])).vars [] := fun sp => by rw [hv, hvars]; rfl
  refine ⟨ds, [], p ++ [], [], p, [], hW', hr _ _ _, ha _ (fun x hx => hold x (List.mem_append_left _ hx)), hvs _, World.keptBut_mono (fun x hx => ⟨hx, ?_⟩) (hb.frame (· ∈ p ++ [])), fun _ => ?_⟩
  · exact Or.inr (List.mem_append.1 hx)
  · refine ⟨?_, _, _, ([] ++ p) ++ [], ⟨[] ++ p, [], trodAll_append (ha _ (fun _ _ => rfl)) (hr _ _ _), hvs _, rfl, ?_, ?_⟩, ?_⟩
    · exact ok_one hrt rfl (okWide_bool_mk hbt _)
    · intro b off hp
      have hin : MemPlace.cell b off ∈ p ++ [] := by simpa using hp
      rw [hb.frozen (hlt _ hin)]
      exact hz b off hin
    · intro ha; cases ha
    · intro x hx _
      simpa using hx
end
end Go.Proofs.YtogobjmmgjfjjaaGreat
/- What is proved: what the form's reading of data says of the cells, with the form's reach: how long lists are. Conditions: those that each lemma states. -/
namespace Go.Proofs.YtogobjmmgjfjjaaGreat
open Go.ChangeShapes Go.WideShapes Go.ChangeAt Go.RowKit

section
variable {H : Type} {enc : TypeId × Value → H} {P : Program} {w : World} {t e : TypeId} {cs : List Value}
/-- The cells cs read as a value of type t, within the reach. -/
def RdW (enc : TypeId × Value → H) (P : Program) (w : World) (t : TypeId) (cs : List Value) : Prop :=
  ∃ fuel d ps, DataW.trod enc P w 0 (fun _ => true) true fuel t cs = some (d, ps) ∧ ∀ n ∈ d.weights P t, n ≤ reachBytes
theorem RdW.rd (h : RdW enc P w t cs) : Rd enc P w t cs := by
  obtain ⟨fuel, d, ps, h, _⟩ := h
  exact ⟨fuel, _, h⟩
theorem RdW.of_trod {v : Value} {d : DataW H} {ps : List MemPlace} (h : DataW.Trod enc P w 0 (fun _ => true) true t v d ps) (hw : ∀ n ∈ d.weights P t, n ≤ reachBytes) : RdW enc P w t v.cells.toList := by
  obtain ⟨n, hn⟩ := h
  exact ⟨n, _, _, hn, hw⟩
theorem RdW.fields {fs : Array Field} {l : List (TypeId × Nat)} (h : RdW enc P w t cs) (ht : P.underlying t = some (.struct fs)) (hl : fs.toList.map (fun f => (f.type, f.offset)) = l) :
    cs.length = P.cellsOf t ∧ ∀ q ∈ l, RdW enc P w q.1 ((cs.drop q.2).take (P.cellsOf q.1)) := by
  obtain ⟨fuel, d, ps, h, hw⟩ := h
  cases fuel with
  | zero => simp [DataW.trod] at h
  | succ m =>
    unfold DataW.trod at h
    rw [ht] at h
    split at h <;> simp_all
    obtain ⟨hlen, xs, hp, hd, _⟩ := h
    subst hd
    subst hl
    intro a b hab
    obtain ⟨f, hf, hfe⟩ := List.mem_map.1 hab
    simp only [Prod.mk.injEq] at hfe
    obtain ⟨rfl, rfl⟩ := hfe
    obtain ⟨i, hi⟩ := List.getElem?_of_mem hf
    have hg := mapM_some_get hp i f hi
    have hlen2 := mapM_some_length hp
    have hi2 : i < xs.length := by rw [hlen2]; exact (List.getElem?_eq_some_iff.1 hi).1
    rw [List.getElem?_eq_getElem hi2] at hg
    refine ⟨m, xs[i].1, xs[i].2, hg, fun n hn => hw n ?_⟩
    simp only [DataW.weights, ht]
    exact DataW.weights_mem_each (j := i) (t := f.type) (d := xs[i].1) (by simp [hi]) (by simp [List.getElem?_eq_getElem hi2]) n hn
theorem weights_mem_all : ∀ {ds : List (DataW H)} {j : Nat} {d : DataW H}, ds[j]? = some d → ∀ n ∈ d.weights P e, n ∈ DataW.weightsAll P e ds
  | d0 :: ds, 0, d, hd, n, hn => by
    simp only [List.getElem?_cons_zero, Option.some.injEq] at hd
    subst hd
    simp only [DataW.weightsAll, List.mem_append]
    exact Or.inl hn
  | d0 :: ds, j + 1, d, hd, n, hn => by
    simp only [List.getElem?_cons_succ] at hd
    simp only [DataW.weightsAll, List.mem_append]
    exact Or.inr (weights_mem_all hd n hn)
  | [], _, _, hd, _, _ => by simp at hd
theorem RdW.slice (h : RdW enc P w t cs) (ht : P.underlying t = some (.slice e)) :
    cs = [.slice none 0 0] ∨ ∃ a len cap, cs = [.slice (some a) len cap] ∧ len ≤ maxLen ∧ len * P.bytesOf e ≤ reachBytes ∧ ∀ i, i < len → ∃ l, w.cells? 0 (a.add (i * P.cellsOf e)) (P.cellsOf e) = some l ∧ RdW enc P w e l := by
  obtain ⟨fuel, d, ps, h, hw⟩ := h
  cases fuel with
  | zero => simp [DataW.trod] at h
  | succ m =>
    unfold DataW.trod at h
    rw [ht] at h
    split at h <;> simp_all
    rename_i a len cap _
    obtain ⟨⟨h1, h2⟩, h3⟩ := h
    obtain ⟨elems, he, h4⟩ := Option.bind_eq_some_iff.1 h3
    obtain ⟨rest, hr, h5⟩ := Option.map_eq_some_iff.1 h4
    simp only [Prod.mk.injEq] at h5
    obtain ⟨rfl, _⟩ := h5
    have hlen := mapM_some_length he
    simp only [List.length_range] at hlen
    simp only [DataW.weights, ht, List.length_map] at hw
    have hb := hw _ (List.mem_cons_self ..)
    rw [hlen] at hb
    refine ⟨a, len, ⟨rfl, rfl⟩, by omega, Nat.le_trans (Nat.mul_le_mul_right _ (Nat.le_add_right _ _)) hb, fun i hi => ?_⟩
    have hg := mapM_some_get he i i (by simp [hi])
    have hi2 : i < elems.length := by omega
    rw [List.getElem?_eq_getElem hi2] at hg
    obtain ⟨l, hl, hr⟩ := Option.bind_eq_some_iff.1 hg
    refine ⟨l, hl, m, elems[i].1, elems[i].2, hr, fun n hn => hw n ?_⟩
    refine List.mem_cons_of_mem _ (List.mem_append_left _ (weights_mem_all (j := i) (d := elems[i].1) ?_ n hn))
    simp [List.getElem?_eq_getElem hi2]
/-- A slice, each of whose rows of k cells is some y. -/
theorem RdW.list {Y : Type} (C : Y → Nat → Value) (Q : Y → Prop) (y0 : Y) {k : Nat} (h : RdW enc P w t cs) (ht : P.underlying t = some (.slice e)) (hk : P.cellsOf e = k) (hk0 : 0 < k)
    (hrow : ∀ l, l.length = k → RdW enc P w e l → ∃ y, Q y ∧ ∀ j, j < k → l[j]? = some (C y j)) :
    ∃ (A : Option Addr) (c : Nat) (l : List Y), cs = [.slice A l.length c] ∧ (∀ y ∈ l, Q y) ∧ Sl w w.heap.size k A l.length (fun i => C (l.getD i y0)) ∧ l.length * P.bytesOf e ≤ reachBytes := by
  rcases h.slice ht with rfl | ⟨a, len, cap, rfl, hm, hby, hi⟩
  · exact ⟨none, 0, [], rfl, fun y hy => by simp at hy, Sl.nil _ _ _ _ _, by simp⟩
  · rw [hk] at hi
    have hex : ∀ i, ∃ y, i < len → Q y ∧ ∀ j, j < k → w.cell? ((a.add (i * k)).add j) = some (C y j) := fun i => by
      by_cases hlt : i < len
      · obtain ⟨l, hl, hr⟩ := hi i hlt
        obtain ⟨h1, h2⟩ := cells_get hl
        obtain ⟨y, hq, hy⟩ := hrow l h1 hr
        exact ⟨y, fun _ => ⟨hq, fun j hj => (h2 j hj).trans (hy j hj)⟩⟩
      · exact ⟨y0, fun h => absurd h hlt⟩
    obtain ⟨f, hf⟩ := Classical.axiomOfChoice hex
    have hlen : ((List.range len).map f).length = len := by simp
    have hget : ∀ i, i < len → ((List.range len).map f).getD i y0 = f i := fun i hlt => by simp [hlt]
    refine ⟨some a, cap, (List.range len).map f, by rw [hlen], fun y hy => ?_, ⟨?_, fun h0 => ?_⟩, by rw [hlen]; exact hby⟩
    · obtain ⟨i, h1, rfl⟩ := List.mem_map.1 hy
      exact (hf i (by simpa using h1)).1
    · rw [hlen]; unfold maxLen at hm; omega
    · rw [hlen] at h0
      have h1 := (hf 0 h0).2 0 hk0
      simp only [Nat.zero_mul, Addr.add] at h1
      obtain ⟨b, off, sp⟩ := a
      have hsp : sp = none := by
        cases sp with
        | none => rfl
        | some s => simp [World.cell?] at h1; split at h1 <;> cases h1
      subst hsp
      refine ⟨b, off, rfl, World.block_lt_of_cell? w _ h1, fun i hi2 j hj => ?_⟩
      rw [hlen] at hi2
      show w.cell? _ = some (C (((List.range len).map f).getD i y0) j)
      rw [hget i hi2]
      have := (hf i hi2).2 j hj
      rwa [Addr.add_lit, Addr.add_lit] at this
theorem heavy_all {ts : List TypeId} {ds : List (DataW H)} (h : (DataW.weightsEach P (ts ++ []) (ds ++ [])).all (· ≤ reachBytes) = true) {j : Nat} {t : TypeId} {d : DataW H} (ht : ts[j]? = some t) (hd : ds[j]? = some d) : ∀ n ∈ d.weights P t, n ≤ reachBytes := by
  intro n hn
  rw [List.append_nil, List.append_nil] at h
  have := List.all_eq_true.1 h n (DataW.weights_mem_each ht hd n hn)
  simpa using this
end
end Go.Proofs.YtogobjmmgjfjjaaGreat
/- What is proved: what the form's reading of a plant, of acts, of literals says of the cells. Conditions: those that each lemma states. -/
namespace Go.Proofs.YtogobjmmgjfjjaaGreat
open Go.ChangeShapes Go.WideShapes Go.ChangeAt Go.RowKit

theorem Sl.congr {w : World} {B k n : Nat} {A : Option Addr} {f g : Nat → Nat → Value} (h : Sl w B k A n f) (hf : ∀ i, i < n → ∀ j, j < k → f i j = g i j) : Sl w B k A n g :=
  ⟨h.1, fun hn => by obtain ⟨b, off, e, h1, h2⟩ := h.2 hn; exact ⟨b, off, e, h1, fun i hi j hj => (h2 i hi j hj).trans (by rw [hf i hi j hj])⟩⟩
def structOf (P : Program) (t : TypeId) : Array Field := match P.underlying t with | some (.struct f) => f | _ => #[]
theorem cells_int : Tryz.prog.cellsOf 3 = 1 := by kernel_rfl
theorem cells_bool : Tryz.prog.cellsOf 4 = 1 := by kernel_rfl
theorem cells_string : Tryz.prog.cellsOf 9 = 1 := by kernel_rfl
theorem und_int : Tryz.prog.underlying 3 = some (.int .i64) := by kernel_rfl
theorem und_bool : Tryz.prog.underlying 4 = some .bool := by kernel_rfl
theorem und_string : Tryz.prog.underlying 9 = some .string := by kernel_rfl
theorem row_get {cs : List Value} {j : Nat} {v : Value} (h : (cs.drop j).take 1 = [v]) : cs[j]? = some v := by
  have := congrArg (·[0]?) h
  simpa [List.getElem?_take, List.getElem?_drop] using this
theorem row_sub {cs l : List Value} {j k : Nat} (h : (cs.drop j).take k = l) {i : Nat} (hi : i < k) : cs[j + i]? = l[i]? := by
  rw [← h]; simp [hi]
section
variable {H : Type} {enc : TypeId × Value → H} {w : World} {cs : List Value} {j : Nat}
theorem rwInt (h : RdW enc Tryz.prog w 3 ((cs.drop j).take (Tryz.prog.cellsOf 3))) : ∃ n, cs[j]? = some (.int .i64 n) ∧ -9223372036854775808 ≤ n ∧ n ≤ 9223372036854775807 := by
  rw [cells_int] at h
  obtain ⟨n, e, hw⟩ := h.rd.int und_int
  exact ⟨n, row_get e, (i64_bd hw).1, (i64_bd hw).2⟩
theorem rwBool (h : RdW enc Tryz.prog w 4 ((cs.drop j).take (Tryz.prog.cellsOf 4))) : ∃ n, cs[j]? = some (.bool n) := by
  rw [cells_bool] at h
  obtain ⟨n, e⟩ := h.rd.bool und_bool
  exact ⟨n, row_get e⟩
theorem rwString (h : RdW enc Tryz.prog w 9 ((cs.drop j).take (Tryz.prog.cellsOf 9))) : ∃ n, cs[j]? = some (.string n) := by
  rw [cells_string] at h
  obtain ⟨n, e, _⟩ := h.rd.string und_string
  exact ⟨n, row_get e⟩
theorem und_tankS : Tryz.prog.underlying 72 = some (.struct (structOf Tryz.prog 72)) := by kernel_rfl
theorem und_valveS : Tryz.prog.underlying 78 = some (.struct (structOf Tryz.prog 78)) := by kernel_rfl
theorem und_lineS : Tryz.prog.underlying 76 = some (.struct (structOf Tryz.prog 76)) := by kernel_rfl
theorem und_litS : Tryz.prog.underlying 79 = some (.struct (structOf Tryz.prog 79)) := by kernel_rfl
theorem und_plantS : Tryz.prog.underlying 27 = some (.struct (structOf Tryz.prog 27)) := by kernel_rfl
theorem rwTank (h : RdW enc Tryz.prog w 72 cs) : ∃ y : TankD, True ∧ ∀ j, j < 4 → cs[j]? = some (tankC y j) := by
  obtain ⟨_, h2⟩ := h.fields (l := [(9, 0), (3, 1), (3, 2), (3, 3)]) und_tankS (by kernel_rfl)
  obtain ⟨a, e0⟩ := rwString (h2 (9, 0) (by simp))
  obtain ⟨b, e1, _⟩ := rwInt (h2 (3, 1) (by simp))
  obtain ⟨c, e2, _⟩ := rwInt (h2 (3, 2) (by simp))
  obtain ⟨d, e3, _⟩ := rwInt (h2 (3, 3) (by simp))
  refine ⟨⟨a, b, c, d⟩, trivial, fun j hj => ?_⟩
  match j, hj with
  | 0, _ => exact e0
  | 1, _ => exact e1
  | 2, _ => exact e2
  | 3, _ => exact e3
theorem rwValve (h : RdW enc Tryz.prog w 78 cs) : ∃ y : ValveD, True ∧ ∀ j, j < 3 → cs[j]? = some (valveC y j) := by
  obtain ⟨_, h2⟩ := h.fields (l := [(9, 0), (3, 1), (4, 2)]) und_valveS (by kernel_rfl)
  obtain ⟨a, e0⟩ := rwString (h2 (9, 0) (by simp))
  obtain ⟨b, e1, _⟩ := rwInt (h2 (3, 1) (by simp))
  obtain ⟨c, e2⟩ := rwBool (h2 (4, 2) (by simp))
  refine ⟨⟨a, b, c⟩, trivial, fun j hj => ?_⟩
  match j, hj with
  | 0, _ => exact e0
  | 1, _ => exact e1
  | 2, _ => exact e2
theorem rwLit (h : RdW enc Tryz.prog w 79 cs) : ∃ y : LitD, True ∧ ∀ j, j < 2 → cs[j]? = some (litC y j) := by
  obtain ⟨_, h2⟩ := h.fields (l := [(3, 0), (4, 1)]) und_litS (by kernel_rfl)
  obtain ⟨b, e1, _⟩ := rwInt (h2 (3, 0) (by simp))
  obtain ⟨c, e2⟩ := rwBool (h2 (4, 1) (by simp))
  refine ⟨⟨b, c⟩, trivial, fun j hj => ?_⟩
  match j, hj with
  | 0, _ => exact e1
  | 1, _ => exact e2
theorem rwInts (h : RdW enc Tryz.prog w 50 cs) : ∃ (A : Option Addr) (c : Nat) (l : List Int), cs = [.slice A l.length c] ∧ IntsAt w w.heap.size A l ∧ (∀ n ∈ l, -9223372036854775808 ≤ n ∧ n ≤ 9223372036854775807) := by
  obtain ⟨A, c, l, e, hq, hs, _⟩ := h.list (fun (n : Int) _ => Value.int .i64 n) (fun n => -9223372036854775808 ≤ n ∧ n ≤ 9223372036854775807) 0 (e := 3) (by kernel_rfl) cells_int (by omega) (fun l hl hr => by
    obtain ⟨n, e, hw⟩ := hr.rd.int und_int
    refine ⟨n, i64_bd hw, fun j hj => ?_⟩
    obtain rfl : j = 0 := by omega
    rw [e]; rfl)
  exact ⟨A, c, l, e, hs, hq⟩
theorem rwLits (h : RdW enc Tryz.prog w 28 cs) : ∃ (A : Option Addr) (c : Nat) (l : List LitD), cs = [.slice A l.length c] ∧ LitsAt w w.heap.size A l := by
  obtain ⟨A, c, l, e, _, hs, _⟩ := h.list litC (fun _ => True) lit0 (e := 79) (by kernel_rfl) (k := 2) (by kernel_rfl) (by omega) (fun l _ hr => rwLit hr)
  exact ⟨A, c, l, e, hs⟩
def line1C (y : Option Addr × Nat × LineD) (j : Nat) : Value := lineC y.1 y.2.1 y.2.2 j
theorem rwLine (h : RdW enc Tryz.prog w 76 cs) : ∃ y : Option Addr × Nat × LineD, IntsAt w w.heap.size y.1 y.2.2.valves ∧ ∀ j, j < 5 → cs[j]? = some (line1C y j) := by
  obtain ⟨_, h2⟩ := h.fields (l := [(3, 0), (3, 1), (3, 2), (4, 3), (50, 4)]) und_lineS (by kernel_rfl)
  obtain ⟨a, e0, _⟩ := rwInt (h2 (3, 0) (by simp))
  obtain ⟨b, e1, _⟩ := rwInt (h2 (3, 1) (by simp))
  obtain ⟨c, e2, _⟩ := rwInt (h2 (3, 2) (by simp))
  obtain ⟨d, e3⟩ := rwBool (h2 (4, 3) (by simp))
  obtain ⟨A, n, l, e4, hl, _⟩ := rwInts (h2 (50, 4) (by simp))
  rw [show Tryz.prog.cellsOf 50 = 1 from by kernel_rfl] at e4
  refine ⟨⟨A, n, ⟨a, b, c, d, l⟩⟩, hl, fun j hj => ?_⟩
  match j, hj with
  | 0, _ => exact e0
  | 1, _ => exact e1
  | 2, _ => exact e2
  | 3, _ => exact e3
  | 4, _ => exact row_get e4
def never1C (y : Option Addr × Nat × List LitD) (_ : Nat) : Value := .slice y.1 y.2.2.length y.2.1
theorem map_getD {α β : Type} (l : List α) (f : α → β) (i : Nat) (a : α) (b : β) (hi : i < l.length) : (l.map f).getD i b = f (l.getD i a) := by
  rw [List.getD_eq_getElem?_getD, List.getD_eq_getElem?_getD]
  simp [hi]
theorem rwPlant (h : RdW enc Tryz.prog w 27 cs) : ∃ (x : PV) (p : PlantD), cs = (plantA x p).toList ∧ PlantAt w w.heap.size x p := by
  obtain ⟨hlen, h2⟩ := h.fields (l := [(22, 0), (23, 1), (24, 2), (25, 3)]) und_plantS (by kernel_rfl)
  rw [show Tryz.prog.cellsOf 27 = 4 from by kernel_rfl] at hlen
  obtain ⟨tA, tc, tl, e0, _, ht, hbt⟩ := (h2 (22, 0) (by simp)).list tankC (fun _ => True) tank0 (e := 72) (by kernel_rfl) (k := 4) (by kernel_rfl) (by omega) (fun l _ hr => rwTank hr)
  obtain ⟨vA, vc, vl, e1, _, hv, hbv⟩ := (h2 (23, 1) (by simp)).list valveC (fun _ => True) valve0 (e := 78) (by kernel_rfl) (k := 3) (by kernel_rfl) (by omega) (fun l _ hr => rwValve hr)
  obtain ⟨lA, lc, ll, e2, hql, hl, _⟩ := (h2 (24, 2) (by simp)).list line1C (fun y => IntsAt w w.heap.size y.1 y.2.2.valves) (none, 0, line0) (e := 76) (by kernel_rfl) (k := 5) (by kernel_rfl) (by omega) (fun l _ hr => rwLine hr)
  obtain ⟨nA, nc, nl, e3, hqn, hn, _⟩ := (h2 (25, 3) (by simp)).list never1C (fun y => LitsAt w w.heap.size y.1 y.2.2) (none, 0, []) (e := 28) (by kernel_rfl) (k := 1) (by kernel_rfl) (by omega) (fun l _ hr => by
    obtain ⟨A, c, l', e, hs⟩ := rwLits hr
    refine ⟨(A, c, l'), hs, fun j hj => ?_⟩
    obtain rfl : j = 0 := by omega
    rw [e]; rfl)
  rw [show Tryz.prog.cellsOf 22 = 1 from by kernel_rfl] at e0
  rw [show Tryz.prog.cellsOf 23 = 1 from by kernel_rfl] at e1
  rw [show Tryz.prog.cellsOf 24 = 1 from by kernel_rfl] at e2
  rw [show Tryz.prog.cellsOf 25 = 1 from by kernel_rfl] at e3
  refine ⟨⟨tA, tc, vA, vc, lA, lc, nA, nc, fun i => (ll.getD i (none, 0, line0)).1, fun i => (ll.getD i (none, 0, line0)).2.1, fun i => (nl.getD i (none, 0, [])).1, fun i => (nl.getD i (none, 0, [])).2.1⟩,
    ⟨tl, vl, ll.map (·.2.2), nl.map (·.2.2)⟩, ?_, ?_⟩
  · apply List.ext_getElem?
    intro j
    simp only [plantA, List.length_map]
    match j with
    | 0 => exact row_get e0
    | 1 => exact row_get e1
    | 2 => exact row_get e2
    | 3 => exact row_get e3
    | j + 4 => rw [List.getElem?_eq_none (by omega), List.getElem?_eq_none (by simp)]
  · refine ⟨ht, hv, ?_, fun i hi => ?_, ?_, fun i hi => ?_, ?_⟩
    · rw [List.length_map]
      refine Sl.congr hl fun i hi j hj => ?_
      show line1C _ j = lineC _ _ (PlantD.line _ i) j
      unfold PlantD.line line1C
      rw [map_getD ll (·.2.2) i (none, 0, line0) line0 hi]
    · simp only [List.length_map] at hi
      unfold PlantD.line
      rw [map_getD ll (·.2.2) i (none, 0, line0) line0 hi]
      refine hql _ ?_
      rw [List.getD_eq_getElem?_getD, List.getElem?_eq_getElem hi]; exact List.getElem_mem hi
    · rw [List.length_map]
      refine Sl.congr hn fun i hi j hj => ?_
      show never1C _ j = _
      unfold never1C PlantD.nev
      rw [map_getD nl (·.2.2) i (none, 0, []) [] hi]
    · simp only [List.length_map] at hi
      unfold PlantD.nev
      rw [map_getD nl (·.2.2) i (none, 0, []) [] hi]
      refine hqn _ ?_
      rw [List.getD_eq_getElem?_getD, List.getElem?_eq_getElem hi]; exact List.getElem_mem hi
    · rw [show Tryz.prog.bytesOf 72 = 40 from by kernel_rfl] at hbt
      rw [show Tryz.prog.bytesOf 78 = 32 from by kernel_rfl] at hbv
      have := reachBytes_lt
      simp only [show (2:Nat)^47 = 140737488355328 from rfl] at this
      show tl.length * 16 ≤ _ ∧ vl.length * 16 ≤ _
      constructor <;> omega
end
end Go.Proofs.YtogobjmmgjfjjaaGreat
/- What is proved: the shapes of a law's arguments. Conditions: those that each lemma states. -/
namespace Go.Proofs.YtogobjmmgjfjjaaGreat
open Go.ChangeShapes Go.WideShapes Go.ChangeAt Go.RowKit
theorem ownKnobL : ownKnob Tryz.prog.godebug = none := by kernel_rfl
section
variable {H : Type} {enc : TypeId × Value → H} {P : Program} {w : World} {t e : TypeId} {base : Nat} {v : Value}
theorem okWide_str {fs : Array Field} (hu : P.underlying t = some (.struct fs)) (h : Value.okWide P w .any base t v) : ∃ cs, v = .agg cs := by
  simp only [Value.okWide, hu] at h
  obtain ⟨cs, rfl, _⟩ := h
  exact ⟨cs, rfl⟩
theorem okWide_sl (hu : P.underlying t = some (.slice e)) (h : Value.okWide P w .any base t v) (u : Value) (hc : v.cells.toList = [u]) : v = u := by
  simp only [Value.okWide, hu, Cell.okWide] at h
  cases v <;> simp [Value.cells] at hc <;> first | exact hc | (simp [Cell.ok, hu] at h)
end
theorem toList4 {cs : Array Value} {a b c d : Value} (h0 : cs.toList.length = 4) (e0 : cs.toList[0]? = some a) (e1 : cs.toList[1]? = some b) (e2 : cs.toList[2]? = some c) (e3 : cs.toList[3]? = some d) : cs = #[a, b, c, d] := by
  obtain ⟨l⟩ := cs
  simp only at h0 e0 e1 e2 e3
  match l, h0 with
  | [x0, x1, x2, x3], _ => simp at e0 e1 e2 e3; subst e0; subst e1; subst e2; subst e3; rfl
theorem und_needS : Tryz.prog.underlying 70 = some (.struct (structOf Tryz.prog 70)) := by kernel_rfl
theorem und_actS : Tryz.prog.underlying 57 = some (.struct (structOf Tryz.prog 57)) := by kernel_rfl
theorem rwFour {H : Type} {enc : TypeId × Value → H} {w : World} {t : TypeId} {cs : List Value} (h : RdW enc Tryz.prog w t cs) (hu : Tryz.prog.underlying t = some (.struct (structOf Tryz.prog t)))
    (hl : (structOf Tryz.prog t).toList.map (fun f => (f.type, f.offset)) = [(3, 0), (3, 1), (3, 2), (3, 3)]) :
    cs.length = Tryz.prog.cellsOf t ∧ ∃ a b c d : Int, cs[0]? = some (.int .i64 a) ∧ cs[1]? = some (.int .i64 b) ∧ cs[2]? = some (.int .i64 c) ∧ cs[3]? = some (.int .i64 d) := by
  obtain ⟨h1, h2⟩ := h.fields hu hl
  obtain ⟨a, e0, _⟩ := rwInt (h2 (3, 0) (by simp))
  obtain ⟨b, e1, _⟩ := rwInt (h2 (3, 1) (by simp))
  obtain ⟨c, e2, _⟩ := rwInt (h2 (3, 2) (by simp))
  obtain ⟨d, e3, _⟩ := rwInt (h2 (3, 3) (by simp))
  exact ⟨h1, a, b, c, d, e0, e1, e2, e3⟩
structure ActD where
  what : Int
  a : Int
  b : Int
  c : Int
def act0 : ActD := ⟨0, 0, 0, 0⟩
def actC (x : ActD) : Nat → Value
  | 0 => .int .i64 x.what
  | 1 => .int .i64 x.a
  | 2 => .int .i64 x.b
  | _ => .int .i64 x.c
def ActsAt (w : World) (B : Nat) (A : Option Addr) (l : List ActD) : Prop := Sl w B 4 A l.length fun i => actC (l.getD i act0)
theorem rwActs {H : Type} {enc : TypeId × Value → H} {w : World} {cs : List Value} (h : RdW enc Tryz.prog w 49 cs) : ∃ (A : Option Addr) (c : Nat) (l : List ActD), cs = [.slice A l.length c] ∧ ActsAt w w.heap.size A l := by
  obtain ⟨A, c, l, e, _, hs, _⟩ := h.list actC (fun _ => True) act0 (e := 57) (by kernel_rfl) (k := 4) (by kernel_rfl) (by omega) (fun l _ hr => by
    obtain ⟨_, a, b, c, d, e0, e1, e2, e3⟩ := rwFour hr und_actS (by kernel_rfl)
    refine ⟨⟨a, b, c, d⟩, trivial, fun j hj => ?_⟩
    match j, hj with
    | 0, _ => exact e0
    | 1, _ => exact e1
    | 2, _ => exact e2
    | 3, _ => exact e3)
  exact ⟨A, c, l, e, hs⟩
set_option maxRecDepth 100000 in
theorem arg_act {H : Type} {enc : TypeId × Value → H} {w : World} {base : Nat} {v : Value} (ho : Value.okWide Tryz.prog w .any base 57 v) (h : RdW enc Tryz.prog w 57 v.cells.toList) :
    ∃ a b c d : Int, v = .agg #[.int .i64 a, .int .i64 b, .int .i64 c, .int .i64 d] := by
  obtain ⟨cs, rfl⟩ := okWide_str (P := Tryz.prog) (t := 57) und_actS ho
  obtain ⟨h1, a, b, c, d, e0, e1, e2, e3⟩ := rwFour h und_actS (by kernel_rfl)
  rw [show Tryz.prog.cellsOf 57 = 4 from by kernel_rfl] at h1
  exact ⟨a, b, c, d, congrArg Value.agg (toList4 (cs := cs) h1 e0 e1 e2 e3)⟩
set_option maxRecDepth 100000 in
theorem arg_need {H : Type} {enc : TypeId × Value → H} {w : World} {base : Nat} {v : Value} (ho : Value.okWide Tryz.prog w .any base 70 v) (h : RdW enc Tryz.prog w 70 v.cells.toList) :
    ∃ a b c d : Int, v = .agg #[.int .i64 a, .int .i64 b, .int .i64 c, .int .i64 d] := by
  obtain ⟨cs, rfl⟩ := okWide_str (P := Tryz.prog) (t := 70) und_needS ho
  obtain ⟨h1, a, b, c, d, e0, e1, e2, e3⟩ := rwFour h und_needS (by kernel_rfl)
  rw [show Tryz.prog.cellsOf 70 = 4 from by kernel_rfl] at h1
  exact ⟨a, b, c, d, congrArg Value.agg (toList4 (cs := cs) h1 e0 e1 e2 e3)⟩
set_option maxRecDepth 100000 in
theorem arg_plant {H : Type} {enc : TypeId × Value → H} {w : World} {base : Nat} {v : Value} (ho : Value.okWide Tryz.prog w .any base 27 v) (h : RdW enc Tryz.prog w 27 v.cells.toList) :
    ∃ (x : PV) (p : PlantD), v = .agg (plantA x p) ∧ PlantAt w w.heap.size x p := by
  obtain ⟨cs, rfl⟩ := okWide_str (P := Tryz.prog) (t := 27) und_plantS ho
  obtain ⟨x, p, e, hp⟩ := rwPlant h
  exact ⟨x, p, congrArg Value.agg (Array.toList_inj.1 (show cs.toList = _ from e)), hp⟩
set_option maxRecDepth 100000 in
theorem arg_acts {H : Type} {enc : TypeId × Value → H} {w : World} {base : Nat} {v : Value} (ho : Value.okWide Tryz.prog w .any base 49 v) (h : RdW enc Tryz.prog w 49 v.cells.toList) :
    ∃ (A : Option Addr) (c : Nat) (l : List ActD), v = .slice A l.length c ∧ ActsAt w w.heap.size A l := by
  obtain ⟨A, c, l, e, hs⟩ := rwActs h
  exact ⟨A, c, l, okWide_sl (P := Tryz.prog) (t := 49) (e := 57) (by kernel_rfl) ho _ e, hs⟩
set_option maxRecDepth 100000 in
theorem arg_lits {H : Type} {enc : TypeId × Value → H} {w : World} {base : Nat} {v : Value} (ho : Value.okWide Tryz.prog w .any base 28 v) (h : RdW enc Tryz.prog w 28 v.cells.toList) :
    ∃ (A : Option Addr) (c : Nat) (l : List LitD), v = .slice A l.length c ∧ LitsAt w w.heap.size A l := by
  obtain ⟨A, c, l, e, hs⟩ := rwLits h
  exact ⟨A, c, l, okWide_sl (P := Tryz.prog) (t := 28) (e := 79) (by kernel_rfl) ho _ e, hs⟩
end Go.Proofs.YtogobjmmgjfjjaaGreat
