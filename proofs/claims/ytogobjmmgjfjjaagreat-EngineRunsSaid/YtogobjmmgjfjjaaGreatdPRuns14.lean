/- What is proved: the texts Wd We, one behind the other; each says at its head what it proves, and under which conditions. -/
import Derived.Deep.LoopGhost
import Derived.Outline
import Derived.StillTailTactics
import Derived.Test.YtogobjmmgjfjjaaGreatdPRuns13
/- What is proved: a contract of the document's Run. Conditions: the plant, the state, the sequence, what goes wrong lie in memory. -/
namespace Go.Proofs.YtogobjmmgjfjjaaGreat
open Go.RowKit

/-- What is left by the operations of a return: the state's box, the end's box, the two results' boxes. -/
structure RetJ (E : Exc) (W0 : World) (lo : Nat) (p : PlantD) (R : RX) (T : Sys) (xb : Nat) (d : EndD) (a b : Bool) (w1 : World) : Prop where
  ks : Bk w1 (lo + 1) 53 (RA p R)
  kx : Bk w1 xb 85 (endA d)
  k2 : Bk w1 (lo + 1 + 1 + 1) 53 (if a then RA p R else refA nilR 0 0 0)
  k3 : Bk w1 (lo + 1 + 1 + 1 + 1) 85 (if b then endA d else endA end0)
  rf : @RefAt (excB E lo 5) w1 w1.heap.size R T
  be : Below lo W0 w1
  hx : lo + 5 ≤ xb
theorem RetJ.drew {E : Exc} {W0 : World} {lo : Nat} {p : PlantD} {R : RX} {T : Sys} {xb : Nat} {d : EndD} {a b : Bool} {w1 : World} (h : RetJ E W0 lo p R T xb d a b w1) : RetJ E W0 lo p R T xb d a b w1.drew := by
  letI : Exc := excB E lo 5
  have hb : Below w1.heap.size w1 w1.drew := (Below.refl _ _).drew
  exact ⟨h.ks.below hb h.ks.lt, h.kx.below hb h.kx.lt, h.k2.below hb h.k2.lt, h.k3.below hb h.k3.lt, (RefAt.below h.rf hb).mono hb.size, h.be.drew, h.hx⟩
theorem RetJ.st2 {E : Exc} {W0 : World} {lo : Nat} {p : PlantD} {R : RX} {T : Sys} {xb : Nat} {d : EndD} {a b : Bool} {w1 w2 : World} (h : RetJ E W0 lo p R T xb d a b w1) (ho : Only (lo + 1 + 1 + 1) w1 w2) (hk : Bk w2 (lo + 1 + 1 + 1) 53 (RA p R)) : RetJ E W0 lo p R T xb d true b w2 := by
  have hx := h.hx
  exact ⟨h.ks.only ho (by omega), h.kx.only ho (by omega), hk, h.k3.only ho (by omega), h.rf.stay ho (by omega) (by omega), h.be.trans (ho.below (by omega)), hx⟩
theorem RetJ.st3 {E : Exc} {W0 : World} {lo : Nat} {p : PlantD} {R : RX} {T : Sys} {xb : Nat} {d : EndD} {a b : Bool} {w1 w2 : World} (h : RetJ E W0 lo p R T xb d a b w1) (ho : Only (lo + 1 + 1 + 1 + 1) w1 w2) (hk : Bk w2 (lo + 1 + 1 + 1 + 1) 85 (endA d)) : RetJ E W0 lo p R T xb d a true w2 := by
  have hx := h.hx
  exact ⟨h.ks.only ho (by omega), h.kx.only ho (by omega), h.k2.only ho (by omega), hk, h.rf.stay ho (by omega) (by omega), h.be.trans (ho.below (by omega)), hx⟩

theorem RetJ.k2s {E : Exc} {W0 : World} {lo : Nat} {p : PlantD} {R : RX} {T : Sys} {xb : Nat} {d : EndD} {a b : Bool} {w1 : World} (h : RetJ E W0 lo p R T xb d a b w1) : ∃ cs, Bk w1 (lo + 1 + 1 + 1) 53 cs ∧ cs.size = 9 :=
  ⟨_, h.k2, by cases a <;> rfl⟩
theorem RetJ.k3s {E : Exc} {W0 : World} {lo : Nat} {p : PlantD} {R : RX} {T : Sys} {xb : Nat} {d : EndD} {a b : Bool} {w1 : World} (h : RetJ E W0 lo p R T xb d a b w1) : ∃ cs, Bk w1 (lo + 1 + 1 + 1 + 1) 85 cs ∧ cs.size = 4 :=
  ⟨_, h.k3, by cases b <;> rfl⟩
theorem onceB_range {q : SeqD} {l : List DisD} {tick : Int} {t : Nat} {S U : Sys} {c D : Nat → Int} {e : EndD} (h : onceB q l tick S c = ⟨U, D, e⟩) (hc : ∀ k, 0 ≤ c k ∧ c k ≤ t) (k : Nat) : 0 ≤ D k ∧ D k ≤ ((t + 1 : Nat) : Int) := by
  cases hs : (stepsF q tick q.steps.length 0 (wrongB S l tick)).2 with
  | some i =>
    rw [onceB_hit hs] at h
    injection h with _ h2 _
    rw [← h2]; have := hc k; push_cast; omega
  | none =>
    rw [onceB_on hs] at h
    injection h with _ h2 _
    rw [← h2]; exact countB_range hc k

theorem RefAt.stayE [E : Exc] {w1 w2 : World} {g : Nat} {R : RX} {S : Sys} (h : RefAt w1 w1.heap.size R S) (ho : Only g w1 w2) (hx : E.ex g) : RefAt w2 w2.heap.size R S := fun k hk => by
  have g1 := h k hk
  refine ⟨⟨g1.sl.1, fun hn => ?_⟩, by rw [ho.size]; exact g1.top, g1.out⟩
  obtain ⟨b, off, e, hD, hc⟩ := g1.sl.2 hn
  have hne : b ≠ g := fun hh => g1.out b off hn e (by rw [hh]; exact hx)
  exact ⟨b, off, e, by rw [ho.size]; exact hD, fun i hi j hj => (World.cell?_of_block (ho.block b hne)).trans (hc i hi j hj)⟩

/-- The document's Run. -/
def RefRunPost (w : World) (r : Sys × EndD × Int) [Exc] (e : Ending) (w' : World) : Prop :=
  ∃ R', e = .returned (.tuple #[.agg (SysA R' r.1), .agg (endA r.2.1), .int .i64 r.2.2]) ∧ RefAt w' w'.heap.size R' r.1 ∧ Below w.heap.size w w'

set_option maxRecDepth 100000 in
set_option maxHeartbeats 16000000 in
theorem refRun_any [E : Exc] (w : World) (x : PV) (R0 : RX) (S : Sys) (hp : PlantAt w w.heap.size x S.p) (hr : RefAt w w.heap.size R0 S) (ok : SysOk S) (y : QV) (sq : SeqD) (hq : SeqAt w w.heap.size y sq) (A : Option Addr) (c : Nat) (l : List DisD) (hl : DisAt w w.heap.size A l) :
    Calls Tryz.prog 37 #[.agg (plantA x S.p), .agg (SysA R0 S), .agg (seqA y sq), .slice A l.length c] w (RefRunPost w (runB S sq l)) := by
  obtain ⟨W0, hW⟩ : ∃ W0, W0 = ((((w.alloc (.cells (plantA x S.p) 27)).alloc (.cells (SysA R0 S) 53)).alloc (.cells (seqA y sq) 43)).alloc (.cells (refA nilR 0 0 0) 53)).alloc (.cells (endA end0) 85) := ⟨_, rfl⟩
  have hbW : Below w.heap.size w W0 := by rw [hW]; exact (((((Below.refl _ _).alloc (Nat.le_refl _) _).alloc (by simp) _).alloc (by simp; omega) _).alloc (by simp; omega) _).alloc (by simp; omega) _
  have hWs : W0.heap.size = w.heap.size + 5 := by rw [hW]; simp
  have hb0 : Bk W0 w.heap.size 27 (plantA x S.p) := by rw [hW]; exact ((((Bk.new _ _ _).alloc _).alloc _).alloc _).alloc _
  have hb1 : Bk W0 (w.heap.size + 1) 53 (SysA R0 S) := by rw [hW]; exact (((Bk.newAt _ _ _ _ (by simp)).alloc _).alloc _).alloc _
  have hb2 : Bk W0 (w.heap.size + 1 + 1) 43 (seqA y sq) := by rw [hW]; exact ((Bk.newAt _ _ _ _ (by simp)).alloc _).alloc _
  have hb3 : Bk W0 (w.heap.size + 1 + 1 + 1) 53 (refA nilR 0 0 0) := by rw [hW]; exact (Bk.newAt _ _ _ _ (by simp)).alloc _
  have hb4 : Bk W0 (w.heap.size + 1 + 1 + 1 + 1) 85 (endA end0) := by rw [hW]; exact Bk.newAt _ _ _ _ (by simp)
  obtain ⟨p, hSp⟩ : ∃ p, S.p = p := ⟨_, rfl⟩
  obtain ⟨Ex, hEx⟩ : ∃ Ex : List (Nat × TypeId × Array Value), Ex = [(w.heap.size, 27, plantA x p), (w.heap.size + 1 + 1, 43, seqA y sq), (w.heap.size + 1 + 1 + 1, 53, refA nilR 0 0 0), (w.heap.size + 1 + 1 + 1 + 1, 85, endA end0)] := ⟨_, rfl⟩
  have HS0 : Hid (StQ E W0 w.heap.size 5 (w.heap.size + 1) p Ex W0 S) := Lib.hid ⟨⟨R0, by rw [← RA_of hSp]; exact hb1, RefAt.boxed hr hbW (by omega)⟩, hSp, Below.refl _ _, by omega, by omega, by omega, fun e he => by
    rw [hEx] at he
    simp only [List.mem_cons, List.not_mem_nil, or_false] at he
    rcases he with rfl | rfl | rfl | rfl
    · exact ⟨by show w.heap.size ≠ _; omega, by rw [← hSp]; exact hb0⟩
    · exact ⟨by show w.heap.size + 1 + 1 ≠ _; omega, hb2⟩
    · exact ⟨by show w.heap.size + 1 + 1 + 1 ≠ _; omega, hb3⟩
    · exact ⟨by show w.heap.size + 1 + 1 + 1 + 1 ≠ _; omega, hb4⟩⟩
  have HPB : Hid (∀ z T, StQ E W0 w.heap.size 5 (w.heap.size + 1) p Ex z T → Bk z w.heap.size 27 (plantA x p) ∧ Bk z (w.heap.size + 1 + 1) 43 (seqA y sq) ∧ Bk z (w.heap.size + 1 + 1 + 1) 53 (refA nilR 0 0 0) ∧ Bk z (w.heap.size + 1 + 1 + 1 + 1) 85 (endA end0)) := Lib.hid fun z T h =>
    ⟨(h.ex (w.heap.size, 27, plantA x p) (by rw [hEx]; simp)).2, (h.ex (w.heap.size + 1 + 1, 43, seqA y sq) (by rw [hEx]; simp)).2, (h.ex (w.heap.size + 1 + 1 + 1, 53, refA nilR 0 0 0) (by rw [hEx]; simp)).2, (h.ex (w.heap.size + 1 + 1 + 1 + 1, 85, endA end0) (by rw [hEx]; simp)).2⟩
  have HQ : Hid (∀ z, Below w.heap.size W0 z → SeqAt z w.heap.size y sq) := Lib.hid fun z hz => (hq.below hbW).below hz
  have HL : Hid (∀ z, Below w.heap.size W0 z → DisAt z w.heap.size A l) := Lib.hid fun z hz => Sl.below (Sl.below hl hbW) hz
  have HP : Hid (∀ z, Below w.heap.size W0 z → PlantAt z w.heap.size x p) := Lib.hid fun z hz => by rw [← hSp]; exact (hp.below hbW).below hz
  have hpl := plantB_lens ok.valid
  rw [hSp] at hpl
  have HOK := Lib.hid ok
  have HSP := Lib.hid hSp
  have HB := Lib.hid hbW
  have HW := Lib.hid hW
  have HWS := Lib.hid hWs
  have HCS : Hid (∀ z, Below w.heap.size W0 z → w.heap.size ≤ z.heap.size → Calls Tryz.prog 22 #[.agg (plantA x p), .agg (seqA y sq)] z fun e w' => e = .returned (.bool (seqB p sq)) ∧ Below z.heap.size z w') := Lib.hid fun z hz hs => refCheckSequence_any z x p ((HP.out z hz).mono hs) y sq ((HQ.out z hz).mono hs)
  have HDI : Hid (∀ z, Below w.heap.size W0 z → w.heap.size ≤ z.heap.size → Calls Tryz.prog 104 #[.agg (plantA x p), .slice A l.length c] z fun e w' => e = .returned (.bool (dissB p l)) ∧ Below z.heap.size z w') := Lib.hid fun z hz hs => refDisorders_any z x p (by omega) A c l (Sl.mono (HL.out z hz) hs)
  rw [hSp, RA_of hSp] at HW ⊢
  simp only [plantA, RA, refA, nilR, seqA, endA, end0] at HW
  simp only [plantA, RA, refA, seqA]
  have HPOST : Hid (∀ U D er R' w', runB S sq l = (U, D, er) → U.p = p → RefAt w' w'.heap.size R' U → Below w.heap.size w w' → RefRunPost w (runB S sq l) (.returned (.tuple #[.agg (RA p R'), .agg (endA D), .int .i64 er])) w') := Lib.hid fun U D er R' w' h1 h2 h3 h4 => by
    rw [h1]; exact ⟨R', by rw [RA_of h2], h3, h4⟩
  have FIN : Hid (∀ z T, StQ E W0 w.heap.size 5 (w.heap.size + 1) p Ex z T → ∃ R, Bk z (w.heap.size + 1) 53 (RA p R) ∧ Bk z (w.heap.size + 1 + 1 + 1) 53 (refA nilR 0 0 0) ∧ Bk z (w.heap.size + 1 + 1 + 1 + 1) 85 (endA end0) ∧
      ∀ z1 z2, Only (w.heap.size + 1 + 1 + 1) z z1 → Only (w.heap.size + 1 + 1 + 1 + 1) z1 z2 → RefAt z2 z2.heap.size R T ∧ Below w.heap.size w z2) := Lib.hid fun z T h => by
    obtain ⟨R, r1, r2⟩ := h.st
    have hb := HPB.out z _ h
    refine ⟨R, r1, hb.2.2.1, hb.2.2.2, fun z1 z2 o1 o2 => ⟨((r2.stay o1 (by omega) (by omega)).stay o2 (by omega) (by omega)).less, ((HB.out.trans h.below).trans (o1.below (by omega))).trans (o2.below (by omega))⟩⟩
  have hW8 : w.heap.size + 5 ≤ W0.heap.size := by omega
  clear hp hr ok hq hl hW hbW hWs hb0 hb1 hb2 hb3 hb4 hSp hEx hpl
  have HK0 := Lib.hid (HPB.out W0 S HS0.out)
  go_enter Tryz.func37, Tryz.ntmps37
  go_wp2_with fail
  rw [← HW.out]
  go_wp2_with (first
    | (refine wpLoadAt rfl 27 _ rfl w.heap.size 0 rfl (plantA x p) _ (fun j u hj => by rw [Nat.zero_add]; exact (HK0.out.1.cell j).trans hj) und_plant rfl info_plant ?_)
    | (refine wpLoadAt rfl 43 _ rfl (w.heap.size + 1 + 1) 0 rfl (seqA y sq) _ (fun j u hj => by rw [Nat.zero_add]; exact (HK0.out.2.1.cell j).trans hj) und_seqW rfl info_seqW ?_))
  refine (HCS.out W0 (Below.refl _ _) (by omega)).mono ?_
  rintro e w2 ⟨rfl, hb2⟩
  have HS2 := Lib.hid (HS0.out.later hb2)
  clear hb2
  have HK2 := Lib.hid (HPB.out w2 S HS2.out)
  cases hv1 : seqB p sq with
  | false =>
    have HF : Hid (runB S sq l = (S, end0, 2)) := Lib.hid (runB_no0 fun hh => by rw [HSP.out, hv1] at hh; cases hh.1)
    clear hv1
    obtain ⟨R, q1, q2, q3, q4⟩ := FIN.out w2 S HS2.out
    have HQ1 := Lib.hid q1; have HQ2 := Lib.hid q2; have HQ3 := Lib.hid q3; have HQ4 := Lib.hid q4
    clear q1 q2 q3 q4
    go_wp2_with (first
      | (refine wpLoadAt rfl 53 _ rfl (w.heap.size + 1) 0 rfl (RA p R) _ (fun j u hj => by rw [Nat.zero_add]; exact (HQ1.out.cell j).trans hj) und_state rfl info_state ?_)
      | (refine wpStoreAt rfl rfl 53 _ _ rfl (w.heap.size + 1 + 1 + 1) 0 rfl (RA p R) rfl 53 _ HQ2.out (by rw [RA_size]; show 0 + 9 ≤ 9; omega) (RA_one _ _) info_state ?_; intro wf hkf hof; have HQ5 := Lib.hid (HQ3.out.only hof (by omega)); have HKF := Lib.hid hkf; have HOF := Lib.hid hof; clear hkf hof)
      | (refine wpStoreAt rfl rfl 85 _ _ rfl (w.heap.size + 1 + 1 + 1 + 1) 0 rfl (endA end0) rfl 85 _ HQ5.out (by show 0 + 4 ≤ 4; omega) (endA_one _) info_ended ?_; intro wg hkg hog))
    try rw [Exit.noGoto_ret]
    have hkf' : Bk wf (w.heap.size + 1 + 1 + 1) 53 (RA p R) := by have hkf := HKF.out; rw [splA_all _ _ (by rw [RA_size]; rfl)] at hkf; exact hkf
    have hkg' : Bk wg (w.heap.size + 1 + 1 + 1 + 1) 85 (endA end0) := by rw [endA_spl] at hkg; exact hkg
    refine bodyPost_ret (results_cell_cell_tmp rfl _ _ (w.heap.size + 1 + 1 + 1) (w.heap.size + 1 + 1 + 1 + 1) 53 85 (RA p R) (endA end0) _ _ rfl (hkf'.only hog (by omega)) rfl hkg' und_state rfl (by rw [RA_size]; exact info_state) und_ended rfl info_ended) rfl ?_
    exact HPOST.out _ _ _ _ _ HF.out HSP.out (HQ4.out wf wg HOF.out hog).1 (HQ4.out wf wg HOF.out hog).2
  | true =>
  have HV1 := Lib.hid hv1
  clear hv1
  have c0 := HK2.out.1.cell 0; have c1 := HK2.out.1.cell 1; have c2 := HK2.out.1.cell 2; have c3 := HK2.out.1.cell 3
  simp [plantA] at c0 c1 c2 c3
  simp only [plantA] at HDI
  go_wp2_with fail
  refine (HDI.out w2 HS2.out.below (by have := HS2.out.size; omega)).mono ?_
  rintro e w3 ⟨rfl, hb3⟩
  have HS3 := Lib.hid (HS2.out.later hb3)
  clear hb3 HK2 HK0 c0 c1 c2 c3
  cases hv2 : dissB p l with
  | false =>
    have HF : Hid (runB S sq l = (S, end0, 2)) := Lib.hid (runB_no0 fun hh => by rw [HSP.out, hv2] at hh; cases hh.2)
    clear hv2
    obtain ⟨R, q1, q2, q3, q4⟩ := FIN.out w3 S HS3.out
    have HQ1 := Lib.hid q1; have HQ2 := Lib.hid q2; have HQ3 := Lib.hid q3; have HQ4 := Lib.hid q4
    clear q1 q2 q3 q4
    go_wp2_with (first
      | (refine wpLoadAt rfl 53 _ rfl (w.heap.size + 1) 0 rfl (RA p R) _ (fun j u hj => by rw [Nat.zero_add]; exact (HQ1.out.cell j).trans hj) und_state rfl info_state ?_)
      | (refine wpStoreAt rfl rfl 53 _ _ rfl (w.heap.size + 1 + 1 + 1) 0 rfl (RA p R) rfl 53 _ HQ2.out (by rw [RA_size]; show 0 + 9 ≤ 9; omega) (RA_one _ _) info_state ?_; intro wf hkf hof; have HQ5 := Lib.hid (HQ3.out.only hof (by omega)); have HKF := Lib.hid hkf; have HOF := Lib.hid hof; clear hkf hof)
      | (refine wpStoreAt rfl rfl 85 _ _ rfl (w.heap.size + 1 + 1 + 1 + 1) 0 rfl (endA end0) rfl 85 _ HQ5.out (by show 0 + 4 ≤ 4; omega) (endA_one _) info_ended ?_; intro wg hkg hog))
    try rw [Exit.noGoto_ret]
    have hkf' : Bk wf (w.heap.size + 1 + 1 + 1) 53 (RA p R) := by have hkf := HKF.out; rw [splA_all _ _ (by rw [RA_size]; rfl)] at hkf; exact hkf
    have hkg' : Bk wg (w.heap.size + 1 + 1 + 1 + 1) 85 (endA end0) := by rw [endA_spl] at hkg; exact hkg
    refine bodyPost_ret (results_cell_cell_tmp rfl _ _ (w.heap.size + 1 + 1 + 1) (w.heap.size + 1 + 1 + 1 + 1) 53 85 (RA p R) (endA end0) _ _ rfl (hkf'.only hog (by omega)) rfl hkg' und_state rfl (by rw [RA_size]; exact info_state) und_ended rfl info_ended) rfl ?_
    exact HPOST.out _ _ _ _ _ HF.out HSP.out (HQ4.out wf wg HOF.out hog).1 (HQ4.out wf wg HOF.out hog).2
  | true =>
  have HV2 := Lib.hid hv2
  obtain ⟨G, hG⟩ : ∃ G, runF sq l 10001 0 S (fun _ => 0) = G := ⟨_, rfl⟩
  have HRB : Hid (runB S sq l = (G.1, G.2, 0)) := Lib.hid (by unfold runB; rw [if_pos (by rw [HSP.out, HV1.out, hv2]; rfl), hG])
  have HG0 := Lib.hid hG
  have HKD := Lib.hid (dissB_kinds hv2)
  have hred := (seqB_lens HV1.out).2
  clear hG hv2
  obtain ⟨n, hn⟩ : ∃ n, sq.reds.length = n := ⟨_, rfl⟩
  rw [hn] at hred
  obtain ⟨i0, hi0, hz0, hz1, hz2⟩ := info_parts infoC_IntR
  have KM : ∀ w : World, (Instr.makeSlice 50 (.int .i64 (n : Int)) (.int .i64 (n : Int))).run Tryz.prog w = .ok (.slice (some ⟨w.heap.size, 0, none⟩) n n) (w.alloc (.cells (carrA n fun _ => 0) 3)) := fun w => by
    have hm := run_makeSlice (P := Tryz.prog) w 50 3 i0 _ Tryz.underlying50 hi0 hz0 .i64 .i64 (n : Int) (n : Int) (by omega) (by omega) (by rw [hz1, Int.toNat_natCast]; omega) (by rw [hz2]; omega) (by omega)
    rw [hz1, Int.toNat_natCast, made_carrR] at hm
    exact hm
  clear hi0 hz0 hz1 hz2 i0
  have k1 : w3.cell? ⟨w.heap.size + 1 + 1, 1, none⟩ = some (.slice y.rA n y.rc) := by rw [← hn]; exact (HPB.out w3 S HS3.out).2.1.cell 1
  have HN := Lib.hid hn
  clear hn
  go_wp2_with fail
  have HST : Hid (StQ E W0 w.heap.size 5 (w.heap.size + 1) p Ex (w3.alloc (.cells (carrA n fun _ => 0) 3)) S ∧ @SlO (excB E w.heap.size 5) (w3.alloc (.cells (carrA n fun _ => 0) 3)) (· < (w3.alloc (.cells (carrA n fun _ => 0) 3)).heap.size) (some ⟨w3.heap.size, 0, none⟩) n (cntF fun _ => 0)) := Lib.hid (by
    have hal : Below w3.heap.size w3 (w3.alloc (.cells (carrA n fun _ => 0) 3)) := (Below.refl _ _).alloc (Nat.le_refl _) _
    have htop : max E.top (w.heap.size + 5) ≤ w3.heap.size := by
      obtain ⟨R, _, r2⟩ := HS3.out.st
      exact @SlO.top (excB E w.heap.size 5) _ _ _ _ _ (r2 0 (by omega))
    have hbk : Bk (w3.alloc (.cells (carrA n fun _ => 0) 3)) w3.heap.size 3 (carrA n fun _ => 0) := Bk.new _ _ _
    refine ⟨HS3.out.later hal, @SlO.of_new (excB E w.heap.size 5) _ (fun b => b = w3.heap.size) _ _ n _ ⟨by omega, fun hn => ⟨w3.heap.size, 0, rfl, rfl, fun i hi j hj => ?_⟩⟩ (by show max E.top (w.heap.size + 5) ≤ _; simp; omega) (fun b hb => ⟨by subst hb; simp, by subst hb; exact htop⟩)⟩
    obtain rfl : j = 0 := by omega
    rw [Nat.zero_add, Nat.mul_one, Nat.add_zero]
    exact (hbk.cell i).trans (carrA_get n _ i hi))
  obtain ⟨w4, hw4⟩ : ∃ w4, w3.alloc (.cells (carrA n fun _ => 0) 3) = w4 := ⟨_, rfl⟩
  obtain ⟨cA, hcA⟩ : ∃ cA : Option Addr, some ⟨w3.heap.size, 0, none⟩ = cA := ⟨_, rfl⟩
  rw [hw4, hcA] at HST ⊢
  clear hw4 hcA k1 KM HS3 HS2
  go_loopg [11, 12] 10001 (fun g cs i wr => ∃ (t : Nat) (T : Sys) (c : Nat → Int) (A' : Option Addr) (c' : Nat), t + g = 10001 ∧ 1 ≤ g ∧ i = .int .i64 t ∧ cs = .slice A' n c' ∧ Hid (StQ E W0 w.heap.size 5 (w.heap.size + 1) p Ex wr T ∧ @SlO (excB E w.heap.size 5) wr (· < wr.heap.size) A' n (cntF c) ∧ SysOk T ∧ runF sq l g t T c = G ∧ ∀ k, 0 ≤ c k ∧ c k ≤ t))
  case atStart => exact ⟨0, S, fun _ => 0, cA, n, rfl, by omega, rfl, rfl, Lib.hid ⟨HST.out.1, HST.out.2, HOK.out, HG0.out, fun k => by simp⟩⟩
  case round =>
    obtain ⟨t, T, C, A', c', htg, hg1, rfl, rfl, hs⟩ := hrel
    obtain ⟨g, rfl⟩ : ∃ g, gk = g + 1 := ⟨gk - 1, by omega⟩
    obtain ⟨⟨U, D, d⟩, ho⟩ : ∃ o, onceB sq l t T C = o := ⟨_, rfl⟩
    have hkp : Keeps T U := by have := onceB_keeps sq l t T C; rw [ho] at this; exact this
    have HOKU := Lib.hid (hkp.2 hs.out.2.2.1)
    have hUp : U.p = p := hkp.1.trans hs.out.1.tp
    have HUP := Lib.hid hUp
    have HHO := Lib.hid ho
    obtain ⟨R, r1, r2⟩ := hs.out.1.st
    have hsz := hs.out.1.size
    have HONC : Hid (Calls Tryz.prog 105 #[.agg (plantA x p), .agg (RA p R), .agg (seqA y sq), .slice A l.length c, .int .i64 t, .slice A' n c'] wr fun e w' => ∃ R' A2 c2, e = .returned (.tuple #[.agg (RA p R'), .slice A2 n c2, .agg (endA d)]) ∧ @RefAt (excB E w.heap.size 5) w' w'.heap.size R' U ∧ @SlO (excB E w.heap.size 5) w' (· < w'.heap.size) A2 n (cntF D) ∧ Below wr.heap.size wr w') := Lib.hid (by
      have h := @refOnce_any (excB E w.heap.size 5) wr x R T (by rw [hs.out.1.tp]; exact (HP.out wr hs.out.1.below).mono (by omega)) r2 hs.out.2.2.1 y sq ((HQ.out wr hs.out.1.below).mono (by omega)) (by rw [hs.out.1.tp]; exact HV1.out) A c l (Sl.mono (HL.out wr hs.out.1.below) (by omega)) HKD.out t A' c' C (by rw [HN.out]; exact hs.out.2.1) (fun i => by have := hs.out.2.2.2.2 i; omega)
      rw [hs.out.1.tp, RA_of hs.out.1.tp, ho, HN.out] at h
      refine h.mono ?_
      rintro e w' ⟨R', A2, c2, rfl, h1, h2, h3⟩
      exact ⟨R', A2, c2, by rw [RA_of hUp], h1, h2, h3⟩)
    have HKB := Lib.hid (HPB.out wr T hs.out.1)
    have HR1 := Lib.hid r1
    have HSS := Lib.hid hs.out.1
    have HRF := Lib.hid hs.out.2.2.2.1
    have HCR : Hid (∀ k, 0 ≤ D k ∧ D k ≤ ((t + 1 : Nat) : Int)) := Lib.hid fun k => onceB_range ho hs.out.2.2.2.2 k
    simp only [plantA, RA, refA, seqA] at HONC
    clear ho hkp hUp r1 r2 hsz hs
    go_wp2_with (first
      | (refine wpLoadAt rfl 27 _ rfl w.heap.size 0 rfl (plantA x p) _ (fun j u hj => by rw [Nat.zero_add]; exact (HKB.out.1.cell j).trans hj) und_plant rfl info_plant ?_)
      | (refine wpLoadAt rfl 53 _ rfl (w.heap.size + 1) 0 rfl (RA p R) _ (fun j u hj => by rw [Nat.zero_add]; exact (HR1.out.cell j).trans hj) und_state rfl info_state ?_)
      | (refine wpLoadAt rfl 43 _ rfl (w.heap.size + 1 + 1) 0 rfl (seqA y sq) _ (fun j u hj => by rw [Nat.zero_add]; exact (HKB.out.2.1.cell j).trans hj) und_seqW rfl info_seqW ?_))
    refine HONC.out.mono ?_
    rintro e w5 ⟨R', A2, c2, rfl, h1, h2, h3⟩
    have HB5 := Lib.hid h3
    have HR5 := Lib.hid h1
    have HC5 := Lib.hid h2
    have HP5 := Lib.hid (HR1.out.below h3 HR1.out.lt)
    have hw5 : wr.heap.size ≤ w5.heap.size := h3.size
    have hlo5 : w.heap.size + 5 ≤ wr.heap.size := HSS.out.size
    clear h1 h2 h3 HONC HKB HR1
    go_upto_region 9 with (first
      | (refine wpStoreAt rfl rfl 53 _ _ rfl w5.heap.size 0 rfl (RA p R') rfl 53 (refA nilR 0 0 0) ((Bk.new _ _ _).alloc _) (by rw [RA_size]; show 0 + 9 ≤ 9; omega) (RA_one _ _) info_state ?_; intro wf hkf hof; have HX : Hid (Bk wf (w5.heap.size + 1) 85 (endA end0)) := Lib.hid ((Bk.newAt _ _ _ _ (by simp)).only hof (by omega)); have HKF : Hid (Bk wf w5.heap.size 53 (RA p R')) := Lib.hid (by rw [splA_all _ _ (by rw [RA_size]; rfl)] at hkf; exact hkf); have HBF : Hid (Below w5.heap.size w5 wf) := Lib.hid ((((Below.refl _ _).alloc (Nat.le_refl _) _).alloc (by simp) _).trans (hof.below (Nat.le_refl _))); clear hkf hof)
      | (refine wpStoreAt rfl rfl 85 _ _ rfl (w5.heap.size + 1) 0 rfl (endA d) rfl 85 _ HX.out (by show 0 + 4 ≤ 4; omega) (endA_one _) info_ended ?_; intro wg hkg hog; have HKG : Hid (Bk wg w5.heap.size 53 (RA p R')) := Lib.hid (HKF.out.only hog (by omega)); have HXG : Hid (Bk wg (w5.heap.size + 1) 85 (endA d)) := Lib.hid (by rw [endA_spl] at hkg; exact hkg); have HBG : Hid (Below w5.heap.size w5 wg) := Lib.hid (HBF.out.trans (hog.below (by omega))); have HZG : Hid (w5.heap.size + 2 ≤ wg.heap.size) := Lib.hid (by rw [hog.size]; exact HX.out.lt); have HPG : Hid (Bk wg (w.heap.size + 1) 53 (RA p R)) := Lib.hid (HP5.out.below HBG.out HP5.out.lt); clear hkg hog)
      | (refine wpLoadAt rfl 53 _ rfl w5.heap.size 0 rfl (RA p R') _ (fun j u hj => by rw [Nat.zero_add]; exact (HKG.out.cell j).trans hj) und_state rfl info_state ?_)
      | (refine wpStoreAt rfl rfl 53 _ _ rfl (w.heap.size + 1) 0 rfl (RA p R') rfl 53 _ HPG.out (by rw [RA_size, RA_size]; omega) (RA_one _ _) info_state ?_; intro wh hkh hoh; have HKH : Hid (Bk wh (w.heap.size + 1) 53 (RA p R')) := Lib.hid (by rw [RA_spl] at hkh; exact hkh); have HOH := Lib.hid hoh; clear hkh hoh))
    have HS6 : Hid (StQ E W0 w.heap.size 5 (w.heap.size + 1) p Ex wh U ∧ @SlO (excB E w.heap.size 5) wh (· < wh.heap.size) A2 n (cntF D) ∧ Bk wh (w5.heap.size + 1) 85 (endA d) ∧ @RefAt (excB (excB E w.heap.size 5) w5.heap.size 2) wh wh.heap.size R' U) := Lib.hid (by
      have hrg : @RefAt (excB (excB E w.heap.size 5) w5.heap.size 2) wg wg.heap.size R' U := @RefAt.boxed (excB E w.heap.size 5) w5 wg 2 R' U HR5.out HBG.out HZG.out
      exact ⟨HSS.out.store (HB5.out.trans (HBG.out.mono HB5.out.size)) hrg.less HUP.out HKH.out HOH.out, (HC5.out.later HBG.out).stay HOH.out (by omega) (by omega), HXG.out.only HOH.out (by omega), @RefAt.stayE (excB (excB E w.heap.size 5) w5.heap.size 2) _ _ _ _ _ hrg HOH.out (Or.inl (Or.inr ⟨by omega, by omega⟩))⟩)
    obtain ⟨nb, hnb⟩ : ∃ nb, w5.heap.size = nb := ⟨_, rfl⟩
    have hxl : w.heap.size + 5 ≤ nb := by omega
    rw [hnb] at HS6 ⊢
    clear HX HKF HBF HKG HXG HBG HPG HZG HOH HR5 HC5 HP5 hnb hw5
    have x0 := HS6.out.2.2.1.cell 0
    simp [endA] at x0
    have hcs := onceB_cases sq l t T C
    rw [HHO.out] at hcs
    simp only at hcs
    by_cases hd0 : d.why = 0
    · have HG1 : Hid (G = (U, d)) := Lib.hid (by rw [← HRF.out]; exact runF_done (g := g) HHO.out hd0)
      have HRJ : Hid (RetJ E W0 w.heap.size p R' U (nb + 1) d false false wh) := Lib.hid ⟨HKH.out, HS6.out.2.2.1, (HPB.out wh U HS6.out.1).2.2.1, (HPB.out wh U HS6.out.1).2.2.2, @RefAt.less (excB E w.heap.size 5) _ _ _ _ _ _ HS6.out.2.2.2, HS6.out.1.below, by omega⟩
      clear hcs HKH
      rw [hd0] at x0
      go_wp2_with fail
      clear x0
      refine wp_region_stepsJ (by kernel_rfl) (by kernel_rfl) (fun dn _ w1 => RetJ E W0 w.heap.size p R' U (nb + 1) d (dn 2) (dn 3) w1) (fun _ _ _ => True)
        (fun ix u _ _ => match ix with
          | 0 => u = .agg (RA p R')
          | 1 => u = .agg (endA d)
          | 2 => True
          | 3 => True
          | _ => u = .int .i64 0) (fun _ => HRJ.out.drew) (fun _ _ _ _ _ _ _ _ h _ => h) ?_ ?_
      · refine ⟨?_, ?_, ?_, ?_, ?_, trivial⟩
        · intro a w1 vs K dn Hd Hb HJ HK HD HN kk
          have e5 := HK 5 (by decide)
          exact wpo_loadS 53 (.tmp 5) rfl (w.heap.size + 1) 0 (by simpa [Act.eval] using e5) (RA p R') _ (fun j u hj => by rw [Nat.zero_add]; exact (HJ.ks.cell j).trans hj) und_state rfl info_state (kk _ _ (by simp) HJ trivial rfl)
        · intro a w1 vs K dn Hd Hb HJ HK HD HN kk
          have e15 := HK 15 (by decide)
          exact wpo_loadS 85 (.tmp 15) rfl (nb + 1) 0 (by simpa [Act.eval] using e15) (endA d) _ (fun j u hj => by rw [Nat.zero_add]; exact (HJ.kx.cell j).trans hj) und_ended rfl info_ended (kk _ _ (by simp) HJ trivial rfl)
        · intro a w1 vs K dn Hd Hb HJ HK HD HN kk
          have e8 := HK 8 (by decide)
          have e50 := (HD 0 _ 50 rfl rfl rfl).1.trans (HD 0 _ 50 rfl rfl rfl).2
          obtain ⟨cs, c1, c2⟩ := HJ.k2s
          exact wpo_storeS 53 (.tmp 8) (.tmp 50) rfl rfl (w.heap.size + 1 + 1 + 1) 0 (by simpa [Act.eval] using e8) (RA p R') (by simpa [Act.eval] using e50) 53 cs c1 (by rw [c2, RA_size]; show 0 + 9 ≤ 9; omega) (RA_one _ _) info_state fun w2 hk2 ho2 => kk undef _ (by simp) (by have h := HJ.st2 ho2 (by rw [splA_all _ _ (by rw [RA_size, c2])] at hk2; exact hk2); simpa [updB] using h) trivial trivial
        · intro a w1 vs K dn Hd Hb HJ HK HD HN kk
          have e9 := HK 9 (by decide)
          have e51 := (HD 1 _ 51 rfl rfl rfl).1.trans (HD 1 _ 51 rfl rfl rfl).2
          obtain ⟨cs, c1, c2⟩ := HJ.k3s
          exact wpo_storeS 85 (.tmp 9) (.tmp 51) rfl rfl (w.heap.size + 1 + 1 + 1 + 1) 0 (by simpa [Act.eval] using e9) (endA d) (by simpa [Act.eval] using e51) 85 cs c1 (by rw [c2]; show 0 + 4 ≤ 4; omega) (endA_one _) info_ended fun w2 hk2 ho2 => kk undef _ (by simp) (by have h := HJ.st3 ho2 (by rw [splA_all _ _ (by rw [c2]; rfl)] at hk2; exact hk2); simpa [updB] using h) trivial trivial
        · intro a w1 vs K dn Hd Hb HJ HK HD HN kk
          go_simp; exact kk _ _ (by simp) HJ trivial rfl
      · intro vs dn w6 hdn hj6 hrr
        have e4 : vs 4 = .int .i64 0 := (hrr 4 _ rfl)
        have HJ6 : Hid (RetJ E W0 w.heap.size p R' U (nb + 1) d true true w6) := Lib.hid (by have h := hj6; rw [hdn 2 (by decide), hdn 3 (by decide)] at h; exact h)
        clear hrr hj6 hdn
        simp only [putAll, Act.put, List.setIfInBounds_toArray, List.set_cons_zero, List.set_cons_succ]
        rw [e4]
        clear e4
        go_wp2_with fail
        try rw [Exit.noGoto_ret]
        refine bodyPost_ret (results_cell_cell_tmp rfl _ _ (w.heap.size + 1 + 1 + 1) (w.heap.size + 1 + 1 + 1 + 1) 53 85 (RA p R') (endA d) _ _ rfl HJ6.out.k2 rfl HJ6.out.k3 und_state rfl (by rw [RA_size]; exact info_state) und_ended rfl info_ended) rfl ?_
        exact HPOST.out _ _ _ _ _ (by rw [HRB.out, HG1.out]) HUP.out HJ6.out.rf.less (HB.out.trans HJ6.out.be)
    by_cases hd1 : 0 < d.why
    · have HG1 : Hid (G = ((abortB U sq.abort).1, { d with refused := (abortB U sq.abort).2 })) := Lib.hid (by rw [← HRF.out]; exact runF_hit (g := g) HHO.out hd1)
      obtain ⟨V, hV⟩ : ∃ V, (abortB U sq.abort).1 = V := ⟨_, rfl⟩
      obtain ⟨rf, hrf⟩ : ∃ r, (abortB U sq.abort).2 = r := ⟨_, rfl⟩
      have hVp : V.p = p := by rw [← hV, (abortB_keeps sq.abort U).1]; exact HUP.out
      rw [hV, hrf] at HG1
      have HAB : Hid (Calls Tryz.prog 106 #[.agg (plantA x p), .agg (RA p R'), .agg (seqA y sq)] wh fun e w' => ∃ R2, e = .returned (.tuple #[.agg (RA p R2), .int .i64 rf]) ∧ @RefAt (excB (excB E w.heap.size 5) nb 2) w' w'.heap.size R2 V ∧ Below wh.heap.size wh w') := Lib.hid (by
        have hsz := HS6.out.1.size
        have h := @refAborted_any (excB (excB E w.heap.size 5) nb 2) wh x R' U (by rw [HUP.out]; exact (HP.out wh HS6.out.1.below).mono (by omega)) HS6.out.2.2.2 HOKU.out y sq ((HQ.out wh HS6.out.1.below).mono (by omega))
        rw [HUP.out, RA_of HUP.out] at h
        refine h.mono ?_
        rintro e w' ⟨R2, h1, h2, h3⟩
        rw [hV] at h1 h2
        rw [hrf, RA_of hVp] at h1
        exact ⟨R2, h1, h2, h3⟩)
      have HVP := Lib.hid hVp
      have HKB6 := Lib.hid (HPB.out wh U HS6.out.1)
      simp only [plantA, RA, refA, seqA] at HAB
      clear hcs hV hrf hVp
      obtain ⟨y0, hy0⟩ : ∃ a, d.why = a := ⟨_, rfl⟩
      rw [hy0] at x0 hd0 hd1
      have HY0 := Lib.hid hy0
      clear hy0
      go_wp2_with (first
        | (refine wpLoadAt rfl 27 _ rfl w.heap.size 0 rfl (plantA x p) _ (fun j u hj => by rw [Nat.zero_add]; exact (HKB6.out.1.cell j).trans hj) und_plant rfl info_plant ?_)
        | (refine wpLoadAt rfl 53 _ rfl (w.heap.size + 1) 0 rfl (RA p R') _ (fun j u hj => by rw [Nat.zero_add]; exact (HKH.out.cell j).trans hj) und_state rfl info_state ?_)
        | (refine wpLoadAt rfl 43 _ rfl (w.heap.size + 1 + 1) 0 rfl (seqA y sq) _ (fun j u hj => by rw [Nat.zero_add]; exact (HKB6.out.2.1.cell j).trans hj) und_seqW rfl info_seqW ?_))
      refine HAB.out.mono ?_
      rintro e w7 ⟨R2, rfl, h1, h2⟩
      have HK7 := Lib.hid (HKH.out.below h2 HKH.out.lt)
      have HX7 := Lib.hid (HS6.out.2.2.1.below h2 HS6.out.2.2.1.lt)
      have HR7 := Lib.hid h1
      have HB7 := Lib.hid h2
      clear h1 h2 HAB HKB6 HKH x0
      go_upto_region 13 with (first
        | (refine wpStoreAt rfl rfl 53 _ _ rfl (w.heap.size + 1) 0 rfl (RA p R2) rfl 53 _ HK7.out (by rw [RA_size, RA_size]; omega) (RA_one _ _) info_state ?_; intro wi hki hoi; have HKI : Hid (Bk wi (w.heap.size + 1) 53 (RA p R2)) := Lib.hid (by rw [RA_spl] at hki; exact hki); have HOI := Lib.hid hoi; have HXI := Lib.hid (HX7.out.only hoi (by omega)); have xi := HXI.out.cell 3; have fi := HXI.out.free 3; simp [endA] at xi; clear hki hoi))
      have HS8 : Hid (StQ E W0 w.heap.size 5 (w.heap.size + 1) p Ex wi V) := Lib.hid (HS6.out.1.store HB7.out (@RefAt.less (excB E w.heap.size 5) _ _ _ _ _ _ HR7.out) HVP.out HKI.out HOI.out)
      have HXJ : Hid (Bk (wi.setCell ⟨nb + 1, 3, none⟩ (.int .i64 rf)) (nb + 1) 85 (endA { d with refused := rf })) := Lib.hid (HXI.out.set 3 (.int .i64 rf))
      have HRJ : Hid (RetJ E W0 w.heap.size p R2 V (nb + 1) { d with refused := rf } false false (wi.setCell ⟨nb + 1, 3, none⟩ (.int .i64 rf))) := Lib.hid (by
        have hsz := HS8.out.size
        have hob := Only.setCell wi (nb + 1) 3 (.int .i64 rf)
        have hb8 := HPB.out wi V HS8.out
        have hri : @RefAt (excB (excB E w.heap.size 5) nb 2) wi wi.heap.size R2 V := @RefAt.stayE (excB (excB E w.heap.size 5) nb 2) _ _ _ _ _ HR7.out HOI.out (Or.inl (Or.inr ⟨by omega, by omega⟩))
        have hrj := @RefAt.stayE (excB (excB E w.heap.size 5) nb 2) _ _ _ _ _ hri hob (Or.inr ⟨by omega, by omega⟩)
        exact ⟨HKI.out.only hob (by omega), HXJ.out, hb8.2.2.1.only hob (by omega), hb8.2.2.2.only hob (by omega), hrj.less, HS8.out.below.trans (hob.below (by omega)), by omega⟩)
      obtain ⟨wj, hwj⟩ : ∃ wj, wi.setCell ⟨nb + 1, 3, none⟩ (.int .i64 rf) = wj := ⟨_, rfl⟩
      rw [hwj] at HRJ ⊢
      obtain ⟨d', hd'⟩ : ∃ d', ({ d with refused := rf } : EndD) = d' := ⟨_, rfl⟩
      rw [hd'] at HRJ HG1
      clear hwj hd' xi fi HXJ HXI HOI HKI HS8 HK7 HX7 HR7 HB7
      go_wp2_with fail
      refine wp_region_stepsJ (by kernel_rfl) (by kernel_rfl) (fun dn _ w1 => RetJ E W0 w.heap.size p R2 V (nb + 1) d' (dn 2) (dn 3) w1) (fun _ _ _ => True)
        (fun ix u _ _ => match ix with
          | 0 => u = .agg (RA p R2)
          | 1 => u = .agg (endA d')
          | 2 => True
          | 3 => True
          | _ => u = .int .i64 0) (fun _ => HRJ.out.drew) (fun _ _ _ _ _ _ _ _ h _ => h) ?_ ?_
      · refine ⟨?_, ?_, ?_, ?_, ?_, trivial⟩
        · intro a w1 vs K dn Hd Hb HJ HK HD HN kk
          have e5 := HK 5 (by decide)
          exact wpo_loadS 53 (.tmp 5) rfl (w.heap.size + 1) 0 (by simpa [Act.eval] using e5) (RA p R2) _ (fun j u hj => by rw [Nat.zero_add]; exact (HJ.ks.cell j).trans hj) und_state rfl info_state (kk _ _ (by simp) HJ trivial rfl)
        · intro a w1 vs K dn Hd Hb HJ HK HD HN kk
          have e15 := HK 15 (by decide)
          exact wpo_loadS 85 (.tmp 15) rfl (nb + 1) 0 (by simpa [Act.eval] using e15) (endA d') _ (fun j u hj => by rw [Nat.zero_add]; exact (HJ.kx.cell j).trans hj) und_ended rfl info_ended (kk _ _ (by simp) HJ trivial rfl)
        · intro a w1 vs K dn Hd Hb HJ HK HD HN kk
          have e8 := HK 8 (by decide)
          have e63 := (HD 0 _ 63 rfl rfl rfl).1.trans (HD 0 _ 63 rfl rfl rfl).2
          obtain ⟨cs, c1, c2⟩ := HJ.k2s
          exact wpo_storeS 53 (.tmp 8) (.tmp 63) rfl rfl (w.heap.size + 1 + 1 + 1) 0 (by simpa [Act.eval] using e8) (RA p R2) (by simpa [Act.eval] using e63) 53 cs c1 (by rw [c2, RA_size]; show 0 + 9 ≤ 9; omega) (RA_one _ _) info_state fun w2 hk2 ho2 => kk undef _ (by simp) (by have h := HJ.st2 ho2 (by rw [splA_all _ _ (by rw [RA_size, c2])] at hk2; exact hk2); simpa [updB] using h) trivial trivial
        · intro a w1 vs K dn Hd Hb HJ HK HD HN kk
          have e9 := HK 9 (by decide)
          have e64 := (HD 1 _ 64 rfl rfl rfl).1.trans (HD 1 _ 64 rfl rfl rfl).2
          obtain ⟨cs, c1, c2⟩ := HJ.k3s
          exact wpo_storeS 85 (.tmp 9) (.tmp 64) rfl rfl (w.heap.size + 1 + 1 + 1 + 1) 0 (by simpa [Act.eval] using e9) (endA d') (by simpa [Act.eval] using e64) 85 cs c1 (by rw [c2]; show 0 + 4 ≤ 4; omega) (endA_one _) info_ended fun w2 hk2 ho2 => kk undef _ (by simp) (by have h := HJ.st3 ho2 (by rw [splA_all _ _ (by rw [c2]; rfl)] at hk2; exact hk2); simpa [updB] using h) trivial trivial
        · intro a w1 vs K dn Hd Hb HJ HK HD HN kk
          go_simp; exact kk _ _ (by simp) HJ trivial rfl
      · intro vs dn w6 hdn hj6 hrr
        have e4 : vs 4 = .int .i64 0 := (hrr 4 _ rfl)
        have HJ6 : Hid (RetJ E W0 w.heap.size p R2 V (nb + 1) d' true true w6) := Lib.hid (by have h := hj6; rw [hdn 2 (by decide), hdn 3 (by decide)] at h; exact h)
        clear hrr hj6 hdn
        simp only [putAll, Act.put, List.setIfInBounds_toArray, List.set_cons_zero, List.set_cons_succ]
        rw [e4]
        clear e4
        go_wp2_with fail
        try rw [Exit.noGoto_ret]
        refine bodyPost_ret (results_cell_cell_tmp rfl _ _ (w.heap.size + 1 + 1 + 1) (w.heap.size + 1 + 1 + 1 + 1) 53 85 (RA p R2) (endA d') _ _ rfl HJ6.out.k2 rfl HJ6.out.k3 und_state rfl (by rw [RA_size]; exact info_state) und_ended rfl info_ended) rfl ?_
        exact HPOST.out _ _ _ _ _ (by rw [HRB.out, HG1.out]) HVP.out HJ6.out.rf.less (HB.out.trans HJ6.out.be)
    · have hmr : moreF sq t = true := by
        rcases hcs with h | h | h
        · exact h.2
        · exact absurd h.1 hd0
        · omega
      obtain ⟨k2, hk2, hk3⟩ := moreF_iff2 hmr
      have hk4 := (steps_at HV1.out hk2).2
      have HRF2 : Hid (runF sq l g ((t + 1 : Nat) : Int) U D = G) := Lib.hid (by
        have e3 := runF_on (g := g) HHO.out (by omega)
        rw [HRF.out] at e3
        exact e3.symm)
      have hg2 : 1 ≤ g := by omega
      have ht9 : t < 10000 := by omega
      have HSZ : Hid (StQ E W0 w.heap.size 5 (w.heap.size + 1) p Ex wh U ∧ @SlO (excB E w.heap.size 5) wh (· < wh.heap.size) A2 n (cntF D) ∧ SysOk U ∧ runF sq l g ((t + 1 : Nat) : Int) U D = G ∧ ∀ k, 0 ≤ D k ∧ D k ≤ ((t + 1 : Nat) : Int)) := Lib.hid ⟨HS6.out.1, HS6.out.2.1, HOKU.out, HRF2.out, HCR.out⟩
      obtain ⟨y0, hy0⟩ : ∃ a, d.why = a := ⟨_, rfl⟩
      rw [hy0] at x0 hd0 hd1
      clear hmr hk2 hk3 hk4 hcs hy0 HKH HS6 HRF2
      go_wp2_with fail
      go_roundg g
      case measure => omega
      case rel => exact ⟨t + 1, U, D, A2, c2, by omega, hg2, by go_num, rfl, HSZ⟩
end Go.Proofs.YtogobjmmgjfjjaaGreat
/- What is proved: the law EngineRuns answers true. Conditions: the plant, the acts and the test lie in memory. -/
namespace Go.Proofs.YtogobjmmgjfjjaaGreat
open Go.RowKit

theorem runF_keeps (q : SeqD) (l : List DisD) : ∀ (g : Nat) (tick : Int) (S : Sys) (c : Nat → Int), Keeps S (runF q l g tick S c).1 := by
  intro g
  induction g with
  | zero => intro tick S c; exact Keeps.refl _
  | succ g ih =>
    intro tick S c
    have hk := onceB_keeps q l tick S c
    rw [runF_succ]
    split
    · exact hk
    · split
      · exact hk.trans (abortB_keeps _ _)
      · exact hk.trans (ih _ _ _)
theorem runB_keeps (S : Sys) (q : SeqD) (l : List DisD) : Keeps S (runB S q l).1 := by
  unfold runB
  split
  · exact runF_keeps _ _ _ _ _ _
  · exact Keeps.refl _

theorem Side.store2 {W wr w1 wg : World} {X : SX} {sx : Nat} {p : PlantD} {S T T' : Sys} {R' : RX} (h : Side W X sx p wr S T) (hb : Below wr.heap.size wr w1) (hr : @RefAt X.exc w1 w1.heap.size R' T') (hp : T'.p = T.p) (hk : Bk wg sx 53 (SysA R' T')) (hbl : Below W.heap.size w1 wg) (hkeep : ∀ b, b ≠ sx → b < w1.heap.size → wg.heap[b]? = w1.heap[b]?) : Side W X sx p wg S T' := by
  letI : Exc := X.exc
  have h1 := h.later hb
  obtain ⟨R, g1, g2⟩ := h1.st
  have u2 := h.hi
  have hlt := g1.lt
  have hr2 : RefB w1 sx (sx + 1) R' T' := RefAt.refB (lo := sx) (q := 1) hr (show X.hi ≤ sx + 1 by omega) fun b' q1 q2 j u hu => by
    obtain rfl : b' = sx := by omega
    rw [g1.cell] at hu; exact refA_slices _ _ _ _ _ _ hu
  refine ⟨h1.sys.keep (fun b _ hh => hkeep b (by omega) (by omega)) hbl.size, ⟨R', hk, hr2.1, fun k hk' => SlO.mono (SlO.keep (hr2.2 k hk') (fun b hb' => hkeep b (by omega) hb'.2) hbl.size) fun b hb' => ⟨hb'.1, Nat.lt_of_lt_of_le hb'.2 hbl.size⟩⟩, h1.below.trans hbl, h.hp, hp.trans h.tp, h.lo, h.hi⟩

set_option maxRecDepth 100000 in
set_option maxHeartbeats 16000000 in
theorem runs_any (w : World) (x : PV) (p : PlantD) (hp : PlantAt w w.heap.size x p) (A : Option Addr) (c : Nat) (l : List ActD) (hl : ActsAt w w.heap.size A l) (y : QV) (q : SeqD) (hq : SeqAt w w.heap.size y q) (A2 : Option Addr) (c2 : Nat) (l2 : List DisD) (hl2 : DisAt w w.heap.size A2 l2) :
    Calls Tryz.prog 11 #[.agg (plantA x p), .slice A l.length c, .agg (testA y q A2 l2.length c2)] w fun e w' => e = .returned (.bool true) ∧ Below w.heap.size w w' := by
  obtain ⟨W, hW⟩ : ∃ W, W = (w.alloc (.cells (plantA x p) 27)).alloc (.cells (testA y q A2 l2.length c2) 83) := ⟨_, rfl⟩
  have hbW : Below w.heap.size w W := by rw [hW]; exact ((Below.refl _ _).alloc (Nat.le_refl _) _).alloc (by simp) _
  have hb0 : Bk W w.heap.size 27 (plantA x p) := by rw [hW]; exact (Bk.new _ _ _).alloc _
  have hb1 : Bk W (w.heap.size + 1) 83 (testA y q A2 l2.length c2) := by rw [hW]; exact Bk.newAt _ _ _ _ (by simp)
  have HC : Hid (∀ wx, Below W.heap.size W wx → Bk wx w.heap.size 27 (plantA x p)) := Lib.hid fun wx hx => hb0.below hx hb0.lt
  have HC4 : Hid (∀ wx, Below W.heap.size W wx → (wx.cell? ⟨w.heap.size, 0, none⟩ = some (.slice x.tA p.tanks.length x.tc) ∧ wx.cell? ⟨w.heap.size, 1, none⟩ = some (.slice x.vA p.valves.length x.vc) ∧
      wx.cell? ⟨w.heap.size, 2, none⟩ = some (.slice x.lA p.lines.length x.lc) ∧ wx.cell? ⟨w.heap.size, 3, none⟩ = some (.slice x.nA p.never.length x.nc)) ∧
      wx.cell? ⟨w.heap.size + 1, 0, none⟩ = some (.slice y.sA q.steps.length y.sc) ∧ wx.cell? ⟨w.heap.size + 1, 1, none⟩ = some (.slice y.rA q.reds.length y.rc) ∧ wx.cell? ⟨w.heap.size + 1, 2, none⟩ = some (.slice y.aA q.abort.length y.ac) ∧ wx.cell? ⟨w.heap.size + 1, 3, none⟩ = some (.slice A2 l2.length c2)) := Lib.hid fun wx hx =>
    have h0 := HC.out wx hx
    have h1 := hb1.below hx hb1.lt
    ⟨⟨h0.cell 0, h0.cell 1, h0.cell 2, h0.cell 3⟩, h1.cell 0, h1.cell 1, h1.cell 2, h1.cell 3⟩
  have HP : Hid (∀ wx, Below W.heap.size W wx → PlantAt wx wx.heap.size x p) := Lib.hid fun wx hx => ((hp.below hbW).below (hx.mono hbW.size)).mono (Nat.le_trans hbW.size hx.size)
  have HL : Hid (∀ wx, Below W.heap.size W wx → ActsAt wx wx.heap.size A l) := Lib.hid fun wx hx => Sl.mono (Sl.below (Sl.below hl hbW) (hx.mono hbW.size)) (Nat.le_trans hbW.size hx.size)
  have HQ : Hid (∀ wx, Below W.heap.size W wx → SeqAt wx wx.heap.size y q) := Lib.hid fun wx hx => ((hq.below hbW).below (hx.mono hbW.size)).mono (Nat.le_trans hbW.size hx.size)
  have HL2 : Hid (∀ wx, Below W.heap.size W wx → DisAt wx wx.heap.size A2 l2) := Lib.hid fun wx hx => Sl.mono (Sl.below (Sl.below hl2 hbW) (hx.mono hbW.size)) (Nat.le_trans hbW.size hx.size)
  have HB := Lib.hid hbW
  have HW := Lib.hid hW
  have HA := Lib.hid awake_any
  have HWs := Lib.hid hbW.size
  simp only [plantA, testA] at HW
  clear hp hl hq hl2 hbW hb0 hb1 hW
  have HG := Lib.hid fun wx hx => great_any wx x p (HP.out wx hx)
  have HLO := Lib.hid fun wx hx => long_any wx y q (HQ.out wx hx)
  have HN := Lib.hid fun wx hx => new_any wx x p (HP.out wx hx)
  have HRP := Lib.hid fun wx hx => refCheckPlant_any wx x p (HP.out wx hx)
  simp only [plantA, seqA] at HG HN HRP HLO
  have END : Hid (∀ wx, Below W.heap.size W wx → Calls Tryz.prog 14 #[] wx fun e w' => e = .returned (.bool true) ∧ Below W.heap.size W w') := Lib.hid fun wx hx =>
    (HA.out wx).mono fun e w' ⟨he, hb⟩ => ⟨he, hx.trans (hb.mono hx.size)⟩
  dsimp only [plantA, testA]
  obtain ⟨n, hn⟩ : ∃ n, l.length = n := ⟨_, rfl⟩
  rw [hn]
  have HNL := Lib.hid hn
  clear hn
  obtain ⟨⟨c0, c1, c2, c3⟩, t0, t1, t2, t3⟩ := HC4.out W (Below.refl _ _)
  go_enter Tryz.func11, Tryz.ntmps11
  go_wp2_with fail
  rw [← HW.out]
  refine (HN.out W (Below.refl _ _)).mono ?_
  rintro e w1 ⟨hb1, hnew⟩
  have HB1 : Hid (Below W.heap.size W w1) := Lib.hid hb1
  have FIN : Hid (∀ wx, Below W.heap.size W wx → Below w.heap.size w wx) := Lib.hid fun wx hx => HB.out.trans (hx.mono HB.out.size)
  clear hb1 c0 c1 c2 c3 t0 t1 t2 t3
  by_cases hpb : plantB p = true
  case neg =>
    have hpb' : plantB p = false := by simpa using hpb
    rw [if_neg hpb] at hnew
    subst hnew
    have HPB := Lib.hid hpb'
    clear hpb hpb'
    obtain ⟨⟨c0, c1, c2, c3⟩, t0, t1, t2, t3⟩ := HC4.out w1 HB1.out
    go_wp2_with fail
    refine (HG.out w1 HB1.out).mono ?_
    rintro e w2 ⟨b1, rfl, _, hb2⟩
    have HB2 : Hid (Below W.heap.size W w2) := Lib.hid (HB1.out.trans (hb2.mono HB1.out.size))
    clear hb2 c0 c1 c2 c3 t0 t1 t2 t3
    cases b1 with
    | true =>
      go_wp2_with fail
      refine (END.out w2 HB2.out).mono ?_
      rintro e wz ⟨rfl, hbz⟩
      go_wp2_with fail
      go_ret
      exact ⟨rfl, FIN.out _ hbz⟩
    | false =>
    obtain ⟨⟨c0, c1, c2, c3⟩, t0, t1, t2, t3⟩ := HC4.out w2 HB2.out
    go_wp2_with fail
    refine (HLO.out w2 HB2.out).mono ?_
    rintro e w3 ⟨b2, rfl, hb3⟩
    have HB3 : Hid (Below W.heap.size W w3) := Lib.hid (HB2.out.trans (hb3.mono HB2.out.size))
    clear hb3 c0 c1 c2 c3 t0 t1 t2 t3
    obtain ⟨⟨c0, c1, c2, c3⟩, t0, t1, t2, t3⟩ := HC4.out w3 HB3.out
    cases b2 with
    | true =>
      go_wp2_with fail
      refine (END.out w3 HB3.out).mono ?_
      rintro e wz ⟨rfl, hbz⟩
      go_wp2_with fail
      go_ret
      exact ⟨rfl, FIN.out _ hbz⟩
    | false =>
    by_cases h30 : (30 : Int) < (n : Int)
    · skip
      go_wp2_with fail
      refine (END.out w3 HB3.out).mono ?_
      rintro e wz ⟨rfl, hbz⟩
      go_wp2_with fail
      go_ret
      exact ⟨rfl, FIN.out _ hbz⟩
    by_cases h70 : (70 : Int) < (l2.length : Int)
    · skip
      go_wp2_with fail
      refine (END.out w3 HB3.out).mono ?_
      rintro e wz ⟨rfl, hbz⟩
      go_wp2_with fail
      go_ret
      exact ⟨rfl, FIN.out _ hbz⟩
    go_wp2_with fail
    have cc := HRP.out w3 HB3.out
    rw [HPB.out] at cc
    refine cc.mono ?_
    rintro e w4 ⟨rfl, hb4⟩
    have HB4 : Hid (Below W.heap.size W w4) := Lib.hid (HB3.out.trans (hb4.mono HB3.out.size))
    clear hb4 cc c0 c1 c2 c3 t0 t1 t2 t3
    go_wp2_with fail
    refine (END.out w4 HB4.out).mono ?_
    rintro e wz ⟨rfl, hbz⟩
    go_wp2_with fail
    go_ret
    exact ⟨rfl, FIN.out _ hbz⟩
  case pos =>
    rw [if_pos hpb] at hnew
    obtain ⟨X, rfl, hsys, hlo⟩ := hnew
    letI : Exc := X.exc
    have HSY := Lib.hid hsys
    have HLOX := Lib.hid (show W.heap.size ≤ X.lo from hlo)
    have HPB := Lib.hid hpb
    clear hpb hsys hlo
    obtain ⟨⟨c0, c1, c2, c3⟩, t0, t1, t2, t3⟩ := HC4.out w1 HB1.out
    go_wp2_with fail
    refine (HG.out w1 HB1.out).mono ?_
    rintro e w2 ⟨b1, rfl, _, hb2⟩
    have HB2 : Hid (Below W.heap.size W w2) := Lib.hid (HB1.out.trans (hb2.mono HB1.out.size))
    have HS2 := Lib.hid (HSY.out.below hb2)
    clear hb2 c0 c1 c2 c3 t0 t1 t2 t3
    cases b1 with
    | true =>
      go_wp2_with fail
      refine (END.out w2 HB2.out).mono ?_
      rintro e wz ⟨rfl, hbz⟩
      go_wp2_with fail
      go_ret
      exact ⟨rfl, FIN.out _ hbz⟩
    | false =>
    obtain ⟨⟨c0, c1, c2, c3⟩, t0, t1, t2, t3⟩ := HC4.out w2 HB2.out
    go_wp2_with fail
    refine (HLO.out w2 HB2.out).mono ?_
    rintro e w3 ⟨b2, rfl, hb3⟩
    have HB3 : Hid (Below W.heap.size W w3) := Lib.hid (HB2.out.trans (hb3.mono HB2.out.size))
    have HS3 := Lib.hid (HS2.out.below hb3)
    clear hb3 c0 c1 c2 c3 t0 t1 t2 t3
    obtain ⟨⟨c0, c1, c2, c3⟩, t0, t1, t2, t3⟩ := HC4.out w3 HB3.out
    cases b2 with
    | true =>
      go_wp2_with fail
      refine (END.out w3 HB3.out).mono ?_
      rintro e wz ⟨rfl, hbz⟩
      go_wp2_with fail
      go_ret
      exact ⟨rfl, FIN.out _ hbz⟩
    | false =>
    by_cases h30 : (30 : Int) < (n : Int)
    · skip
      go_wp2_with fail
      refine (END.out w3 HB3.out).mono ?_
      rintro e wz ⟨rfl, hbz⟩
      go_wp2_with fail
      go_ret
      exact ⟨rfl, FIN.out _ hbz⟩
    by_cases h70 : (70 : Int) < (l2.length : Int)
    · skip
      go_wp2_with fail
      refine (END.out w3 HB3.out).mono ?_
      rintro e wz ⟨rfl, hbz⟩
      go_wp2_with fail
      go_ret
      exact ⟨rfl, FIN.out _ hbz⟩
    go_wp2_with fail
    have cc := HRP.out w3 HB3.out
    rw [HPB.out] at cc
    refine cc.mono ?_
    rintro e w4 ⟨rfl, hb4⟩
    have HB4 : Hid (Below W.heap.size W w4) := Lib.hid (HB3.out.trans (hb4.mono HB3.out.size))
    have HS4 := Lib.hid (HS3.out.below hb4)
    clear hb4 cc c0 c1 c2 c3 t0 t1 t2 t3
    obtain ⟨⟨c0, c1, c2, c3⟩, _⟩ := HC4.out w4 HB4.out
    have cb := refBegin_any w4 x p (HP.out w4 HB4.out) (short_of HPB.out) HS4.out.hi.2.2.2.2
    simp only [plantA] at cb
    have HCB := Lib.hid cb
    clear cb
    go_wp2_with fail
    refine HCB.out.mono ?_
    rintro e w5 ⟨R, rfl, hr5, hb5⟩
    have HB5 : Hid (Below W.heap.size W w5) := Lib.hid (HB4.out.trans (hb5.mono HB4.out.size))
    have HS5 := Lib.hid (HS4.out.below hb5)
    have HR5 := Lib.hid hr5
    have HBk := Lib.hid (Bk.new w5 53 (refA nilR 0 0 0))
    clear hb5 hr5 c0 c1 c2 c3 HCB
    go_wp2_with (refine wpStoreAt rfl rfl 53 _ _ rfl w5.heap.size 0 rfl (SysA R (startB p)) rfl 53 _ HBk.out (by show 0 + 9 ≤ 9; omega) (refA_one _ _ _ _) info_state ?_; intro wf hkf hof)
    have HSD0 : Hid (Side W X w5.heap.size p wf (startB p) (startB p)) := Lib.hid (Side.start (R0 := nilR) (a := 0) (b := 0) (c := 0) HS5.out HLOX.out HB5.out HR5.out rfl rfl rfl (by rw [splA_all _ _ (by rw [refA_size, refA_size])] at hkf; exact hkf) hof)
    obtain ⟨sx, hsx⟩ : ∃ sx, w5.heap.size = sx := ⟨_, rfl⟩
    rw [hsx] at HSD0 ⊢
    clear hkf hof HBk hsx HR5 HS5 HS4 HS3 HS2 HSY
    go_wp2_with fail
    go_loopw [10] (fun i wr => ∃ (k : Nat) (St : Sys), k ≤ n ∧ i = .int .i64 k ∧ Hid (Side W X sx p wr St St)) (fun i _ => n - (intOf i).toNat)
    case atStart => exact ⟨0, startB p, Nat.zero_le _, rfl, HSD0⟩
    case round =>
      obtain ⟨k, St, hk, rfl, hsd⟩ := hrel
      by_cases hlt : k < n
      · have hki : (k : Int) < (n : Int) := by omega
        have hlt' : k < l.length := by rw [HNL.out]; exact hlt
        obtain ⟨b, off, rfl, hB, d0, d1, d2, d3⟩ := (HL.out wr hsd.out.below).at4 hlt'
        obtain ⟨⟨what, a1, a2, a3⟩, hact⟩ : ∃ act, l.getD k act0 = act := ⟨_, rfl⟩
        rw [hact] at d0 d1 d2 d3
        simp only [actC] at d0 d1 d2 d3
        have HACTN := Lib.hid hact
        obtain ⟨E, hE⟩ : ∃ E, (doesB St what a1 a2 a3).1 = E := ⟨_, rfl⟩
        obtain ⟨T, hT⟩ : ∃ T, (doesB St what a1 a2 a3).2 = T := ⟨_, rfl⟩
        have hTp : T.p = p := by rw [← hT, doesB_p]; exact hsd.out.tp
        have HTP := Lib.hid hTp
        have HE := Lib.hid hE
        have HT := Lib.hid hT
        have HAC : Hid (∀ z, Below W.heap.size W z → z.cell? ⟨b, off + k * 4, none⟩ = some (.int .i64 what) ∧ z.cell? ⟨b, off + k * 4 + 1, none⟩ = some (.int .i64 a1) ∧ z.cell? ⟨b, off + k * 4 + 2, none⟩ = some (.int .i64 a2) ∧ z.cell? ⟨b, off + k * 4 + 3, none⟩ = some (.int .i64 a3)) := Lib.hid fun z hz => by
          obtain ⟨b', off', hA', _, g0, g1, g2, g3⟩ := (HL.out z hz).at4 hlt'
          rw [HACTN.out] at g0 g1 g2 g3
          simp only [actC] at g0 g1 g2 g3
          obtain ⟨rfl, rfl⟩ : b = b' ∧ off = off' := by simpa using hA'
          exact ⟨g0, g1, g2, g3⟩
        clear hact hE hT hTp
        go_wp2_with fail
        refine (does_any wr X St hsd.out.sys what a1 a2 a3).mono ?_
        rintro e w8 ⟨rfl, hs8, hc8⟩
        rw [HT.out] at hs8
        rw [HE.out]
        have HSD8 : Hid (Side W X sx p w8 T St) := Lib.hid (hsd.out.does hs8 hc8 (HTP.out.trans hsd.out.hp.symm))
        clear hs8 hc8 d0 d1 d2 d3 hB
        obtain ⟨R, hk1, hk2⟩ := HSD8.out.st
        have htp := HSD8.out.tp
        have hsz := HSD8.out.below.size
        have HPK : Hid (∀ z, Below w8.heap.size w8 z → Bk z w.heap.size 27 (plantA x p)) := Lib.hid fun z hz => HC.out z (HSD8.out.below.trans (hz.mono hsz))
        have HBSX : Hid (∀ z, Below w8.heap.size w8 z → Bk z sx 53 (RA p R)) := Lib.hid fun z hz => by
          rw [← RA_of htp]; exact hk1.below hz hk1.lt
        have HACT : Hid (∀ z, Below w8.heap.size w8 z → ∀ j u, (#[.int .i64 what, .int .i64 a1, .int .i64 a2, .int .i64 a3] : Array Value)[j]? = some u → z.cell? ⟨b, off + k * 4 + j, none⟩ = some u) := Lib.hid fun z hz j u hj => by
          obtain ⟨g0, g1, g2, g3⟩ := HAC.out z (HSD8.out.below.trans (hz.mono hsz))
          match j, hj with
          | 0, hj => simp at hj; subst hj; exact g0
          | 1, hj => simp at hj; subst hj; exact g1
          | 2, hj => simp at hj; subst hj; exact g2
          | 3, hj => simp at hj; subst hj; exact g3
          | j + 4, hj => simp at hj
        have HDUE : Hid (∀ z, Below w8.heap.size w8 z → Calls Tryz.prog 25 #[.agg (plantA x p), .agg (RA p R), .agg #[.int .i64 what, .int .i64 a1, .int .i64 a2, .int .i64 a3]] z
            fun e w' => ∃ R', e = .returned (.tuple #[.agg (RA p R'), .int .i64 E]) ∧ @RefAt X.exc w' w'.heap.size R' T ∧ Below z.heap.size z w') := Lib.hid fun z hz => by
          have h := due_any z x R St (by rw [htp]; exact HP.out z (HSD8.out.below.trans (hz.mono hsz))) (((RefB.at_ hk2).below hz).mono hz.size) hsd.out.sys.ok what a1 a2 a3
          rw [show plantA x St.p = plantA x p from by rw [htp], RA_of htp, HE.out, HT.out] at h
          refine h.mono ?_
          rintro e w' ⟨R', rfl, h1, h2⟩
          exact ⟨R', by rw [RA_of HTP.out], h1, h2⟩
        have HST7 : Hid (∀ w1, Below w8.heap.size w8 w1 → ∀ R', @RefAt X.exc w1 w1.heap.size R' T → ∀ w2, Bk w2 sx 53 (RA p R') → Only sx w1 w2 → Side W X sx p w2 T T) := Lib.hid fun w1 h1 R' hr w2 h2 h3 =>
          Side.store HSD8.out h1 hr (HTP.out.trans HSD8.out.tp.symm) (by rw [RA_of HTP.out]; exact h2) h3
        clear hk1 hk2 htp hsz
        go_wp2_with fail
        refine wp_region_stepsM (by kernel_rfl) (by kernel_rfl) 10 (by decide) (fun bq w1 => if bq = true then Side W X sx p w1 T T else Below w8.heap.size w8 w1) (SideE X T 10)
          (fun ix u d w1 => (match ix with
            | 0 => u = .agg (plantA x p)
            | 1 => u = .agg (RA p R)
            | 2 => u = .slice (some ⟨b, off, none⟩) n c
            | 3 => u = .int .i64 k
            | 4 => u = .pointer (some ⟨b, off + k * 4, none⟩)
            | 5 => u = .agg #[.int .i64 what, .int .i64 a1, .int .i64 a2, .int .i64 a3]
            | 6 => True
            | 7 => True
            | 8 => True
            | 9 => True
            | _ => True) ∧ SideR2 X p E T ix u w1) (Below.refl _ _).drew (fun i j _ _ u d w1 w2 ⟨hr1, hr2⟩ he => ⟨hr1, hr2.keep he⟩) ?_ ?_
        · refine ⟨?_, ?_, ?_, ?_, ?_, ?_, ?_, ?_, ?_, ?_, ?_, trivial⟩
          · intro a w1 vs K bq Hb HJ HK HD HN kk
            obtain rfl : bq = false := by cases bq with | false => rfl | true => exact absurd (Hb rfl).2 (by decide)
            have HJ' : Below w8.heap.size w8 w1 := HJ
            have e3 := HK 3 (by decide)
            exact wpo_loadS 27 (.tmp 3) rfl w.heap.size 0 (by simpa [Act.eval] using e3) (plantA x p) _ (fun j u hj => by rw [Nat.zero_add]; exact ((HPK.out w1 HJ').cell j).trans hj) und_plant rfl info_plant (kk _ _ (by simp) HJ (SideE.same2 _ (by omega)) ⟨rfl, ⟨fun e => by omega, fun e => by omega⟩⟩)
          · intro a w1 vs K bq Hb HJ HK HD HN kk
            obtain rfl : bq = false := by cases bq with | false => rfl | true => exact absurd (Hb rfl).2 (by decide)
            have HJ' : Below w8.heap.size w8 w1 := HJ
            have e9 := HK 9 (by decide)
            exact wpo_loadS 53 (.tmp 9) rfl sx 0 (by simpa [Act.eval] using e9) (RA p R) _ (fun j u hj => by rw [Nat.zero_add]; exact ((HBSX.out w1 HJ').cell j).trans hj) und_state rfl info_state (kk _ _ (by simp) HJ (SideE.same2 _ (by omega)) ⟨rfl, ⟨fun e => by omega, fun e => by omega⟩⟩)
          · intro a w1 vs K bq Hb HJ HK HD HN kk
            obtain rfl : bq = false := by cases bq with | false => rfl | true => exact absurd (Hb rfl).2 (by decide)
            have HJ' : Below w8.heap.size w8 w1 := HJ
            have e1 := HK 1 (by decide)
            go_simp; exact kk _ _ (by simp) HJ (SideE.same2 _ (by omega)) ⟨rfl, ⟨fun e => by omega, fun e => by omega⟩⟩
          · intro a w1 vs K bq Hb HJ HK HD HN kk
            obtain rfl : bq = false := by cases bq with | false => rfl | true => exact absurd (Hb rfl).2 (by decide)
            have HJ' : Below w8.heap.size w8 w1 := HJ
            have e10 := HK 10 (by decide)
            go_simp; exact kk _ _ (by simp) HJ (SideE.same2 _ (by omega)) ⟨rfl, ⟨fun e => by omega, fun e => by omega⟩⟩
          · intro a w1 vs K bq Hb HJ HK HD HN kk
            obtain rfl : bq = false := by cases bq with | false => rfl | true => exact absurd (Hb rfl).2 (by decide)
            have HJ' : Below w8.heap.size w8 w1 := HJ
            have e67 := (HD 2 _ 67 rfl rfl rfl).1.trans (HD 2 _ 67 rfl rfl rfl).2.1
            have e68 := (HD 3 _ 68 rfl rfl rfl).1.trans (HD 3 _ 68 rfl rfl rfl).2.1
            go_simp; exact kk _ _ (by simp) HJ (SideE.same2 _ (by omega)) ⟨rfl, ⟨fun e => by omega, fun e => by omega⟩⟩
          · intro a w1 vs K bq Hb HJ HK HD HN kk
            obtain rfl : bq = false := by cases bq with | false => rfl | true => exact absurd (Hb rfl).2 (by decide)
            have HJ' : Below w8.heap.size w8 w1 := HJ
            have e69 := (HD 4 _ 69 rfl rfl rfl).1.trans (HD 4 _ 69 rfl rfl rfl).2.1
            exact wpo_loadS 57 (.tmp 69) rfl b (off + k * 4) (by simpa [Act.eval] using e69) #[.int .i64 what, .int .i64 a1, .int .i64 a2, .int .i64 a3] _ (HACT.out w1 HJ') und_actS rfl info_act (kk _ _ (by simp) HJ (SideE.same2 _ (by omega)) ⟨rfl, ⟨fun e => by omega, fun e => by omega⟩⟩)
          · intro a w1 vs K bq Hb HJ HK HD HN kk
            obtain rfl : bq = false := by cases bq with | false => rfl | true => exact absurd (Hb rfl).2 (by decide)
            have HJ' : Below w8.heap.size w8 w1 := HJ
            have e65 := (HD 0 _ 65 rfl rfl rfl).1.trans (HD 0 _ 65 rfl rfl rfl).2.1
            have e66 := (HD 1 _ 66 rfl rfl rfl).1.trans (HD 1 _ 66 rfl rfl rfl).2.1
            have e70 := (HD 5 _ 70 rfl rfl rfl).1.trans (HD 5 _ 70 rfl rfl rfl).2.1
            exact wpo_call 25 _ _ rfl #[.agg (plantA x p), .agg (RA p R), .agg #[.int .i64 what, .int .i64 a1, .int .i64 a2, .int .i64 a3]] (by simp [Act.eval, e65, e66, e70]) (fun args w => by kernel_rfl)
              ((HDUE.out w1 HJ').mono fun e w' ⟨R', he, hr, hb⟩ => ⟨_, he, kk _ _ (by simp) (HJ'.trans (hb.mono HJ'.size)) (SideE.below2 (by omega) hb) ⟨trivial, ⟨fun _ => ⟨R', rfl, hr⟩, fun e => by omega⟩⟩⟩)
          · intro a w1 vs K bq Hb HJ HK HD HN kk
            obtain rfl : bq = false := by cases bq with | false => rfl | true => exact absurd (Hb rfl).2 (by decide)
            have HJ' : Below w8.heap.size w8 w1 := HJ
            obtain ⟨q6, r6⟩ := HD 6 _ 71 rfl rfl rfl
            obtain ⟨R', x1, x2⟩ := r6.2.1 (Or.inl rfl)
            exact wpo_move (.tmp 71) _ (Or.inl rfl) (by simpa [Act.eval] using q6.trans x1) (kk _ _ (by simp) HJ' (SideE.same2 _ (by omega)) ⟨trivial, ⟨fun _ => ⟨_, rfl, x2⟩, fun e => by omega⟩⟩)
          · intro a w1 vs K bq Hb HJ HK HD HN kk
            obtain rfl : bq = false := by cases bq with | false => rfl | true => exact absurd (Hb rfl).2 (by decide)
            have HJ' : Below w8.heap.size w8 w1 := HJ
            obtain ⟨q7, r7⟩ := HD 7 _ 64 rfl rfl rfl
            obtain ⟨R', x1, x2⟩ := r7.2.1 (Or.inr rfl)
            have e64 := q7.trans x1
            clear x1 q7 r7
            go_simp; exact kk _ _ (by simp) HJ' (SideE.same2 _ (by omega)) ⟨trivial, ⟨fun e => by omega, fun _ => ⟨_, rfl, x2⟩⟩⟩
          · intro a w1 vs K bq Hb HJ HK HD HN kk
            obtain ⟨q7, r7⟩ := HD 7 _ 64 rfl rfl rfl
            obtain ⟨R', x1, x2⟩ := r7.2.1 (Or.inr rfl)
            have e64 := q7.trans x1
            clear x1 x2 q7 r7
            go_simp; exact kk _ _ (by simp) (by simpa using HJ) (SideE.same2 _ (by omega)) ⟨trivial, ⟨fun e => by omega, fun e => by omega⟩⟩
          · intro a w1 vs K bq Hb HJ HK HD HN kk
            obtain rfl : bq = false := by cases bq with | false => rfl | true => exact absurd rfl (Hb rfl).1
            have HJ' : Below w8.heap.size w8 w1 := HJ
            have e9 := HK 9 (by decide)
            obtain ⟨q8, r8⟩ := HD 8 _ 72 rfl rfl rfl
            obtain ⟨R', y1, y2⟩ := r8.2.2 rfl
            exact wpo_storeS 53 (.tmp 9) (.tmp 72) rfl rfl sx 0 (by simpa [Act.eval] using e9) (RA p R') (by simpa [Act.eval] using q8.trans y1) 53 (RA p R) (HBSX.out w1 HJ') (by rw [RA_size, RA_size]; omega) (RA_one _ _) info_state fun w2 hk2 ho2 => by
              have hk3 : Bk w2 sx 53 (RA p R') := by rw [RA_spl] at hk2; exact hk2
              exact kk undef _ (by simp) (HST7.out w1 HJ' R' y2 w2 hk3 ho2) (SideE.store2 (by have := HSD8.out.hi; omega) (HBSX.out w1 HJ') ho2 hk3) ⟨trivial, ⟨fun e => by omega, fun e => by omega⟩⟩
        · intro vs w9 hw9 hrr
          have HSD9 : Hid (Side W X sx p w9 T T) := Lib.hid hw9
          clear hrr hw9
          simp only [putAll, Act.put, List.setIfInBounds_toArray, List.set_cons_zero, List.set_cons_succ]
          go_wp2_with fail
          go_roundw
          case rel => exact ⟨k + 1, T, by omega, by go_num, HSD9⟩
          case measure => simp [intOf]; omega
      · obtain rfl : k = n := by omega
        obtain ⟨⟨U, D, er⟩, hr⟩ : ∃ r, runB St q l2 = r := ⟨_, rfl⟩
        have hUp : U.p = p := by have := (runB_keeps St q l2).1; rw [hr] at this; exact this.trans hsd.out.hp
        have HUP := Lib.hid hUp
        have HHR := Lib.hid hr
        have HCG : Hid (∀ z, Chg X wr z → Below W.heap.size W z) := Lib.hid fun z hz => hsd.out.below.trans (hz.below hsd.out.below.size (by have := hsd.out.lo; have := hsd.out.sys.lo; omega) (by have := hsd.out.lo; have := hsd.out.sys.lo; omega) (by have := hsd.out.lo; have := hsd.out.sys.lo; omega))
        have HRUN : Hid (Calls Tryz.prog 35 #[.pointer (some ⟨X.sb, 0, none⟩), .agg #[.slice y.sA q.steps.length y.sc, .slice y.rA q.reds.length y.rc, .slice y.aA q.abort.length y.ac], .slice A2 l2.length c2] wr fun e w' => e = .returned (.tuple #[.agg #[.int .i64 D.why, .int .i64 D.at_, .int .i64 D.index, .int .i64 D.refused], .int .i64 er]) ∧ SysAt w' X U ∧ Chg X wr w') := Lib.hid (by
          have h := run_any wr X St hsd.out.sys y q (fun z hz => HQ.out z (HCG.out z hz)) A2 c2 l2 (fun z hz => HL2.out z (HCG.out z hz))
          unfold RunPost at h
          rw [hr] at h
          exact h)
        obtain ⟨_, t0, t1, t2, t3⟩ := HC4.out wr hsd.out.below
        clear hr hUp
        go_wp2_with fail
        refine HRUN.out.mono ?_
        rintro e w6 ⟨rfl, hs6, hc6⟩
        have HSD6 : Hid (Side W X sx p w6 U St) := Lib.hid (hsd.out.does hs6 hc6 (HUP.out.trans hsd.out.hp.symm))
        clear hs6 hc6 t0 t1 t2 t3 HRUN
        go_upto_region 13 with (fail)
        have hal : Below w6.heap.size w6 (w6.alloc (.cells #[.int .i64 D.why, .int .i64 D.at_, .int .i64 D.index, .int .i64 D.refused] 85)) := (Below.refl _ _).alloc (Nat.le_refl _) _
        have HSD7 := Lib.hid (HSD6.out.later hal)
        have HK7 := Lib.hid (Bk.new w6 85 #[.int .i64 D.why, .int .i64 D.at_, .int .i64 D.index, .int .i64 D.refused])
        obtain ⟨ea, hea⟩ : ∃ b, w6.heap.size = b := ⟨_, rfl⟩
        obtain ⟨w7, hw7⟩ : ∃ w7, w6.alloc (.cells #[.int .i64 D.why, .int .i64 D.at_, .int .i64 D.index, .int .i64 D.refused] 85) = w7 := ⟨_, rfl⟩
        have hsxe : sx < ea := by rw [← hea]; obtain ⟨R, h1, _⟩ := HSD6.out.st; exact h1.lt
        rw [hw7] at HSD7 HK7 ⊢
        rw [hea] at HK7 ⊢
        clear hal hw7 hea HSD6
        obtain ⟨R, hk1, hk2⟩ := HSD7.out.st
        have HRR : Hid (Calls Tryz.prog 37 #[.agg #[.slice x.tA p.tanks.length x.tc, .slice x.vA p.valves.length x.vc, .slice x.lA p.lines.length x.lc, .slice x.nA p.never.length x.nc], .agg #[.slice (R.a 0) p.tanks.length (R.c 0), .slice (R.a 1) p.tanks.length (R.c 1), .slice (R.a 2) p.valves.length (R.c 2), .slice (R.a 3) p.valves.length (R.c 3), .slice (R.a 4) p.valves.length (R.c 4), .slice (R.a 5) p.tanks.length (R.c 5), .slice (R.a 6) p.lines.length (R.c 6), .slice (R.a 7) p.tanks.length (R.c 7), .slice (R.a 8) p.tanks.length (R.c 8)], .agg #[.slice y.sA q.steps.length y.sc, .slice y.rA q.reds.length y.rc, .slice y.aA q.abort.length y.ac], .slice A2 l2.length c2] w7 fun e w' => ∃ R', e = .returned (.tuple #[.agg (RA p R'), .agg (endA D), .int .i64 er]) ∧ @RefAt X.exc w' w'.heap.size R' U ∧ Below w7.heap.size w7 w') := Lib.hid (by
          have h := refRun_any w7 x R St (by rw [hsd.out.tp]; exact HP.out w7 HSD7.out.below) (RefB.at_ hk2) hsd.out.sys.ok y q (HQ.out w7 HSD7.out.below) A2 c2 l2 (HL2.out w7 HSD7.out.below)
          rw [HHR.out] at h
          rw [show plantA x St.p = plantA x p from by rw [hsd.out.tp], RA_of hsd.out.tp] at h
          refine h.mono ?_
          rintro e w' ⟨R', h1, h2, h3⟩
          exact ⟨R', by rw [h1, RA_of HUP.out], h2, h3⟩)
        have HKX : Hid (Bk w7 sx 53 (RA p R)) := Lib.hid (by rw [← RA_of hsd.out.tp]; exact hk1)
        obtain ⟨⟨c0, c1, c2', c3⟩, t0, t1, t2, t3⟩ := HC4.out w7 HSD7.out.below
        have s0 : w7.cell? ⟨sx, 0, none⟩ = some (.slice (R.a 0) p.tanks.length (R.c 0)) := HKX.out.cell 0
        have s1 : w7.cell? ⟨sx, 1, none⟩ = some (.slice (R.a 1) p.tanks.length (R.c 1)) := HKX.out.cell 1
        have s2 : w7.cell? ⟨sx, 2, none⟩ = some (.slice (R.a 2) p.valves.length (R.c 2)) := HKX.out.cell 2
        have s3 : w7.cell? ⟨sx, 3, none⟩ = some (.slice (R.a 3) p.valves.length (R.c 3)) := HKX.out.cell 3
        have s4 : w7.cell? ⟨sx, 4, none⟩ = some (.slice (R.a 4) p.valves.length (R.c 4)) := HKX.out.cell 4
        have s5 : w7.cell? ⟨sx, 5, none⟩ = some (.slice (R.a 5) p.tanks.length (R.c 5)) := HKX.out.cell 5
        have s6 : w7.cell? ⟨sx, 6, none⟩ = some (.slice (R.a 6) p.lines.length (R.c 6)) := HKX.out.cell 6
        have s7 : w7.cell? ⟨sx, 7, none⟩ = some (.slice (R.a 7) p.tanks.length (R.c 7)) := HKX.out.cell 7
        have s8 : w7.cell? ⟨sx, 8, none⟩ = some (.slice (R.a 8) p.tanks.length (R.c 8)) := HKX.out.cell 8
        clear hk1 hk2
        go_wp2_with fail
        refine HRR.out.mono ?_
        rintro e w8 ⟨R', rfl, h1, h2⟩
        have HB8 := Lib.hid h2
        have HR8 := Lib.hid h1
        have HK8 := Lib.hid (HKX.out.below h2 HKX.out.lt)
        have HA8 := Lib.hid (HK7.out.below h2 HK7.out.lt)
        have hsx8 : sx < w8.heap.size := HK8.out.lt
        have hea8 : ea < w8.heap.size := HA8.out.lt
        clear h1 h2 c0 c1 c2' c3 t0 t1 t2 t3 s0 s1 s2 s3 s4 s5 s6 s7 s8 HRR
        go_upto_region 14 with (first
          | (refine wpStoreAt rfl rfl 53 _ _ rfl sx 0 rfl (RA p R') rfl 53 (RA p R) (HK8.out.alloc _) (by rw [RA_size, RA_size]; omega) (RA_one _ _) info_state ?_; intro wf hkf hof; have HKF : Hid (Bk wf sx 53 (RA p R')) := Lib.hid (by rw [RA_spl] at hkf; exact hkf); have HOF : Hid (∃ o, Only sx (w8.alloc o) wf) := Lib.hid ⟨_, hof⟩; have HX9 : Hid (Bk wf w8.heap.size 85 (endA end0)) := Lib.hid ((Bk.new _ _ _).only hof (by omega)); have HA9 := Lib.hid ((HA8.out.alloc _).only hof (by omega)); clear hkf hof)
          | (refine wpStoreAt rfl rfl 85 _ _ rfl w8.heap.size 0 rfl (endA D) rfl 85 _ HX9.out (by show 0 + 4 ≤ 4; omega) (endA_one _) info_ended ?_; intro wg hkg hog; have HX10 : Hid (Bk wg w8.heap.size 85 (endA D)) := Lib.hid (by rw [endA_spl] at hkg; exact hkg); have HOG := Lib.hid hog; clear hkg hog))
        have HA10 := Lib.hid (HA9.out.only HOG.out (by omega))
        have HSDA : Hid (Side W X sx p wg U U) := Lib.hid (by
          obtain ⟨o, hof⟩ := HOF.out
          have hal : Below w8.heap.size w8 (w8.alloc o) := (Below.refl _ _).alloc (Nat.le_refl _) _
          have hw8 := HSD7.out.below.size
          have hb8 := HB8.out.size
          have hwx := HSD7.out.wlt
          exact Side.store2 HSD7.out HB8.out HR8.out (HUP.out.trans hsd.out.tp.symm) (by rw [RA_of HUP.out]; exact HKF.out.only HOG.out (by omega)) (((hal.mono (by omega)).trans (hof.below (by omega))).trans (HOG.out.below (by omega))) (fun b h1 h2 => (HOG.out.block b (by omega)).trans ((hof.block b h1).trans (hal.block b h2))))
        clear HX9 HA9 HOG HOF HKF
        obtain ⟨Rx, hx1, hx2⟩ := HSDA.out.st
        have HKY : Hid (Bk wg sx 53 (RA p Rx)) := Lib.hid (by rw [← RA_of HUP.out]; exact hx1)
        have HAL : Hid (Calls Tryz.prog 31 #[.pointer (some ⟨X.sb, 0, none⟩), .agg (plantA x p), .agg (RA p Rx)] wg fun e w' => e = .returned (.bool true) ∧ Below wg.heap.size wg w') := Lib.hid (by
          have h := alike_any wg X x Rx U HSDA.out.sys (by rw [HUP.out]; exact HP.out wg HSDA.out.below) (RefB.at_ hx2)
          rw [show plantA x U.p = plantA x p from by rw [HUP.out], RA_of HUP.out] at h
          exact h)
        clear hx1 hx2
        obtain ⟨⟨c0, c1, c2', c3⟩, _⟩ := HC4.out wg HSDA.out.below
        have s0 : wg.cell? ⟨sx, 0, none⟩ = some (.slice (Rx.a 0) p.tanks.length (Rx.c 0)) := HKY.out.cell 0
        have s1 : wg.cell? ⟨sx, 1, none⟩ = some (.slice (Rx.a 1) p.tanks.length (Rx.c 1)) := HKY.out.cell 1
        have s2 : wg.cell? ⟨sx, 2, none⟩ = some (.slice (Rx.a 2) p.valves.length (Rx.c 2)) := HKY.out.cell 2
        have s3 : wg.cell? ⟨sx, 3, none⟩ = some (.slice (Rx.a 3) p.valves.length (Rx.c 3)) := HKY.out.cell 3
        have s4 : wg.cell? ⟨sx, 4, none⟩ = some (.slice (Rx.a 4) p.valves.length (Rx.c 4)) := HKY.out.cell 4
        have s5 : wg.cell? ⟨sx, 5, none⟩ = some (.slice (Rx.a 5) p.tanks.length (Rx.c 5)) := HKY.out.cell 5
        have s6 : wg.cell? ⟨sx, 6, none⟩ = some (.slice (Rx.a 6) p.lines.length (Rx.c 6)) := HKY.out.cell 6
        have s7 : wg.cell? ⟨sx, 7, none⟩ = some (.slice (Rx.a 7) p.tanks.length (Rx.c 7)) := HKY.out.cell 7
        have s8 : wg.cell? ⟨sx, 8, none⟩ = some (.slice (Rx.a 8) p.tanks.length (Rx.c 8)) := HKY.out.cell 8
        have x0 : wg.cell? ⟨w8.heap.size, 0, none⟩ = some (.int .i64 D.why) := HX10.out.cell 0
        have x1 : wg.cell? ⟨w8.heap.size, 1, none⟩ = some (.int .i64 D.at_) := HX10.out.cell 1
        have x2 : wg.cell? ⟨w8.heap.size, 2, none⟩ = some (.int .i64 D.index) := HX10.out.cell 2
        have x3 : wg.cell? ⟨w8.heap.size, 3, none⟩ = some (.int .i64 D.refused) := HX10.out.cell 3
        have y0 : wg.cell? ⟨ea, 0, none⟩ = some (.int .i64 D.why) := HA10.out.cell 0
        have y1 : wg.cell? ⟨ea, 1, none⟩ = some (.int .i64 D.at_) := HA10.out.cell 1
        have y2 : wg.cell? ⟨ea, 2, none⟩ = some (.int .i64 D.index) := HA10.out.cell 2
        have y3 : wg.cell? ⟨ea, 3, none⟩ = some (.int .i64 D.refused) := HA10.out.cell 3
        simp only [plantA, RA, refA] at HAL
        go_wp2_with fail
        refine HAL.out.mono ?_
        rintro e w11 ⟨rfl, hb11⟩
        have HBB : Hid (Below W.heap.size W w11) := Lib.hid (HSDA.out.below.trans (hb11.mono HSDA.out.below.size))
        clear hb11 c0 c1 c2' c3 s0 s1 s2 s3 s4 s5 s6 s7 s8 x0 x1 x2 x3 y0 y1 y2 y3
        go_wp2_with fail
        refine (END.out w11 HBB.out).mono ?_
        rintro e w12 ⟨rfl, hb12⟩
        go_wp2_with fail
        go_ret
        exact ⟨rfl, FIN.out _ hb12⟩
end Go.Proofs.YtogobjmmgjfjjaaGreat
