/- What is proved: the texts R7 R8 Q Rd Rw Rp Lw T1 T2 T3, one behind the other; each says at its head what it proves, and under which conditions. -/
import Derived.BigQuiet
import Derived.Test.YtogobjmmgjfjjaaGreatRows
import Derived.ProofKit
import Derived.OpenShut
import Derived.JoinedOf
import Derived.JoinedCond
import Derived.SizedLaws
import Derived.ChangeSame
import Derived.Carry
import Derived.Outline
import Derived.Test.YtogobjmmgjfjjaaGreatdPPaths5
/- What is proved: a contract of ullageref07's lines. Conditions: the plant lies in memory. -/
namespace Go.Proofs.YtogobjmmgjfjjaaGreat
open Go.RowKit

def lineA (A : Option Addr) (c : Nat) (l : LineD) : Array Value := #[.int .i64 l.src, .int .i64 l.dst, .int .i64 l.flow, .bool l.gas, .slice A l.valves.length c]
def lineZ : Array Value := #[.int .i64 0, .int .i64 0, .int .i64 0, .bool false, .slice none 0 0]
theorem lineA_get (A : Option Addr) (c : Nat) (l : LineD) (j : Nat) (u : Value) (h : (lineA A c l)[j]? = some u) : j < 5 ∧ u = lineC A c l j := by
  match j with
  | 0 => simp [lineA] at h; exact ⟨by omega, h.symm⟩
  | 1 => simp [lineA] at h; exact ⟨by omega, h.symm⟩
  | 2 => simp [lineA] at h; exact ⟨by omega, h.symm⟩
  | 3 => simp [lineA] at h; exact ⟨by omega, h.symm⟩
  | 4 => simp [lineA] at h; exact ⟨by omega, h.symm⟩
  | n + 5 => simp [lineA] at h
theorem lineA_one (A : Option Addr) (c : Nat) (l : LineD) : ∀ u ∈ (lineA A c l).toList, u.oneCell' = true := by
  intro u hu; simp [lineA] at hu; rcases hu with rfl | rfl | rfl | rfl | rfl <;> rfl
theorem und_line : Tryz.prog.underlying 76 = some (.struct (match Tryz.prog.underlying 76 with | some (.struct f) => f | _ => #[])) := by kernel_rfl
theorem info_line : (Tryz.prog.info? 76).map (·.size) = some 5 := by kernel_rfl

set_option maxRecDepth 100000 in
set_option maxHeartbeats 4000000 in
theorem refLines_any (w : World) (x : PV) (p : PlantD) (h : PlantAt w w.heap.size x p) :
    Calls Tryz.prog 60 #[.agg (plantA x p)] w fun e w' => e = .returned (.bool (linedB p)) ∧ Below w.heap.size w w' := by
  have hnt := h.tanks.1
  have hnv := h.valves.1
  have hnl := h.lines.1
  obtain ⟨W, hW⟩ : ∃ W, W = w.alloc (.cells (plantA x p) 27) := ⟨_, rfl⟩
  have hbW : Below w.heap.size w W := by rw [hW]; exact (Below.refl _ _).alloc (Nat.le_refl _) _
  have hWs : W.heap.size = w.heap.size + 1 := by rw [hW]; simp
  have hb0 : Bk W w.heap.size 27 (plantA x p) := by rw [hW]; exact Bk.new _ _ _
  have HW := Lib.hid hW
  have HPL := Lib.hid (h.below hbW)
  have HB := Lib.hid hbW
  have HP := Lib.hid hb0
  obtain ⟨nt, hnt'⟩ : ∃ nt, nt = p.tanks.length := ⟨_, rfl⟩
  obtain ⟨nv, hnv'⟩ : ∃ nv, nv = p.valves.length := ⟨_, rfl⟩
  obtain ⟨nl, hnl'⟩ : ∃ nl, nl = p.lines.length := ⟨_, rfl⟩
  rw [← hnt'] at hnt
  rw [← hnv'] at hnv
  rw [← hnl'] at hnl
  have HC : Hid (∀ w1, Below W.heap.size W w1 → w1.cell? ⟨w.heap.size, 0, none⟩ = some (.slice x.tA nt x.tc) ∧ w1.cell? ⟨w.heap.size, 1, none⟩ = some (.slice x.vA nv x.vc) ∧ w1.cell? ⟨w.heap.size, 2, none⟩ = some (.slice x.lA nl x.lc)) := Lib.hid fun w1 hb => by
    have := hb0.below hb hb0.lt
    rw [hnt', hnv', hnl']
    exact ⟨this.cell 0, this.cell 1, this.cell 2⟩
  have hnt1 : IntKind.i64.wrap ((nt : Int) - 1) = (nt : Int) - 1 := IntWalk.i64_in _ (by omega)
  have hnv1 : IntKind.i64.wrap ((nv : Int) - 1) = (nv : Int) - 1 := IntWalk.i64_in _ (by omega)
  have HL : Hid (linedB p = (decide ((nl : Int) ≤ 32) && allN nl fun i => lineOk nt nv (p.line i))) := Lib.hid (by rw [hnt', hnv', hnl']; rfl)
  have HN := Lib.hid hnl'
  simp only [plantA] at HW
  clear h hW hbW hb0 hnt' hnv' hnl'
  dsimp only [plantA]
  go_enter Tryz.func60, Tryz.ntmps60
  go_wp2_with fail
  rw [← HW.out]
  go_loopw [3] (fun i wr => ∃ k : Nat, k ≤ nl ∧ i = .int .i64 k ∧ Hid (∀ i, i < k → lineOk nt nv (p.line i) = true) ∧ Hid (Below W.heap.size W wr)) (fun i _ => nl - (intOf i).toNat)
  case atStart => exact ⟨0, Nat.zero_le _, rfl, Lib.hid fun j hj => absurd hj (by omega), Lib.hid (Below.refl _ _)⟩
  case round =>
    obtain ⟨k, hk, rfl, hall, hb⟩ := hrel
    obtain ⟨c0, c1, c2⟩ := HC.out wr hb.out
    have hsz := hb.out.size
    by_cases hlt : k < nl
    · have hlt' : k < p.lines.length := by rw [← HN.out]; exact hlt
      have HPR := Lib.hid (HPL.out.below (hb.out.mono (by omega)))
      obtain ⟨bl, ol, hAl, hBl, hcl⟩ := HPR.out.lines.2 (by omega)
      rw [hAl] at c2
      have HLC : Hid (∀ j u, (lineA (x.iA k) (x.ic k) (p.line k))[j]? = some u → wr.cell? ⟨bl, ol + k * 5 + j, none⟩ = some u) := Lib.hid fun j u hj => by
        obtain ⟨h1, rfl⟩ := lineA_get _ _ _ _ _ hj
        exact hcl k hlt' j h1
      have hki : (k : Int) < (nl : Int) := by omega
      have h0k : (0 : Int) ≤ (k : Int) := by omega
      have HX : Hid (∀ wl, Bk wl wr.heap.size 76 (splA lineZ 0 (lineA (x.iA k) (x.ic k) (p.line k)).toList) → Only wr.heap.size (wr.alloc (.cells lineZ 76)) wl →
          wl.cell? ⟨wr.heap.size, 0, none⟩ = some (.int .i64 (p.line k).src) ∧ wl.cell? ⟨wr.heap.size, 1, none⟩ = some (.int .i64 (p.line k).dst) ∧ wl.cell? ⟨wr.heap.size, 2, none⟩ = some (.int .i64 (p.line k).flow) ∧ wl.cell? ⟨wr.heap.size, 4, none⟩ = some (.slice (x.iA k) (p.line k).valves.length (x.ic k)) ∧
          wl.cell? ⟨w.heap.size, 0, none⟩ = some (.slice x.tA nt x.tc) ∧ wl.cell? ⟨w.heap.size, 1, none⟩ = some (.slice x.vA nv x.vc) ∧ wl.cell? ⟨w.heap.size, 2, none⟩ = some (.slice x.lA nl x.lc) ∧
          Hid (Bk wl wr.heap.size 76 (lineA (x.iA k) (x.ic k) (p.line k)) ∧ Below W.heap.size W wl ∧ wr.heap.size < wl.heap.size)) := Lib.hid fun wl h1 h2 => by
        rw [splA_all lineZ (lineA (x.iA k) (x.ic k) (p.line k)) rfl] at h1
        have hbw : Below wr.heap.size wr wl := ((Below.refl _ _).alloc (Nat.le_refl _) _).trans (h2.below (Nat.le_refl _))
        have hbW := hb.out.trans (hbw.mono hsz)
        obtain ⟨q0, q1, q2⟩ := HC.out wl hbW
        exact ⟨h1.cell 0, h1.cell 1, h1.cell 2, h1.cell 4, q0, q1, q2, Lib.hid ⟨h1, hbW, h1.lt⟩⟩
      clear hAl hcl
      cases h0 : inB (p.line k).src (-1) ((nt : Int) - 1) with
      | false =>
        have Hf := Lib.hid (show linedB p = false from by rw [HL.out, allN_false hlt (show lineOk nt nv (p.line k) = false from by unfold lineOk; simp [h0])]; exact Bool.and_false _)
        clear hall
        go_wp2_with (first | (go_at_call 76; refine (in_any _ _ _ _).mono ?_; rintro e w' ⟨rfl, rfl⟩) | (refine wpLoadAt rfl 76 _ rfl bl (ol + k * 5) rfl (lineA (x.iA k) (x.ic k) (p.line k)) _ HLC.out und_line rfl info_line ?_) | (refine wpStoreAt rfl rfl 76 _ _ rfl wr.heap.size 0 rfl (lineA (x.iA k) (x.ic k) (p.line k)) rfl 76 lineZ (Bk.newAt _ 76 lineZ _ rfl) (by show 0 + 5 ≤ 5; omega) (lineA_one _ _ _) info_line ?_; intro wl hkl hol; obtain ⟨g0, g1, g2, g4, p0, p1, p2, HQ⟩ := HX.out wl hkl hol; clear hkl hol HX HLC))
        go_ret
        exact ⟨ret_bool Hf.out.symm, HB.out.trans (HQ.out.2.1.mono (by omega))⟩
      | true =>
      cases h1 : inB (p.line k).dst (-1) ((nt : Int) - 1) with
      | false =>
        have Hf := Lib.hid (show linedB p = false from by rw [HL.out, allN_false hlt (show lineOk nt nv (p.line k) = false from by unfold lineOk; simp [h1])]; exact Bool.and_false _)
        clear hall
        go_wp2_with (first | (go_at_call 76; refine (in_any _ _ _ _).mono ?_; rintro e w' ⟨rfl, rfl⟩) | (refine wpLoadAt rfl 76 _ rfl bl (ol + k * 5) rfl (lineA (x.iA k) (x.ic k) (p.line k)) _ HLC.out und_line rfl info_line ?_) | (refine wpStoreAt rfl rfl 76 _ _ rfl wr.heap.size 0 rfl (lineA (x.iA k) (x.ic k) (p.line k)) rfl 76 lineZ (Bk.newAt _ 76 lineZ _ rfl) (by show 0 + 5 ≤ 5; omega) (lineA_one _ _ _) info_line ?_; intro wl hkl hol; obtain ⟨g0, g1, g2, g4, p0, p1, p2, HQ⟩ := HX.out wl hkl hol; clear hkl hol HX HLC))
        go_ret
        exact ⟨ret_bool Hf.out.symm, HB.out.trans (HQ.out.2.1.mono (by omega))⟩
      | true =>
      by_cases h2 : (p.line k).src = (p.line k).dst
      · have h2' : decide ((p.line k).src = (p.line k).dst) = true := decide_eq_true h2
        have Hf := Lib.hid (show linedB p = false from by rw [HL.out, allN_false hlt (show lineOk nt nv (p.line k) = false from by unfold lineOk; simp [h2])]; exact Bool.and_false _)
        clear hall
        go_wp2_with (first | (go_at_call 76; refine (in_any _ _ _ _).mono ?_; rintro e w' ⟨rfl, rfl⟩) | (refine wpLoadAt rfl 76 _ rfl bl (ol + k * 5) rfl (lineA (x.iA k) (x.ic k) (p.line k)) _ HLC.out und_line rfl info_line ?_) | (refine wpStoreAt rfl rfl 76 _ _ rfl wr.heap.size 0 rfl (lineA (x.iA k) (x.ic k) (p.line k)) rfl 76 lineZ (Bk.newAt _ 76 lineZ _ rfl) (by show 0 + 5 ≤ 5; omega) (lineA_one _ _ _) info_line ?_; intro wl hkl hol; obtain ⟨g0, g1, g2, g4, p0, p1, p2, HQ⟩ := HX.out wl hkl hol; clear hkl hol HX HLC))
        go_ret
        exact ⟨ret_bool Hf.out.symm, HB.out.trans (HQ.out.2.1.mono (by omega))⟩
      cases h3 : inB (p.line k).flow 1 1073741824 with
      | false =>
        have Hf := Lib.hid (show linedB p = false from by rw [HL.out, allN_false hlt (show lineOk nt nv (p.line k) = false from by unfold lineOk; simp [h3])]; exact Bool.and_false _)
        clear hall
        go_wp2_with (first | (go_at_call 76; refine (in_any _ _ _ _).mono ?_; rintro e w' ⟨rfl, rfl⟩) | (refine wpLoadAt rfl 76 _ rfl bl (ol + k * 5) rfl (lineA (x.iA k) (x.ic k) (p.line k)) _ HLC.out und_line rfl info_line ?_) | (refine wpStoreAt rfl rfl 76 _ _ rfl wr.heap.size 0 rfl (lineA (x.iA k) (x.ic k) (p.line k)) rfl 76 lineZ (Bk.newAt _ 76 lineZ _ rfl) (by show 0 + 5 ≤ 5; omega) (lineA_one _ _ _) info_line ?_; intro wl hkl hol; obtain ⟨g0, g1, g2, g4, p0, p1, p2, HQ⟩ := HX.out wl hkl hol; clear hkl hol HX HLC))
        go_ret
        exact ⟨ret_bool Hf.out.symm, HB.out.trans (HQ.out.2.1.mono (by omega))⟩
      | true =>
      cases h4 : inB (p.line k).valves.length 1 4 with
      | false =>
        have Hf := Lib.hid (show linedB p = false from by rw [HL.out, allN_false hlt (show lineOk nt nv (p.line k) = false from by unfold lineOk; simp [h4])]; exact Bool.and_false _)
        clear hall
        go_wp2_with (first | (go_at_call 76; refine (in_any _ _ _ _).mono ?_; rintro e w' ⟨rfl, rfl⟩) | (refine wpLoadAt rfl 76 _ rfl bl (ol + k * 5) rfl (lineA (x.iA k) (x.ic k) (p.line k)) _ HLC.out und_line rfl info_line ?_) | (refine wpStoreAt rfl rfl 76 _ _ rfl wr.heap.size 0 rfl (lineA (x.iA k) (x.ic k) (p.line k)) rfl 76 lineZ (Bk.newAt _ 76 lineZ _ rfl) (by show 0 + 5 ≤ 5; omega) (lineA_one _ _ _) info_line ?_; intro wl hkl hol; obtain ⟨g0, g1, g2, g4, p0, p1, p2, HQ⟩ := HX.out wl hkl hol; clear hkl hol HX HLC))
        go_ret
        exact ⟨ret_bool Hf.out.symm, HB.out.trans (HQ.out.2.1.mono (by omega))⟩
      | true =>
      go_wp2_with (first | (go_at_call 76; refine (in_any _ _ _ _).mono ?_; rintro e w' ⟨rfl, rfl⟩) | (refine wpLoadAt rfl 76 _ rfl bl (ol + k * 5) rfl (lineA (x.iA k) (x.ic k) (p.line k)) _ HLC.out und_line rfl info_line ?_) | (refine wpStoreAt rfl rfl 76 _ _ rfl wr.heap.size 0 rfl (lineA (x.iA k) (x.ic k) (p.line k)) rfl 76 lineZ (Bk.newAt _ 76 lineZ _ rfl) (by show 0 + 5 ≤ 5; omega) (lineA_one _ _ _) info_line ?_; intro wl hkl hol; obtain ⟨g0, g1, g2, g4, p0, p1, p2, HQ⟩ := HX.out wl hkl hol; clear hkl hol HX HLC))
      clear g0 g1 g2 g4 p0 p1 p2 c0 c1 c2 hsz
      obtain ⟨lb, hlb⟩ : ∃ lb, lb = wr.heap.size := ⟨_, rfl⟩
      rw [← hlb] at HQ ⊢
      clear hlb
      obtain ⟨nk, hnk⟩ : ∃ nk, nk = (p.line k).valves.length := ⟨_, rfl⟩
      have HNK := Lib.hid hnk
      have hnk4 : nk ≤ 4 := by rw [hnk]; unfold inB at h4; simp at h4; omega
      clear hnk
      go_loopw [5] (fun i wr => ∃ j : Nat, j ≤ nk ∧ i = .int .i64 j ∧ Hid (∀ l, l < j → inB ((p.line k).valves.getD l 0) 0 ((nv : Int) - 1) = true) ∧ Hid (Below wl.heap.size wl wr)) (fun i _ => nk - (intOf i).toNat)
      case atStart => exact ⟨0, Nat.zero_le _, rfl, Lib.hid fun j hj => absurd hj (by omega), Lib.hid (Below.refl _ _)⟩
      case round =>
        obtain ⟨j, hj, rfl, hvs, hbj⟩ := hrel
        obtain ⟨hq1, hq2, hq3⟩ := HQ.out
        have hqW := hq2.trans (hbj.out.mono hq2.size)
        obtain ⟨_, p1, _⟩ := HC.out wr hqW
        have g4 : wr.cell? ⟨lb, 4, none⟩ = some (.slice (x.iA k) nk (x.ic k)) := by rw [HNK.out]; exact (hq1.below hbj.out hq3).cell 4
        by_cases hjk : j < nk
        · have hPQ := HPL.out.below (hqW.mono (by omega))
          obtain ⟨bi, oi, hAi, hBi, d0⟩ := Sl.at1v (hPQ.lv k hlt') (show j < (p.line k).valves.length by rw [← HNK.out]; exact hjk)
          rw [hAi] at g4
          have hji : (j : Int) < (nk : Int) := by omega
          have h0j : (0 : Int) ≤ (j : Int) := by omega
          clear hq1 hq2 hq3 hqW hPQ hAi
          obtain ⟨v, hvv⟩ : ∃ v, v = (p.line k).valves.getD j 0 := ⟨_, rfl⟩
          have d1 : wr.cell? ⟨bi, oi + j, none⟩ = some (.int .i64 v) := by rw [hvv]; exact d0
          have HVV := Lib.hid hvv
          clear d0 hvv
          cases hv : inB v 0 ((nv : Int) - 1) with
          | false =>
            have Hf := Lib.hid (show linedB p = false from by rw [HL.out, allN_false hlt (show lineOk nt nv (p.line k) = false from by unfold lineOk; rw [allN_false (show j < (p.line k).valves.length by rw [← HNK.out]; exact hjk) (show inB ((p.line k).valves.getD j 0) 0 ((nv : Int) - 1) = false from by rw [← HVV.out]; exact hv)]; exact Bool.and_false _)]; exact Bool.and_false _)
            clear hall hvs
            go_wp2_with fail
            go_quiet ((go_at_call 76; exact Calls.quiet_of_same ((in_any _ _ _ _).mono fun e w' he => ⟨he.1, he.2.symm⟩)))
            go_wp2_with fail
            go_ret
            exact ⟨ret_bool Hf.out.symm, below_drewN (HB.out.trans ((HQ.out.2.1.trans (hbj.out.mono HQ.out.2.1.size)).mono (by omega))) _⟩
          | true =>
            have HV := Lib.hid hv
            go_wp2_with fail
            go_quiet ((go_at_call 76; exact Calls.quiet_of_same ((in_any _ _ _ _).mono fun e w' he => ⟨he.1, he.2.symm⟩)))
            go_wp2_with fail
            go_roundw
            case rel => exact ⟨j + 1, by omega, by go_num, Lib.hid (fun l hl => by
              by_cases e : l = j
              · subst e; rw [← HVV.out]; exact HV.out
              · exact hvs.out l (by omega)), Lib.hid (below_drewN hbj.out _)⟩
            case measure => simp [intOf]; omega
        · obtain rfl : j = nk := by omega
          have HQW := Lib.hid hqW
          have hok := Lib.hid (show lineOk nt nv (p.line k) = true from by
            unfold lineOk
            rw [h0, h1, h3, h4, allN_true (fun i hi => hvs.out i (by rw [HNK.out]; exact hi)), show decide ((p.line k).src = (p.line k).dst) = false from decide_eq_false h2]; rfl)
          clear hq1 hq2 hq3 hqW
          go_wp2_with fail
          go_roundw
          case rel => exact ⟨k + 1, by omega, by go_num, Lib.hid (fun i hi => by
            by_cases e : i = k
            · subst e; exact hok.out
            · exact hall.out i (by omega)), HQW⟩
          case measure => simp [intOf]; omega
    · obtain rfl : k = nl := by omega
      have Hf := Lib.hid (show linedB p = decide ((k : Int) ≤ 32) from by rw [HL.out, allN_true (fun i hi => hall.out i hi), Bool.and_true])
      clear hall
      go_wp2_with fail
      go_ret
      exact ⟨ret_bool Hf.out.symm, HB.out.trans (hb.out.mono (by omega))⟩
end Go.Proofs.YtogobjmmgjfjjaaGreat
/- What is proved: a contract of ullageref07.CheckPlant. Conditions: the plant lies in memory. -/
namespace Go.Proofs.YtogobjmmgjfjjaaGreat
open Go.RowKit

theorem refShort_of {p : PlantD} (h1 : tankedB p = true) (h2 : valvedB p = true) (h3 : linedB p = true) : Short p := by
  unfold tankedB apartB at h1
  unfold valvedB apartB at h2
  unfold linedB at h3
  simp only [Bool.and_eq_true, inB, decide_eq_true_eq] at h1 h2 h3
  refine ⟨by have := h1.1.2.2; omega, by have := h2.1.2.2; omega, by have := h3.1; omega⟩

set_option maxRecDepth 100000 in
set_option maxHeartbeats 4000000 in
theorem refCheckPlant_any (w : World) (x : PV) (p : PlantD) (h : PlantAt w w.heap.size x p) :
    Calls Tryz.prog 19 #[.agg (plantA x p)] w fun e w' => e = .returned (.bool (plantB p)) ∧ Below w.heap.size w w' := by
  letI : Exc := ⟨fun _ => False, 0, fun _ h => h.elim⟩
  obtain ⟨W, hW⟩ : ∃ W, W = w.alloc (.cells (plantA x p) 27) := ⟨_, rfl⟩
  have hbW : Below w.heap.size w W := by rw [hW]; exact (Below.refl _ _).alloc (Nat.le_refl _) _
  have hWs : W.heap.size = w.heap.size + 1 := by rw [hW]; simp
  have hb0 : Bk W w.heap.size 27 (plantA x p) := by rw [hW]; exact Bk.new _ _ _
  have hn : p.never.length ≤ 9223372036854775807 := h.never.1
  have HW := Lib.hid hW
  have HB := Lib.hid hbW
  have HPA := Lib.hid fun (w1 : World) (hb : Below W.heap.size W w1) => ((h.below hbW).below (hb.mono (by omega))).mono (show w.heap.size ≤ w1.heap.size by have := hb.size; omega)
  have HBK := Lib.hid fun (w1 : World) (hb : Below W.heap.size W w1) => hb0.below hb (by omega)
  have HTA := Lib.hid fun (w1 : World) (hb : Below W.heap.size W w1) => (show Calls Tryz.prog 58 #[.slice x.tA p.tanks.length x.tc] w1 fun e w' => e = .returned (.bool (tankedB p)) ∧ Below w1.heap.size w1 w' from refTanks_any w1 x.tA _ x.tc _ (HPA.out w1 hb).tanks)
  have HVA := Lib.hid fun (w1 : World) (hb : Below W.heap.size W w1) => (show Calls Tryz.prog 59 #[.slice x.vA p.valves.length x.vc] w1 fun e w' => e = .returned (.bool (valvedB p)) ∧ Below w1.heap.size w1 w' from refValves_any w1 x.vA _ x.vc _ (HPA.out w1 hb).valves)
  have HLA := Lib.hid fun (w1 : World) (hb : Below W.heap.size W w1) => refLines_any w1 x p (HPA.out w1 hb)
  have hc : ∀ (w1 : World), Below W.heap.size W w1 → w1.cell? ⟨w.heap.size, 0, none⟩ = some (.slice x.tA p.tanks.length x.tc) ∧ w1.cell? ⟨w.heap.size, 1, none⟩ = some (.slice x.vA p.valves.length x.vc) ∧ w1.cell? ⟨w.heap.size, 2, none⟩ = some (.slice x.lA p.lines.length x.lc) ∧ w1.cell? ⟨w.heap.size, 3, none⟩ = some (.slice x.nA p.never.length x.nc) := fun w1 hb => by
    have := HBK.out w1 hb
    exact ⟨this.cell 0, this.cell 1, this.cell 2, this.cell 3⟩
  have HC := Lib.hid hc
  have HPB := Lib.hid (show plantB p = (tankedB p && valvedB p && linedB p && decide ((p.never.length : Int) ≤ 32) && (allN p.never.length fun i => litsOk p.valves.length (p.nev i) 4) && safeB p (firstB p)) from rfl)
  have HNV := Lib.hid (neverOk_of p)
  have HSO := Lib.hid (@refShort_of p)
  clear hc h hW hbW hb0
  simp only [plantA] at HW HLA
  dsimp only [plantA]
  obtain ⟨bb, hbb⟩ : ∃ bb, bb = plantB p := ⟨_, rfl⟩
  simp only [← hbb]
  rw [← hbb] at HPB
  clear hbb
  go_enter Tryz.func19, Tryz.ntmps19
  go_wp2_with fail
  rw [← HW.out]
  obtain ⟨c0, c1, c2, c3⟩ := HC.out W (Below.refl _ _)
  go_wp2_with fail
  refine (HTA.out W (Below.refl _ _)).mono ?_
  rintro e w1 ⟨rfl, hb1⟩
  clear c0 c1 c2 c3
  obtain ⟨c0, c1, c2, c3⟩ := HC.out w1 hb1
  cases h1 : tankedB p with
  | false =>
    have H1 := Lib.hid h1; clear h1
    go_wp2_with fail
    go_ret
    exact ⟨ret_bool (by rw [HPB.out, H1.out]; rfl), HB.out.trans (hb1.mono (by omega))⟩
  | true =>
  have H1 := Lib.hid h1; clear h1
  go_wp2_with fail
  refine (HVA.out w1 hb1).mono ?_
  clear c0 c1 c2 c3
  rintro e w2 ⟨rfl, hb2'⟩
  have hb2 := hb1.trans (hb2'.mono hb1.size)
  clear hb2' hb1
  obtain ⟨c0, c1, c2, c3⟩ := HC.out w2 hb2
  cases h2 : valvedB p with
  | false =>
    have H2 := Lib.hid h2; clear h2
    go_wp2_with fail
    go_ret
    exact ⟨ret_bool (by rw [HPB.out, H1.out, H2.out]; rfl), HB.out.trans (hb2.mono (by omega))⟩
  | true =>
  have H2 := Lib.hid h2; clear h2
  go_wp2_with fail
  refine (HLA.out w2 hb2).mono ?_
  clear c0 c1 c2 c3
  rintro e w3 ⟨rfl, hb3'⟩
  have hb3 := hb2.trans (hb3'.mono hb2.size)
  clear hb3' hb2
  obtain ⟨c0, c1, c2, c3⟩ := HC.out w3 hb3
  cases h3 : linedB p with
  | false =>
    have H3 := Lib.hid h3; clear h3
    go_wp2_with fail
    go_ret
    exact ⟨ret_bool (by rw [HPB.out, H1.out, H2.out, H3.out]; rfl), HB.out.trans (hb3.mono (by omega))⟩
  | true =>
  have H3 := Lib.hid h3; clear h3
  by_cases h4 : (p.never.length : Int) ≤ 32
  case neg =>
    have h4' : (32 : Int) < (p.never.length : Int) := by omega
    have H4 := Lib.hid (decide_eq_false h4); clear h4
    go_wp2_with fail
    go_ret
    exact ⟨ret_bool (by rw [HPB.out, H1.out, H2.out, H3.out, H4.out]; rfl), HB.out.trans (hb3.mono (by omega))⟩
  have h4' : ¬ (32 : Int) < (p.never.length : Int) := by omega
  have H4 := Lib.hid (decide_eq_true h4)
  obtain ⟨nn, hnn⟩ : ∃ nn, nn = p.never.length := ⟨_, rfl⟩
  rw [← hnn] at c3 h4 h4' hn
  have HNN := Lib.hid hnn
  clear hnn
  have hn32 : nn ≤ 32 := by omega
  go_wp2_with fail
  have HB3 := Lib.hid hb3
  clear c0 c1 c2 c3 hb3
  go_loopw [3] (fun i wr => ∃ k : Nat, k ≤ nn ∧ i = .int .i64 k ∧ Hid (∀ j, j < k → litsOk p.valves.length (p.nev j) 4 = true) ∧ Hid (Below W.heap.size W wr)) (fun i _ => nn - (intOf i).toNat)
  case atStart => exact ⟨0, Nat.zero_le _, rfl, Lib.hid fun j hj => absurd hj (by omega), HB3⟩
  case round =>
    obtain ⟨k, hk, rfl, hall, hb⟩ := hrel
    obtain ⟨_, _, _, c3⟩ := HC.out wr hb.out
    rw [← HNN.out] at c3
    have hsz := hb.out.size
    have HPa : Hid (∀ w1, Below wr.heap.size wr w1 → PlantAt w1 w1.heap.size x p) := Lib.hid fun w1 h1 => HPA.out w1 (hb.out.trans (h1.mono hsz))
    have HPb : Hid (∀ w1, Below wr.heap.size wr w1 → ∀ j u, (plantA x p)[j]? = some u → w1.cell? ⟨w.heap.size, 0 + j, none⟩ = some u) := Lib.hid fun w1 h1 j u hj => by
      rw [Nat.zero_add]; exact ((HBK.out w1 (hb.out.trans (h1.mono hsz))).cell j).trans hj
    by_cases hlt : k < nn
    · have hlt' : k < p.never.length := by rw [← HNN.out]; exact hlt
      obtain ⟨bn, on, hAn, hBn, d0⟩ := Sl.at1v (HPA.out wr hb.out).never hlt'
      rw [hAn] at c3
      have HC3 : Hid (∀ w1, Below wr.heap.size wr w1 → w1.cell? ⟨w.heap.size, 3, none⟩ = some (.slice (some ⟨bn, on, none⟩) nn x.nc)) := Lib.hid fun w1 h1 => by rw [h1.cell (p := ⟨w.heap.size, 3, none⟩) (by show w.heap.size < wr.heap.size; omega)]; exact c3
      have HCJ : Hid (∀ w1, Below wr.heap.size wr w1 → w1.cell? ⟨bn, on + k, none⟩ = some (.slice (x.jA k) (p.nev k).length (x.jc k))) := Lib.hid fun w1 h1 => (h1.cell (p := ⟨bn, on + k, none⟩) hBn).trans d0
      have HLI : Hid (∀ w1, Below wr.heap.size wr w1 → Calls Tryz.prog 27 #[.agg (plantA x p), .slice (x.jA k) (p.nev k).length (x.jc k), .int .i64 4] w1 fun e w' => e = .returned (.bool (litsOk p.valves.length (p.nev k) 4)) ∧ Below w1.heap.size w1 w') := Lib.hid fun w1 h1 => refLits_any w1 x p (HPa.out w1 h1) _ _ _ (fun i => (p.nev k).getD i lit0) ((HPa.out w1 h1).nv k hlt') 4
      have hki : (k : Int) < (nn : Int) := by omega
      have h0k : (0 : Int) ≤ (k : Int) := by omega
      clear hAn d0
      go_wp2_with fail
      refine wp_region_steps (by kernel_rfl) (by kernel_rfl) (fun w1 => Below wr.heap.size wr w1) (fun _ _ _ => True)
        (fun ix u _ _ => match ix with
          | 0 => u = .agg (plantA x p)
          | 1 => u = .pointer (some ⟨w.heap.size, 3, none⟩)
          | 2 => u = .slice (some ⟨bn, on, none⟩) nn x.nc
          | 3 => u = .int .i64 k
          | 4 => u = .pointer (some ⟨bn, on + k, none⟩)
          | 5 => u = .slice (x.jA k) (p.nev k).length (x.jc k)
          | 6 => u = .bool (litsOk p.valves.length (p.nev k) 4)
          | _ => u = .bool (!(litsOk p.valves.length (p.nev k) 4))) (Below.refl _ _).drew (fun _ _ _ _ _ _ _ _ h _ _ => h) ?_ ?_
      · refine ⟨?_, ?_, ?_, ?_, ?_, ?_, ?_, ?_, trivial⟩
        · intro a w1 vs K HJ HK HD HN kk
          have e1 := HK 1 (by decide)
          exact wpo_loadS 27 (.tmp 1) rfl w.heap.size 0 (by simpa [Act.eval] using e1) (plantA x p) _ (HPb.out w1 HJ) und_plant rfl info_plant (kk _ _ (by simp) HJ trivial rfl)
        · intro a w1 vs K HJ HK HD HN kk
          have e1 := HK 1 (by decide)
          go_simp; exact kk _ _ (by simp) HJ trivial rfl
        · intro a w1 vs K HJ HK HD HN kk
          have e33 := (HD 1 _ 33 rfl rfl rfl).1.trans (HD 1 _ 33 rfl rfl rfl).2
          have c := HC3.out w1 HJ
          go_simp; exact kk _ _ (by simp) HJ trivial rfl
        · intro a w1 vs K HJ HK HD HN kk
          have e3 := HK 3 (by decide)
          go_simp; exact kk _ _ (by simp) HJ trivial rfl
        · intro a w1 vs K HJ HK HD HN kk
          have e34 := (HD 2 _ 34 rfl rfl rfl).1.trans (HD 2 _ 34 rfl rfl rfl).2
          have e35 := (HD 3 _ 35 rfl rfl rfl).1.trans (HD 3 _ 35 rfl rfl rfl).2
          skip
          go_simp; exact kk _ _ (by simp) HJ trivial rfl
        · intro a w1 vs K HJ HK HD HN kk
          have e36 := (HD 4 _ 36 rfl rfl rfl).1.trans (HD 4 _ 36 rfl rfl rfl).2
          have c := HCJ.out w1 HJ
          go_simp; exact kk _ _ (by simp) HJ trivial rfl
        · intro a w1 vs K HJ HK HD HN kk
          have e32 := (HD 0 _ 32 rfl rfl rfl).1.trans (HD 0 _ 32 rfl rfl rfl).2
          have e37 := (HD 5 _ 37 rfl rfl rfl).1.trans (HD 5 _ 37 rfl rfl rfl).2
          exact wpo_call 27 _ _ rfl #[.agg (plantA x p), .slice (x.jA k) (p.nev k).length (x.jc k), .int .i64 4] (by simp [Act.eval, e32, e37]) (fun args w => by kernel_rfl)
            ((HLI.out w1 HJ).mono fun e w' ⟨he, hb⟩ => ⟨_, he, kk _ _ (by simp) (Below.trans HJ (hb.mono HJ.size)) trivial rfl⟩)
        · intro a w1 vs K HJ HK HD HN kk
          have e38 := (HD 6 _ 38 rfl rfl rfl).1.trans (HD 6 _ 38 rfl rfl rfl).2
          go_simp; exact kk _ _ (by simp) HJ trivial rfl
      · intro vs w2 hw2 hrr
        have hbb := hb.out.trans (hw2.mono hsz)
        have HBBW := Lib.hid hbb
        have h7 : vs 7 = _ := hrr 7 _ rfl
        clear hrr hbb hw2 c3
        simp only [putAll, Act.put, h7]
        clear h7
        cases hl : litsOk p.valves.length (p.nev k) 4 with
        | false =>
          have Hf := Lib.hid (show bb = false from by rw [HPB.out, H1.out, H2.out, H3.out, H4.out, allN_false hlt' hl]; rfl)
          clear hall
          go_simp
          go_wp2_with fail
          go_ret
          exact ⟨ret_bool Hf.out.symm, HB.out.trans (HBBW.out.mono (by omega))⟩
        | true =>
          have HL := Lib.hid hl
          go_simp
          go_wp2_with fail
          go_roundw
          case rel => exact ⟨k + 1, by omega, by go_num, Lib.hid (fun j hj => by
            by_cases e : j = k
            · subst e; exact HL.out
            · exact hall.out j (by omega)), HBBW⟩
          case measure => simp [intOf]; omega
    · obtain rfl : k = nn := by omega
      have ha : (allN p.never.length fun i => litsOk p.valves.length (p.nev i) 4) = true := allN_true (fun i hi => hall.out i (by rw [HNN.out]; exact hi))
      have Hf := Lib.hid (show bb = safeB p (firstB p) from by rw [HPB.out, H1.out, H2.out, H3.out, H4.out, ha]; rfl)
      have HNO := Lib.hid (HNV.out ha)
      have HSH := Lib.hid (HSO.out H1.out H2.out H3.out)
      clear hall ha
      go_wp2_with fail
      refine wp_region_steps (by kernel_rfl) (by kernel_rfl) (fun w1 => Below wr.heap.size wr w1) (fun _ w1 w2 => Below w1.heap.size w1 w2)
        (fun ix u d w1 => (match ix with
          | 0 => u = .agg (plantA x p)
          | 1 => u = .agg (plantA x p)
          | 2 => True
          | 3 => u = .bool (safeB p (firstB p))
          | _ => u = .bool (safeB p (firstB p))) ∧ (ix = 2 → ∃ R', u = .agg (SysA R' (startB p)) ∧ RefAt w1 w1.heap.size R' (startB p))) (Below.refl _ _).drew (by rintro i j hij _ u d w1 w2 ⟨hr1, hr2⟩ _ hE; refine ⟨hr1, fun e => ?_⟩; obtain ⟨R', e1, e2⟩ := hr2 e; exact ⟨R', e1, (e2.below hE).mono hE.size⟩) ?_ ?_
      · refine ⟨?_, ?_, ?_, ?_, ?_, trivial⟩
        · intro a w1 vs K HJ HK HD HN kk
          have e1 := HK 1 (by decide)
          exact wpo_loadS 27 (.tmp 1) rfl w.heap.size 0 (by simpa [Act.eval] using e1) (plantA x p) _ (HPb.out w1 HJ) und_plant rfl info_plant (kk _ _ (by simp) HJ (Below.refl _ _) ⟨rfl, fun e => by cases e⟩)
        · intro a w1 vs K HJ HK HD HN kk
          have e1 := HK 1 (by decide)
          exact wpo_loadS 27 (.tmp 1) rfl w.heap.size 0 (by simpa [Act.eval] using e1) (plantA x p) _ (HPb.out w1 HJ) und_plant rfl info_plant (kk _ _ (by simp) HJ (Below.refl _ _) ⟨rfl, fun e => by cases e⟩)
        · intro a w1 vs K HJ HK HD HN kk
          have e41 := (HD 1 _ 41 rfl rfl rfl).1.trans (HD 1 _ 41 rfl rfl rfl).2.1
          exact wpo_call 23 _ _ rfl #[.agg (plantA x p)] (by simp [Act.eval, e41]) (fun args w => by kernel_rfl)
            ((refBegin_any w1 x p (HPa.out w1 HJ) HSH.out (Nat.zero_le _)).mono fun e w' ⟨R', he, hr, hb⟩ => ⟨_, he, kk _ _ (by simp) (Below.trans HJ (hb.mono HJ.size)) hb ⟨trivial, fun _ => ⟨R', rfl, hr⟩⟩⟩)
        · intro a w1 vs K HJ HK HD HN kk
          have e40 := (HD 0 _ 40 rfl rfl rfl).1.trans (HD 0 _ 40 rfl rfl rfl).2.1
          obtain ⟨q2, r2⟩ := HD 2 _ 42 rfl rfl rfl
          obtain ⟨R', r1, r3⟩ := r2.2 rfl
          have e42 := q2.trans r1
          exact wpo_call 61 _ _ rfl #[.agg (plantA x p), .agg (SysA R' (startB p))] (by simp [Act.eval, e40, e42]) (fun args w => by kernel_rfl)
            ((refSafe_any w1 x R' (startB p) (HPa.out w1 HJ) r3 HNO.out).mono fun e w' ⟨he, hb⟩ => ⟨_, he, kk _ _ (by simp) (Below.trans HJ (hb.mono HJ.size)) hb ⟨rfl, fun e => by cases e⟩⟩)
        · intro a w1 vs K HJ HK HD HN kk
          have e43 := (HD 3 _ 43 rfl rfl rfl).1.trans (HD 3 _ 43 rfl rfl rfl).2.1
          go_simp; exact kk _ _ (by simp) HJ (Below.refl _ _) ⟨rfl, fun e => by cases e⟩
      · intro vs w2 hw2 hrr
        have HBBW := Lib.hid (hb.out.trans (hw2.mono hsz))
        have h4 : vs 4 = _ := (hrr 4 _ rfl).1
        clear hrr hw2 c3
        simp only [putAll, Act.put, h4]
        clear h4
        go_wp2_with fail
        go_ret
        exact ⟨ret_bool Hf.out.symm, HB.out.trans (HBBW.out.mono (by omega))⟩
end Go.Proofs.YtogobjmmgjfjjaaGreat
/- What is proved: a class of worlds for regions whose operations read and whose callees only make memory. Conditions: those that each lemma states. -/
namespace Go.Proofs.YtogobjmmgjfjjaaGreat
open Go.RowKit

/-- A world that keeps all that W had. -/
structure Ext (W : World) where
  w : World
  h : Below W.heap.size W w
instance (W : World) : Nonempty (Ext W) := ⟨⟨W, Below.refl _ _⟩⟩
/-- The class: W, with new memory. -/
def Ext.C (W : World) (w' : World) : Prop := ∃ x : Ext W, w' = x.w
theorem Ext.cell {W : World} {b o : Nat} {v : Value} (h : W.cell? ⟨b, o, none⟩ = some v) : ∀ x : Ext W, x.w.cell? ⟨b, o, none⟩ = some v := fun x => by
  have hb : b < W.heap.size := World.block_lt_of_cell? W _ h
  exact (x.h.cell (p := ⟨b, o, none⟩) hb).trans h
theorem Ext.calls {P : Program} {f : FuncId} {args : Array Value} {W : World} {x : Ext W} {v : Value} (h : Calls P f args x.w fun e w' => e = .returned v ∧ Below x.w.heap.size x.w w') :
    Calls P f args x.w fun e w'' => e = .returned v ∧ ∃ y : Ext W, w'' = y.w :=
  h.mono fun _ _ ⟨he, hb⟩ => ⟨he, ⟨_, x.h.trans (hb.mono x.h.size)⟩, rfl⟩
theorem Ext.same {P : Program} {f : FuncId} {args : Array Value} {W : World} {x : Ext W} {v : Value} (h : Calls P f args x.w fun e w' => e = .returned v ∧ x.w = w') :
    Calls P f args x.w fun e w'' => e = .returned v ∧ ∃ y : Ext W, w'' = y.w :=
  h.mono fun _ _ ⟨he, hb⟩ => ⟨he, x, hb.symm⟩
theorem Ext.drew {P : Program} {f : FuncId} {args : Array Value} {W : World} {x : Ext W} {v : Value} (h : Calls P f args x.w fun e w' => e = .returned v ∧ ∃ n, w' = x.w.drewN n) :
    Calls P f args x.w fun e w'' => e = .returned v ∧ ∃ y : Ext W, w'' = y.w :=
  h.mono fun _ _ ⟨he, n, hb⟩ => ⟨he, ⟨_, hb ▸ below_drewN x.h n⟩, rfl⟩
end Go.Proofs.YtogobjmmgjfjjaaGreat
/- What is proved: what the form's reading of data says of the cells, type by type; and the last step of a law that only makes memory. Conditions: those that each lemma states. -/
namespace Go.Proofs.YtogobjmmgjfjjaaGreat
open Go.ChangeShapes Go.WideShapes Go.ChangeAt Go.RowKit

section
variable {H : Type} {enc : TypeId × Value → H} {P : Program} {w : World} {t e : TypeId} {cs : List Value}
/-- The cells cs read as a value of type t. -/
def Rd (enc : TypeId × Value → H) (P : Program) (w : World) (t : TypeId) (cs : List Value) : Prop := ∃ fuel x, DataW.trod enc P w 0 (fun _ => true) true fuel t cs = some x
theorem Rd.of_trod {v : Value} {d : DataW H} {ps : List MemPlace} (h : DataW.Trod enc P w 0 (fun _ => true) true t v d ps) : Rd enc P w t v.cells.toList := by
  obtain ⟨n, hn⟩ := h
  exact ⟨n, _, hn⟩
theorem Rd.int {k : IntKind} (h : Rd enc P w t cs) (ht : P.underlying t = some (.int k)) : ∃ n, cs = [.int k n] ∧ (Lit.int k n).wf = true := by
  obtain ⟨fuel, x, h⟩ := h
  cases fuel with
  | zero => simp [DataW.trod] at h
  | succ m =>
    unfold DataW.trod at h
    rw [ht] at h
    split at h <;> simp_all
theorem Rd.bool (h : Rd enc P w t cs) (ht : P.underlying t = some .bool) : ∃ b, cs = [.bool b] := by
  obtain ⟨fuel, x, h⟩ := h
  cases fuel with
  | zero => simp [DataW.trod] at h
  | succ m =>
    unfold DataW.trod at h
    rw [ht] at h
    split at h <;> simp_all
theorem Rd.string (h : Rd enc P w t cs) (ht : P.underlying t = some .string) : ∃ s, cs = [.string s] ∧ s.size ≤ maxLen := by
  obtain ⟨fuel, x, h⟩ := h
  cases fuel with
  | zero => simp [DataW.trod] at h
  | succ m =>
    unfold DataW.trod at h
    rw [ht] at h
    split at h <;> simp_all
theorem Rd.struct {fs : Array Field} (h : Rd enc P w t cs) (ht : P.underlying t = some (.struct fs)) : cs.length = P.cellsOf t ∧ ∀ f ∈ fs.toList, Rd enc P w f.type ((cs.drop f.offset).take (P.cellsOf f.type)) := by
  obtain ⟨fuel, x, h⟩ := h
  cases fuel with
  | zero => simp [DataW.trod] at h
  | succ m =>
    unfold DataW.trod at h
    rw [ht] at h
    split at h <;> simp_all
    obtain ⟨hl, xs, hp, _⟩ := h
    refine fun f hf => ?_
    obtain ⟨i, hi⟩ := List.getElem?_of_mem (Array.mem_toList_iff.2 hf)
    have hg := mapM_some_get hp i f hi
    have hlen := mapM_some_length hp
    have : i < xs.length := by rw [hlen]; exact (List.getElem?_eq_some_iff.1 hi).1
    exact ⟨m, xs[i], by rw [hg]; exact List.getElem?_eq_getElem this⟩
theorem Rd.fields {fs : Array Field} {l : List (TypeId × Nat)} (h : Rd enc P w t cs) (ht : P.underlying t = some (.struct fs)) (hl : fs.toList.map (fun f => (f.type, f.offset)) = l) :
    cs.length = P.cellsOf t ∧ ∀ q ∈ l, Rd enc P w q.1 ((cs.drop q.2).take (P.cellsOf q.1)) := by
  obtain ⟨h1, h2⟩ := h.struct ht
  refine ⟨h1, fun q hq => ?_⟩
  rw [← hl] at hq
  obtain ⟨f, hf, rfl⟩ := List.mem_map.1 hq
  exact h2 f hf
theorem Rd.array {n : Nat} (h : Rd enc P w t cs) (ht : P.underlying t = some (.array n e)) : cs.length = P.cellsOf t ∧ ∀ i, i < n → Rd enc P w e ((cs.drop (i * P.cellsOf e)).take (P.cellsOf e)) := by
  obtain ⟨fuel, x, h⟩ := h
  obtain ⟨xs, m, _, _, h1, h2, h3⟩ := DataW.trod_array ht h
  refine ⟨h1, fun i hi => ?_⟩
  exact ⟨m, xs[i]'(by omega), by rw [h3 i hi]; exact List.getElem?_eq_getElem _⟩
theorem cells_get {base n : Nat} {a : Addr} {l : List Value} (h : w.cells? base a n = some l) : l.length = n ∧ ∀ j, j < n → w.cell? (a.add j) = l[j]? := by
  unfold World.cells? at h
  split at h
  · exact ⟨by simpa using mapM_some_length h, fun j hj => mapM_some_get h j j (by simp [hj])⟩
  · cases h
theorem Rd.slice (h : Rd enc P w t cs) (ht : P.underlying t = some (.slice e)) :
    cs = [.slice none 0 0] ∨ ∃ a len cap, cs = [.slice (some a) len cap] ∧ len ≤ maxLen ∧ ∀ i, i < len → ∃ l, w.cells? 0 (a.add (i * P.cellsOf e)) (P.cellsOf e) = some l ∧ Rd enc P w e l := by
  obtain ⟨fuel, x, h⟩ := h
  cases fuel with
  | zero => simp [DataW.trod] at h
  | succ m =>
    unfold DataW.trod at h
    rw [ht] at h
    split at h <;> simp_all
    rename_i a len cap _
    obtain ⟨⟨h1, h2⟩, h3⟩ := h
    refine ⟨a, len, ⟨rfl, rfl⟩, by omega, fun i hi => ?_⟩
    obtain ⟨elems, he, _⟩ := Option.bind_eq_some_iff.1 h3
    have hg := mapM_some_get he i i (by simp [hi])
    have hlen := mapM_some_length he
    have hi2 : i < elems.length := by rw [hlen]; simpa using hi
    rw [List.getElem?_eq_getElem hi2] at hg
    obtain ⟨l, hl, hr⟩ := Option.bind_eq_some_iff.1 hg
    exact ⟨l, hl, m, _, hr⟩
/-- A slice, each of whose rows of k cells is some y. -/
theorem Rd.list {Y : Type} (C : Y → Nat → Value) (Q : Y → Prop) (y0 : Y) {k : Nat} (h : Rd enc P w t cs) (ht : P.underlying t = some (.slice e)) (hk : P.cellsOf e = k) (hk0 : 0 < k)
    (hrow : ∀ l, l.length = k → Rd enc P w e l → ∃ y, Q y ∧ ∀ j, j < k → l[j]? = some (C y j)) :
    ∃ (A : Option Addr) (c : Nat) (l : List Y), cs = [.slice A l.length c] ∧ (∀ y ∈ l, Q y) ∧ Sl w w.heap.size k A l.length fun i => C (l.getD i y0) := by
  rcases h.slice ht with rfl | ⟨a, len, cap, rfl, hm, hi⟩
  · exact ⟨none, 0, [], rfl, fun y hy => by simp at hy, Sl.nil _ _ _ _ _⟩
  · rw [hk] at hi
    have hex : ∀ i, ∃ y, i < len → Q y ∧ ∀ j, j < k → w.cell? ((a.add (i * k)).add j) = some (C y j) := fun i => by
      by_cases hlt : i < len
      · obtain ⟨l, hl, hr⟩ := hi i hlt
        obtain ⟨h1, h2⟩ := cells_get hl
        obtain ⟨y, hq, hy⟩ := hrow l h1 hr
        exact ⟨y, fun _ => ⟨hq, fun j hj => (h2 j hj).trans (hy j hj)⟩⟩
      · exact ⟨y0, fun h => absurd h hlt⟩
    obtain ⟨f, hf⟩ := Classical.axiomOfChoice hex
    have hlen : ((List.range len).map f).length = len := by simp
    have hget : ∀ i, i < len → ((List.range len).map f).getD i y0 = f i := fun i hlt => by simp [hlt]
    refine ⟨some a, cap, (List.range len).map f, by rw [hlen], fun y hy => ?_, ?_, fun h0 => ?_⟩
    · obtain ⟨i, h1, rfl⟩ := List.mem_map.1 hy
      exact (hf i (by simpa using h1)).1
    · rw [hlen]; unfold maxLen at hm; omega
    · rw [hlen] at h0
      have h1 := (hf 0 h0).2 0 hk0
      simp only [Nat.zero_mul, Addr.add] at h1
      obtain ⟨b, off, sp⟩ := a
      have hsp : sp = none := by
        cases sp with
        | none => rfl
        | some s => simp [World.cell?] at h1; split at h1 <;> cases h1
      subst hsp
      refine ⟨b, off, rfl, World.block_lt_of_cell? w _ h1, fun i hi2 j hj => ?_⟩
      rw [hlen] at hi2
      show w.cell? _ = some (C (((List.range len).map f).getD i y0) j)
      rw [hget i hi2]
      have := (hf i hi2).2 j hj
      rwa [Addr.add_lit, Addr.add_lit] at this
theorem i64_bd {n : Int} (h : (Lit.int .i64 n).wf = true) : -9223372036854775808 ≤ n ∧ n ≤ 9223372036854775807 := by
  simpa [Lit.wf, IntKind.min, IntKind.max, IntKind.signed, IntKind.bits] using h

/-! The last step. -/
theorem trodAll_stays (hl : laidOutB P = true) {W W' : World} {base : Nat} {sp : Nat → Bool} : ∀ (ts : List TypeId) {vs : List Value} {ds : List (DataW H)} {ps : List MemPlace}, (∀ t ∈ ts, P.readableRec t = true ∧ t < P.types.size) →
    DataW.TrodAll enc P W base (fun _ => true) true ts vs ds ps → (∀ p ∈ ps, W.sameAt W' p) → (∀ p ∈ ps, sp p.block = true) → DataW.TrodAll enc P W' base sp true ts vs ds ps
  | [], vs, ds, ps, _, h, _, _ => by
    cases vs <;> cases ds <;> simp_all [DataW.TrodAll]
  | t :: ts, vs, ds, ps, ht, h, hs, hsp => by
    obtain ⟨v, vs', d, ds', p, q, rfl, rfl, rfl, h1, h2⟩ := trodAll_cons h
    exact trodAll_cons_mk (WideElems.Trod_stays hl (ht t (List.mem_cons_self ..)).1 (ht t (List.mem_cons_self ..)).2 h1 (fun x hx => hs x (List.mem_append_left _ hx)) (fun x hx => hsp x (List.mem_append_left _ hx)))
      (trodAll_stays hl ts (fun t' h' => ht t' (List.mem_cons_of_mem _ h')) h2 (fun x hx => hs x (List.mem_append_right _ hx)) (fun x hx => hsp x (List.mem_append_right _ hx)))
theorem law_post {f : Func} {s : ChangeSpec} {bt : TypeId} {W W' : World} {args : Array Value} {ds gs : List (DataW H)} {before : List MemPlace}
    (hl : laidOutB P = true) (hps : ∀ t ∈ f.params.toList, P.readableRec t = true ∧ t < P.types.size) (hrt : f.resultTypes = #[bt]) (hbt : P.underlying bt = some .bool) (hv : s.vars = [])
    (hW : DataW.Whole enc P f.params.toList s.vars false W args.toList ds gs before) (hres : (s.fn H (ds ++ gs)).results = [.lit (.bool true)]) (hargs : (s.fn H (ds ++ gs)).args = ds) (hvars : (s.fn H (ds ++ gs)).vars = [])
    (hb : Below W.heap.size W W') : s.post enc P f false true false false W args (.bool true) W' := by
  have hW' := hW
  have hlt : ∀ p ∈ before, p.block < W.heap.size := fun p hp => hW.lt p hp
  have hold : ∀ p ∈ before, (fun b => decide (b < W.heap.size)) p.block = true := fun p hp => by simpa using hlt p hp
  obtain ⟨p, q, hA, hV, rfl, hz, hn⟩ := hW
  rw [hv] at hV
  obtain ⟨rfl, rfl⟩ := trodVars_none hV
  have hr : ∀ (b : Nat) (sp : Nat → Bool) (hd : Bool), DataW.TrodAll enc P W' b sp hd f.resultTypes.toList ((Value.bool true).resultList f.resultTypes.size) (s.fn H (ds ++ [])).results [] := fun b sp hd => by
    rw [hrt, hres]; exact trodAll_mk1 (shut_bool hbt _)
  have ha : ∀ sp : Nat → Bool, (∀ x ∈ p, sp x.block = true) → DataW.TrodAll enc P W' 0 sp true f.params.toList args.toList (s.fn H (ds ++ [])).args p := fun sp hsp => by
    rw [hargs]; exact trodAll_stays hl _ hps hA (fun x hx => hb.same (hlt x (List.mem_append_left _ hx))) hsp
  have hvs : ∀ sp : Nat → Bool, DataW.TrodVars enc P W' sp s.vars (s.fn H (ds ++ [])).vars [] := fun sp => by rw [hv, hvars]; rfl
  refine ⟨ds, [], p ++ [], [], p, [], hW', hr _ _ _, ha _ (fun x hx => hold x (List.mem_append_left _ hx)), hvs _, World.keptBut_mono (fun x hx => ⟨hx, ?_⟩) (hb.frame (· ∈ p ++ [])), fun _ => ?_⟩
  · exact Or.inr (List.mem_append.1 hx)
  · refine ⟨?_, _, _, ([] ++ p) ++ [], ⟨[] ++ p, [], trodAll_append (ha _ (fun _ _ => rfl)) (hr _ _ _), hvs _, rfl, ?_, ?_⟩, ?_⟩
    · exact ok_one hrt rfl (okWide_bool_mk hbt _)
    · intro b off hp
      have hin : MemPlace.cell b off ∈ p ++ [] := by simpa using hp
      rw [hb.frozen (hlt _ hin)]
      exact hz b off hin
    · intro ha; cases ha
    · intro x hx _
      simpa using hx
end
end Go.Proofs.YtogobjmmgjfjjaaGreat
/- What is proved: what the form's reading of data says of the cells, with the form's reach: how long lists are. Conditions: those that each lemma states. -/
namespace Go.Proofs.YtogobjmmgjfjjaaGreat
open Go.ChangeShapes Go.WideShapes Go.ChangeAt Go.RowKit

section
variable {H : Type} {enc : TypeId × Value → H} {P : Program} {w : World} {t e : TypeId} {cs : List Value}
/-- The cells cs read as a value of type t, within the reach. -/
def RdW (enc : TypeId × Value → H) (P : Program) (w : World) (t : TypeId) (cs : List Value) : Prop :=
  ∃ fuel d ps, DataW.trod enc P w 0 (fun _ => true) true fuel t cs = some (d, ps) ∧ ∀ n ∈ d.weights P t, n ≤ reachBytes
theorem RdW.rd (h : RdW enc P w t cs) : Rd enc P w t cs := by
  obtain ⟨fuel, d, ps, h, _⟩ := h
  exact ⟨fuel, _, h⟩
theorem RdW.of_trod {v : Value} {d : DataW H} {ps : List MemPlace} (h : DataW.Trod enc P w 0 (fun _ => true) true t v d ps) (hw : ∀ n ∈ d.weights P t, n ≤ reachBytes) : RdW enc P w t v.cells.toList := by
  obtain ⟨n, hn⟩ := h
  exact ⟨n, _, _, hn, hw⟩
theorem RdW.fields {fs : Array Field} {l : List (TypeId × Nat)} (h : RdW enc P w t cs) (ht : P.underlying t = some (.struct fs)) (hl : fs.toList.map (fun f => (f.type, f.offset)) = l) :
    cs.length = P.cellsOf t ∧ ∀ q ∈ l, RdW enc P w q.1 ((cs.drop q.2).take (P.cellsOf q.1)) := by
  obtain ⟨fuel, d, ps, h, hw⟩ := h
  cases fuel with
  | zero => simp [DataW.trod] at h
  | succ m =>
    unfold DataW.trod at h
    rw [ht] at h
    split at h <;> simp_all
    obtain ⟨hlen, xs, hp, hd, _⟩ := h
    subst hd
    subst hl
    intro a b hab
    obtain ⟨f, hf, hfe⟩ := List.mem_map.1 hab
    simp only [Prod.mk.injEq] at hfe
    obtain ⟨rfl, rfl⟩ := hfe
    obtain ⟨i, hi⟩ := List.getElem?_of_mem hf
    have hg := mapM_some_get hp i f hi
    have hlen2 := mapM_some_length hp
    have hi2 : i < xs.length := by rw [hlen2]; exact (List.getElem?_eq_some_iff.1 hi).1
    rw [List.getElem?_eq_getElem hi2] at hg
    refine ⟨m, xs[i].1, xs[i].2, hg, fun n hn => hw n ?_⟩
    simp only [DataW.weights, ht]
    exact DataW.weights_mem_each (j := i) (t := f.type) (d := xs[i].1) (by simp [hi]) (by simp [List.getElem?_eq_getElem hi2]) n hn
theorem weights_mem_all : ∀ {ds : List (DataW H)} {j : Nat} {d : DataW H}, ds[j]? = some d → ∀ n ∈ d.weights P e, n ∈ DataW.weightsAll P e ds
  | d0 :: ds, 0, d, hd, n, hn => by
    simp only [List.getElem?_cons_zero, Option.some.injEq] at hd
    subst hd
    simp only [DataW.weightsAll, List.mem_append]
    exact Or.inl hn
  | d0 :: ds, j + 1, d, hd, n, hn => by
    simp only [List.getElem?_cons_succ] at hd
    simp only [DataW.weightsAll, List.mem_append]
    exact Or.inr (weights_mem_all hd n hn)
  | [], _, _, hd, _, _ => by simp at hd
theorem RdW.slice (h : RdW enc P w t cs) (ht : P.underlying t = some (.slice e)) :
    cs = [.slice none 0 0] ∨ ∃ a len cap, cs = [.slice (some a) len cap] ∧ len ≤ maxLen ∧ len * P.bytesOf e ≤ reachBytes ∧ ∀ i, i < len → ∃ l, w.cells? 0 (a.add (i * P.cellsOf e)) (P.cellsOf e) = some l ∧ RdW enc P w e l := by
  obtain ⟨fuel, d, ps, h, hw⟩ := h
  cases fuel with
  | zero => simp [DataW.trod] at h
  | succ m =>
    unfold DataW.trod at h
    rw [ht] at h
    split at h <;> simp_all
    rename_i a len cap _
    obtain ⟨⟨h1, h2⟩, h3⟩ := h
    obtain ⟨elems, he, h4⟩ := Option.bind_eq_some_iff.1 h3
    obtain ⟨rest, hr, h5⟩ := Option.map_eq_some_iff.1 h4
    simp only [Prod.mk.injEq] at h5
    obtain ⟨rfl, _⟩ := h5
    have hlen := mapM_some_length he
    simp only [List.length_range] at hlen
    simp only [DataW.weights, ht, List.length_map] at hw
    have hb := hw _ (List.mem_cons_self ..)
    rw [hlen] at hb
    refine ⟨a, len, ⟨rfl, rfl⟩, by omega, Nat.le_trans (Nat.mul_le_mul_right _ (Nat.le_add_right _ _)) hb, fun i hi => ?_⟩
    have hg := mapM_some_get he i i (by simp [hi])
    have hi2 : i < elems.length := by omega
    rw [List.getElem?_eq_getElem hi2] at hg
    obtain ⟨l, hl, hr⟩ := Option.bind_eq_some_iff.1 hg
    refine ⟨l, hl, m, elems[i].1, elems[i].2, hr, fun n hn => hw n ?_⟩
    refine List.mem_cons_of_mem _ (List.mem_append_left _ (weights_mem_all (j := i) (d := elems[i].1) ?_ n hn))
    simp [List.getElem?_eq_getElem hi2]
/-- A slice, each of whose rows of k cells is some y. -/
theorem RdW.list {Y : Type} (C : Y → Nat → Value) (Q : Y → Prop) (y0 : Y) {k : Nat} (h : RdW enc P w t cs) (ht : P.underlying t = some (.slice e)) (hk : P.cellsOf e = k) (hk0 : 0 < k)
    (hrow : ∀ l, l.length = k → RdW enc P w e l → ∃ y, Q y ∧ ∀ j, j < k → l[j]? = some (C y j)) :
    ∃ (A : Option Addr) (c : Nat) (l : List Y), cs = [.slice A l.length c] ∧ (∀ y ∈ l, Q y) ∧ Sl w w.heap.size k A l.length (fun i => C (l.getD i y0)) ∧ l.length * P.bytesOf e ≤ reachBytes := by
  rcases h.slice ht with rfl | ⟨a, len, cap, rfl, hm, hby, hi⟩
  · exact ⟨none, 0, [], rfl, fun y hy => by simp at hy, Sl.nil _ _ _ _ _, by simp⟩
  · rw [hk] at hi
    have hex : ∀ i, ∃ y, i < len → Q y ∧ ∀ j, j < k → w.cell? ((a.add (i * k)).add j) = some (C y j) := fun i => by
      by_cases hlt : i < len
      · obtain ⟨l, hl, hr⟩ := hi i hlt
        obtain ⟨h1, h2⟩ := cells_get hl
        obtain ⟨y, hq, hy⟩ := hrow l h1 hr
        exact ⟨y, fun _ => ⟨hq, fun j hj => (h2 j hj).trans (hy j hj)⟩⟩
      · exact ⟨y0, fun h => absurd h hlt⟩
    obtain ⟨f, hf⟩ := Classical.axiomOfChoice hex
    have hlen : ((List.range len).map f).length = len := by simp
    have hget : ∀ i, i < len → ((List.range len).map f).getD i y0 = f i := fun i hlt => by simp [hlt]
    refine ⟨some a, cap, (List.range len).map f, by rw [hlen], fun y hy => ?_, ⟨?_, fun h0 => ?_⟩, by rw [hlen]; exact hby⟩
    · obtain ⟨i, h1, rfl⟩ := List.mem_map.1 hy
      exact (hf i (by simpa using h1)).1
    · rw [hlen]; unfold maxLen at hm; omega
    · rw [hlen] at h0
      have h1 := (hf 0 h0).2 0 hk0
      simp only [Nat.zero_mul, Addr.add] at h1
      obtain ⟨b, off, sp⟩ := a
      have hsp : sp = none := by
        cases sp with
        | none => rfl
        | some s => simp [World.cell?] at h1; split at h1 <;> cases h1
      subst hsp
      refine ⟨b, off, rfl, World.block_lt_of_cell? w _ h1, fun i hi2 j hj => ?_⟩
      rw [hlen] at hi2
      show w.cell? _ = some (C (((List.range len).map f).getD i y0) j)
      rw [hget i hi2]
      have := (hf i hi2).2 j hj
      rwa [Addr.add_lit, Addr.add_lit] at this
theorem heavy_all {ts : List TypeId} {ds : List (DataW H)} (h : (DataW.weightsEach P (ts ++ []) (ds ++ [])).all (· ≤ reachBytes) = true) {j : Nat} {t : TypeId} {d : DataW H} (ht : ts[j]? = some t) (hd : ds[j]? = some d) : ∀ n ∈ d.weights P t, n ≤ reachBytes := by
  intro n hn
  rw [List.append_nil, List.append_nil] at h
  have := List.all_eq_true.1 h n (DataW.weights_mem_each ht hd n hn)
  simpa using this
end
end Go.Proofs.YtogobjmmgjfjjaaGreat
/- What is proved: what the form's reading of a plant, of acts, of literals says of the cells. Conditions: those that each lemma states. -/
namespace Go.Proofs.YtogobjmmgjfjjaaGreat
open Go.ChangeShapes Go.WideShapes Go.ChangeAt Go.RowKit

theorem Sl.congr {w : World} {B k n : Nat} {A : Option Addr} {f g : Nat → Nat → Value} (h : Sl w B k A n f) (hf : ∀ i, i < n → ∀ j, j < k → f i j = g i j) : Sl w B k A n g :=
  ⟨h.1, fun hn => by obtain ⟨b, off, e, h1, h2⟩ := h.2 hn; exact ⟨b, off, e, h1, fun i hi j hj => (h2 i hi j hj).trans (by rw [hf i hi j hj])⟩⟩
def structOf (P : Program) (t : TypeId) : Array Field := match P.underlying t with | some (.struct f) => f | _ => #[]
theorem cells_int : Tryz.prog.cellsOf 3 = 1 := by kernel_rfl
theorem cells_bool : Tryz.prog.cellsOf 4 = 1 := by kernel_rfl
theorem cells_string : Tryz.prog.cellsOf 9 = 1 := by kernel_rfl
theorem und_int : Tryz.prog.underlying 3 = some (.int .i64) := by kernel_rfl
theorem und_bool : Tryz.prog.underlying 4 = some .bool := by kernel_rfl
theorem und_string : Tryz.prog.underlying 9 = some .string := by kernel_rfl
theorem row_get {cs : List Value} {j : Nat} {v : Value} (h : (cs.drop j).take 1 = [v]) : cs[j]? = some v := by
  have := congrArg (·[0]?) h
  simpa [List.getElem?_take, List.getElem?_drop] using this
section
variable {H : Type} {enc : TypeId × Value → H} {w : World} {cs : List Value} {j : Nat}
theorem rwInt (h : RdW enc Tryz.prog w 3 ((cs.drop j).take (Tryz.prog.cellsOf 3))) : ∃ n, cs[j]? = some (.int .i64 n) ∧ -9223372036854775808 ≤ n ∧ n ≤ 9223372036854775807 := by
  rw [cells_int] at h
  obtain ⟨n, e, hw⟩ := h.rd.int und_int
  exact ⟨n, row_get e, (i64_bd hw).1, (i64_bd hw).2⟩
theorem rwBool (h : RdW enc Tryz.prog w 4 ((cs.drop j).take (Tryz.prog.cellsOf 4))) : ∃ n, cs[j]? = some (.bool n) := by
  rw [cells_bool] at h
  obtain ⟨n, e⟩ := h.rd.bool und_bool
  exact ⟨n, row_get e⟩
theorem rwString (h : RdW enc Tryz.prog w 9 ((cs.drop j).take (Tryz.prog.cellsOf 9))) : ∃ n, cs[j]? = some (.string n) := by
  rw [cells_string] at h
  obtain ⟨n, e, _⟩ := h.rd.string und_string
  exact ⟨n, row_get e⟩
theorem und_tankS : Tryz.prog.underlying 72 = some (.struct (structOf Tryz.prog 72)) := by kernel_rfl
theorem und_valveS : Tryz.prog.underlying 78 = some (.struct (structOf Tryz.prog 78)) := by kernel_rfl
theorem und_lineS : Tryz.prog.underlying 76 = some (.struct (structOf Tryz.prog 76)) := by kernel_rfl
theorem und_litS : Tryz.prog.underlying 79 = some (.struct (structOf Tryz.prog 79)) := by kernel_rfl
theorem und_plantS : Tryz.prog.underlying 27 = some (.struct (structOf Tryz.prog 27)) := by kernel_rfl
theorem rwTank (h : RdW enc Tryz.prog w 72 cs) : ∃ y : TankD, True ∧ ∀ j, j < 4 → cs[j]? = some (tankC y j) := by
  obtain ⟨_, h2⟩ := h.fields (l := [(9, 0), (3, 1), (3, 2), (3, 3)]) und_tankS (by kernel_rfl)
  obtain ⟨a, e0⟩ := rwString (h2 (9, 0) (by simp))
  obtain ⟨b, e1, _⟩ := rwInt (h2 (3, 1) (by simp))
  obtain ⟨c, e2, _⟩ := rwInt (h2 (3, 2) (by simp))
  obtain ⟨d, e3, _⟩ := rwInt (h2 (3, 3) (by simp))
  refine ⟨⟨a, b, c, d⟩, trivial, fun j hj => ?_⟩
  match j, hj with
  | 0, _ => exact e0
  | 1, _ => exact e1
  | 2, _ => exact e2
  | 3, _ => exact e3
theorem rwValve (h : RdW enc Tryz.prog w 78 cs) : ∃ y : ValveD, True ∧ ∀ j, j < 3 → cs[j]? = some (valveC y j) := by
  obtain ⟨_, h2⟩ := h.fields (l := [(9, 0), (3, 1), (4, 2)]) und_valveS (by kernel_rfl)
  obtain ⟨a, e0⟩ := rwString (h2 (9, 0) (by simp))
  obtain ⟨b, e1, _⟩ := rwInt (h2 (3, 1) (by simp))
  obtain ⟨c, e2⟩ := rwBool (h2 (4, 2) (by simp))
  refine ⟨⟨a, b, c⟩, trivial, fun j hj => ?_⟩
  match j, hj with
  | 0, _ => exact e0
  | 1, _ => exact e1
  | 2, _ => exact e2
theorem rwLit (h : RdW enc Tryz.prog w 79 cs) : ∃ y : LitD, True ∧ ∀ j, j < 2 → cs[j]? = some (litC y j) := by
  obtain ⟨_, h2⟩ := h.fields (l := [(3, 0), (4, 1)]) und_litS (by kernel_rfl)
  obtain ⟨b, e1, _⟩ := rwInt (h2 (3, 0) (by simp))
  obtain ⟨c, e2⟩ := rwBool (h2 (4, 1) (by simp))
  refine ⟨⟨b, c⟩, trivial, fun j hj => ?_⟩
  match j, hj with
  | 0, _ => exact e1
  | 1, _ => exact e2
theorem rwInts (h : RdW enc Tryz.prog w 50 cs) : ∃ (A : Option Addr) (c : Nat) (l : List Int), cs = [.slice A l.length c] ∧ IntsAt w w.heap.size A l ∧ (∀ n ∈ l, -9223372036854775808 ≤ n ∧ n ≤ 9223372036854775807) := by
  obtain ⟨A, c, l, e, hq, hs, _⟩ := h.list (fun (n : Int) _ => Value.int .i64 n) (fun n => -9223372036854775808 ≤ n ∧ n ≤ 9223372036854775807) 0 (e := 3) (by kernel_rfl) cells_int (by omega) (fun l hl hr => by
    obtain ⟨n, e, hw⟩ := hr.rd.int und_int
    refine ⟨n, i64_bd hw, fun j hj => ?_⟩
    obtain rfl : j = 0 := by omega
    rw [e]; rfl)
  exact ⟨A, c, l, e, hs, hq⟩
theorem rwLits (h : RdW enc Tryz.prog w 28 cs) : ∃ (A : Option Addr) (c : Nat) (l : List LitD), cs = [.slice A l.length c] ∧ LitsAt w w.heap.size A l := by
  obtain ⟨A, c, l, e, _, hs, _⟩ := h.list litC (fun _ => True) lit0 (e := 79) (by kernel_rfl) (k := 2) (by kernel_rfl) (by omega) (fun l _ hr => rwLit hr)
  exact ⟨A, c, l, e, hs⟩
def line1C (y : Option Addr × Nat × LineD) (j : Nat) : Value := lineC y.1 y.2.1 y.2.2 j
theorem rwLine (h : RdW enc Tryz.prog w 76 cs) : ∃ y : Option Addr × Nat × LineD, IntsAt w w.heap.size y.1 y.2.2.valves ∧ ∀ j, j < 5 → cs[j]? = some (line1C y j) := by
  obtain ⟨_, h2⟩ := h.fields (l := [(3, 0), (3, 1), (3, 2), (4, 3), (50, 4)]) und_lineS (by kernel_rfl)
  obtain ⟨a, e0, _⟩ := rwInt (h2 (3, 0) (by simp))
  obtain ⟨b, e1, _⟩ := rwInt (h2 (3, 1) (by simp))
  obtain ⟨c, e2, _⟩ := rwInt (h2 (3, 2) (by simp))
  obtain ⟨d, e3⟩ := rwBool (h2 (4, 3) (by simp))
  obtain ⟨A, n, l, e4, hl, _⟩ := rwInts (h2 (50, 4) (by simp))
  rw [show Tryz.prog.cellsOf 50 = 1 from by kernel_rfl] at e4
  refine ⟨⟨A, n, ⟨a, b, c, d, l⟩⟩, hl, fun j hj => ?_⟩
  match j, hj with
  | 0, _ => exact e0
  | 1, _ => exact e1
  | 2, _ => exact e2
  | 3, _ => exact e3
  | 4, _ => exact row_get e4
def never1C (y : Option Addr × Nat × List LitD) (_ : Nat) : Value := .slice y.1 y.2.2.length y.2.1
theorem map_getD {α β : Type} (l : List α) (f : α → β) (i : Nat) (a : α) (b : β) (hi : i < l.length) : (l.map f).getD i b = f (l.getD i a) := by
  rw [List.getD_eq_getElem?_getD, List.getD_eq_getElem?_getD]
  simp [hi]
theorem rwPlant (h : RdW enc Tryz.prog w 27 cs) : ∃ (x : PV) (p : PlantD), cs = (plantA x p).toList ∧ PlantAt w w.heap.size x p := by
  obtain ⟨hlen, h2⟩ := h.fields (l := [(22, 0), (23, 1), (24, 2), (25, 3)]) und_plantS (by kernel_rfl)
  rw [show Tryz.prog.cellsOf 27 = 4 from by kernel_rfl] at hlen
  obtain ⟨tA, tc, tl, e0, _, ht, hbt⟩ := (h2 (22, 0) (by simp)).list tankC (fun _ => True) tank0 (e := 72) (by kernel_rfl) (k := 4) (by kernel_rfl) (by omega) (fun l _ hr => rwTank hr)
  obtain ⟨vA, vc, vl, e1, _, hv, hbv⟩ := (h2 (23, 1) (by simp)).list valveC (fun _ => True) valve0 (e := 78) (by kernel_rfl) (k := 3) (by kernel_rfl) (by omega) (fun l _ hr => rwValve hr)
  obtain ⟨lA, lc, ll, e2, hql, hl, _⟩ := (h2 (24, 2) (by simp)).list line1C (fun y => IntsAt w w.heap.size y.1 y.2.2.valves) (none, 0, line0) (e := 76) (by kernel_rfl) (k := 5) (by kernel_rfl) (by omega) (fun l _ hr => rwLine hr)
  obtain ⟨nA, nc, nl, e3, hqn, hn, _⟩ := (h2 (25, 3) (by simp)).list never1C (fun y => LitsAt w w.heap.size y.1 y.2.2) (none, 0, []) (e := 28) (by kernel_rfl) (k := 1) (by kernel_rfl) (by omega) (fun l _ hr => by
    obtain ⟨A, c, l', e, hs⟩ := rwLits hr
    refine ⟨(A, c, l'), hs, fun j hj => ?_⟩
    obtain rfl : j = 0 := by omega
    rw [e]; rfl)
  rw [show Tryz.prog.cellsOf 22 = 1 from by kernel_rfl] at e0
  rw [show Tryz.prog.cellsOf 23 = 1 from by kernel_rfl] at e1
  rw [show Tryz.prog.cellsOf 24 = 1 from by kernel_rfl] at e2
  rw [show Tryz.prog.cellsOf 25 = 1 from by kernel_rfl] at e3
  refine ⟨⟨tA, tc, vA, vc, lA, lc, nA, nc, fun i => (ll.getD i (none, 0, line0)).1, fun i => (ll.getD i (none, 0, line0)).2.1, fun i => (nl.getD i (none, 0, [])).1, fun i => (nl.getD i (none, 0, [])).2.1⟩,
    ⟨tl, vl, ll.map (·.2.2), nl.map (·.2.2)⟩, ?_, ?_⟩
  · apply List.ext_getElem?
    intro j
    simp only [plantA, List.length_map]
    match j with
    | 0 => exact row_get e0
    | 1 => exact row_get e1
    | 2 => exact row_get e2
    | 3 => exact row_get e3
    | j + 4 => rw [List.getElem?_eq_none (by omega), List.getElem?_eq_none (by simp)]
  · refine ⟨ht, hv, ?_, fun i hi => ?_, ?_, fun i hi => ?_, ?_⟩
    · rw [List.length_map]
      refine Sl.congr hl fun i hi j hj => ?_
      show line1C _ j = lineC _ _ (PlantD.line _ i) j
      unfold PlantD.line line1C
      rw [map_getD ll (·.2.2) i (none, 0, line0) line0 hi]
    · simp only [List.length_map] at hi
      unfold PlantD.line
      rw [map_getD ll (·.2.2) i (none, 0, line0) line0 hi]
      refine hql _ ?_
      rw [List.getD_eq_getElem?_getD, List.getElem?_eq_getElem hi]; exact List.getElem_mem hi
    · rw [List.length_map]
      refine Sl.congr hn fun i hi j hj => ?_
      show never1C _ j = _
      unfold never1C PlantD.nev
      rw [map_getD nl (·.2.2) i (none, 0, []) [] hi]
    · simp only [List.length_map] at hi
      unfold PlantD.nev
      rw [map_getD nl (·.2.2) i (none, 0, []) [] hi]
      refine hqn _ ?_
      rw [List.getD_eq_getElem?_getD, List.getElem?_eq_getElem hi]; exact List.getElem_mem hi
    · rw [show Tryz.prog.bytesOf 72 = 40 from by kernel_rfl] at hbt
      rw [show Tryz.prog.bytesOf 78 = 32 from by kernel_rfl] at hbv
      have := reachBytes_lt
      simp only [show (2:Nat)^47 = 140737488355328 from rfl] at this
      show tl.length * 16 ≤ _ ∧ vl.length * 16 ≤ _
      constructor <;> omega
end
end Go.Proofs.YtogobjmmgjfjjaaGreat
/- What is proved: the shapes of a law's arguments. Conditions: those that each lemma states. -/
namespace Go.Proofs.YtogobjmmgjfjjaaGreat
open Go.ChangeShapes Go.WideShapes Go.ChangeAt Go.RowKit
theorem ownKnobL : ownKnob Tryz.prog.godebug = none := by kernel_rfl
section
variable {H : Type} {enc : TypeId × Value → H} {P : Program} {w : World} {t e : TypeId} {base : Nat} {v : Value}
theorem okWide_str {fs : Array Field} (hu : P.underlying t = some (.struct fs)) (h : Value.okWide P w .any base t v) : ∃ cs, v = .agg cs := by
  simp only [Value.okWide, hu] at h
  obtain ⟨cs, rfl, _⟩ := h
  exact ⟨cs, rfl⟩
theorem okWide_sl (hu : P.underlying t = some (.slice e)) (h : Value.okWide P w .any base t v) (u : Value) (hc : v.cells.toList = [u]) : v = u := by
  simp only [Value.okWide, hu, Cell.okWide] at h
  cases v <;> simp [Value.cells] at hc <;> first | exact hc | (simp [Cell.ok, hu] at h)
end
set_option maxRecDepth 100000 in
theorem arg_plant {H : Type} {enc : TypeId × Value → H} {w : World} {base : Nat} {v : Value} (ho : Value.okWide Tryz.prog w .any base 27 v) (h : RdW enc Tryz.prog w 27 v.cells.toList) :
    ∃ (x : PV) (p : PlantD), v = .agg (plantA x p) ∧ PlantAt w w.heap.size x p := by
  obtain ⟨cs, rfl⟩ := okWide_str (P := Tryz.prog) (t := 27) und_plantS ho
  obtain ⟨x, p, e, hp⟩ := rwPlant h
  exact ⟨x, p, congrArg Value.agg (Array.toList_inj.1 (show cs.toList = _ from e)), hp⟩
set_option maxRecDepth 100000 in
theorem arg_lits {H : Type} {enc : TypeId × Value → H} {w : World} {base : Nat} {v : Value} (ho : Value.okWide Tryz.prog w .any base 28 v) (h : RdW enc Tryz.prog w 28 v.cells.toList) :
    ∃ (A : Option Addr) (c : Nat) (l : List LitD), v = .slice A l.length c ∧ LitsAt w w.heap.size A l := by
  obtain ⟨A, c, l, e, hs⟩ := rwLits h
  exact ⟨A, c, l, okWide_sl (P := Tryz.prog) (t := 28) (e := 79) (by kernel_rfl) ho _ e, hs⟩
end Go.Proofs.YtogobjmmgjfjjaaGreat
/- What is proved: a sequence as plain data, and how it lies in memory; contracts of engine.ordered and engine.CheckSequence. Conditions: the plant and the sequence lie in memory as the plain data say. -/
namespace Go.Proofs.YtogobjmmgjfjjaaGreat
open Go.RowKit

structure NeedD where
  kind : Int
  of_ : Int
  low : Int
  high : Int
structure StepD where
  at_ : Int
  orders : List LitD
  needs : List NeedD
structure RedD where
  need : NeedD
  ticks : Int
structure SeqD where
  steps : List StepD
  reds : List RedD
  abort : List LitD
def need0 : NeedD := ⟨0, 0, 0, 0⟩
def step0 : StepD := ⟨0, [], []⟩
def red0 : RedD := ⟨need0, 0⟩
def SeqD.step (q : SeqD) (i : Nat) : StepD := q.steps.getD i step0
def SeqD.red (q : SeqD) (i : Nat) : RedD := q.reds.getD i red0
def needC (n : NeedD) : Nat → Value
  | 0 => .int .i64 n.kind
  | 1 => .int .i64 n.of_
  | 2 => .int .i64 n.low
  | _ => .int .i64 n.high
def redC (r : RedD) : Nat → Value
  | 0 => .int .i64 r.need.kind
  | 1 => .int .i64 r.need.of_
  | 2 => .int .i64 r.need.low
  | 3 => .int .i64 r.need.high
  | _ => .int .i64 r.ticks
def stepC (oA : Option Addr) (oc : Nat) (nA : Option Addr) (nc : Nat) (s : StepD) : Nat → Value
  | 0 => .int .i64 s.at_
  | 1 => .slice oA s.orders.length oc
  | _ => .slice nA s.needs.length nc
/-- Where the parts of a sequence lie. -/
structure QV where
  sA : Option Addr
  sc : Nat
  rA : Option Addr
  rc : Nat
  aA : Option Addr
  ac : Nat
  oA : Nat → Option Addr
  oc : Nat → Nat
  nA : Nat → Option Addr
  nc : Nat → Nat
def NeedsAt (w : World) (B : Nat) (A : Option Addr) (l : List NeedD) : Prop := Sl w B 4 A l.length fun i => needC (l.getD i need0)
structure SeqAt (w : World) (B : Nat) (y : QV) (q : SeqD) : Prop where
  steps : Sl w B 3 y.sA q.steps.length fun i => stepC (y.oA i) (y.oc i) (y.nA i) (y.nc i) (q.step i)
  so : ∀ i, i < q.steps.length → LitsAt w B (y.oA i) (q.step i).orders
  sn : ∀ i, i < q.steps.length → NeedsAt w B (y.nA i) (q.step i).needs
  reds : Sl w B 5 y.rA q.reds.length fun i => redC (q.red i)
  abort : LitsAt w B y.aA q.abort
theorem SeqAt.below {w w' : World} {B : Nat} {y : QV} {q : SeqD} (h : SeqAt w B y q) (hb : Below B w w') : SeqAt w' B y q :=
  ⟨h.steps.below hb, fun i hi => Sl.below (h.so i hi) hb, fun i hi => Sl.below (h.sn i hi) hb, h.reds.below hb, Sl.below h.abort hb⟩
theorem SeqAt.mono {w : World} {B B' : Nat} {y : QV} {q : SeqD} (h : SeqAt w B y q) (hb : B ≤ B') : SeqAt w B' y q :=
  ⟨h.steps.mono hb, fun i hi => Sl.mono (h.so i hi) hb, fun i hi => Sl.mono (h.sn i hi) hb, h.reds.mono hb, Sl.mono h.abort hb⟩
theorem plantB_lens {p : PlantD} (hv : plantB p = true) : 1 ≤ p.tanks.length ∧ p.tanks.length ≤ 16 ∧ 1 ≤ p.valves.length ∧ p.valves.length ≤ 12 ∧ p.lines.length ≤ 32 := by
  unfold plantB tankedB valvedB linedB apartB at hv
  simp only [Bool.and_eq_true, decide_eq_true_eq] at hv
  obtain ⟨⟨⟨⟨⟨⟨⟨_, h1⟩, _⟩, ⟨⟨_, h2⟩, _⟩⟩, ⟨h3, _⟩⟩, _⟩, _⟩, _⟩ := hv
  unfold inB at h1 h2
  simp at h1 h2
  omega

end Go.Proofs.YtogobjmmgjfjjaaGreat
/- What is proved: a contract of engine.CheckSequence. Conditions: the plant and the sequence lie in memory as the plain data say. -/
namespace Go.Proofs.YtogobjmmgjfjjaaGreat
open Go.RowKit
end Go.Proofs.YtogobjmmgjfjjaaGreat
/- What is proved: contracts of ullageref07's Need, orders, CheckSequence, Long. Conditions: the plant and the sequence lie in memory as the plain data say. -/
namespace Go.Proofs.YtogobjmmgjfjjaaGreat
open Go.RowKit
end Go.Proofs.YtogobjmmgjfjjaaGreat
