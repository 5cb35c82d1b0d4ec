/- What is proved: the texts V4, one behind the other; each says at its head what it proves, and under which conditions. -/
import Derived.StillTailTactics
import Derived.BigQuiet
import Derived.Outline
import Derived.Deep.CutBlock
import Derived.Deep.DeepCutAuto
import Derived.Test.YtogobjmmgjfjjaaGreatdPKeeps10
/- What is proved: the law EngineKeeps answers true. Conditions: the plant and the acts lie in memory. -/
namespace Go.Proofs.YtogobjmmgjfjjaaGreat
open Go.RowKit

theorem info_int2 : (Tryz.prog.info? 65).map (fun i => (i.zero, i.size, i.bytes)) = some (some (.agg #[.int .i64 0, .int .i64 0]), 2, 16) := by kernel_rfl
theorem made_base (n : Nat) : madeCells (Value.agg #[.int .i64 0, .int .i64 0]).cells (n * 2) = baseA n fun _ _ => 0 := by
  apply Array.ext_getElem?
  intro m
  by_cases hm : m < n * 2
  · obtain ⟨q, r, hr⟩ : ∃ q, ∃ r : Bool, m = q * 2 + (if r then 1 else 0) := ⟨m / 2, decide (m % 2 = 1), by by_cases h : m % 2 = 1 <;> simp [h] <;> omega⟩
    have hq : q < n := by cases r <;> simp at hr <;> omega
    subst hr
    rw [baseA_get _ _ _ _ hq]
    unfold madeCells
    simp only [Array.getElem?_map]
    rw [Array.getElem?_eq_getElem (by simpa using hm)]
    cases r <;> simp [Value.cells]
  · rw [Array.getElem?_eq_none (by rw [size_madeCells]; omega), Array.getElem?_eq_none (by rw [baseA_size]; omega)]
set_option maxRecDepth 100000 in
set_option maxHeartbeats 16000000 in
theorem keeps_any (w : World) (x : PV) (p : PlantD) (hp : PlantAt w w.heap.size x p) (A : Option Addr) (c : Nat) (l : List ActD) (hl : ActsAt w w.heap.size A l) :
    Calls Tryz.prog 6 #[.agg (plantA x p), .slice A l.length c] w fun e w' => e = .returned (.bool true) ∧ Below w.heap.size w w' := by
  obtain ⟨W, hW⟩ : ∃ W, W = w.alloc (.cells (plantA x p) 27) := ⟨_, rfl⟩
  have hbW : Below w.heap.size w W := by rw [hW]; exact (Below.refl _ _).alloc (Nat.le_refl _) _
  have hb0 : Bk W w.heap.size 27 (plantA x p) := by rw [hW]; exact Bk.new _ _ _
  have HC : Hid (∀ wx, Below W.heap.size W wx → Bk wx w.heap.size 27 (plantA x p)) := Lib.hid fun wx hx => hb0.below hx hb0.lt
  have HC4 : Hid (∀ wx, Below W.heap.size W wx → wx.cell? ⟨w.heap.size, 0, none⟩ = some (.slice x.tA p.tanks.length x.tc) ∧ wx.cell? ⟨w.heap.size, 1, none⟩ = some (.slice x.vA p.valves.length x.vc) ∧
      wx.cell? ⟨w.heap.size, 2, none⟩ = some (.slice x.lA p.lines.length x.lc) ∧ wx.cell? ⟨w.heap.size, 3, none⟩ = some (.slice x.nA p.never.length x.nc)) := Lib.hid fun wx hx =>
    have h0 := HC.out wx hx
    ⟨h0.cell 0, h0.cell 1, h0.cell 2, h0.cell 3⟩
  have HP : Hid (∀ wx, Below W.heap.size W wx → PlantAt wx wx.heap.size x p) := Lib.hid fun wx hx => ((hp.below hbW).below (hx.mono hbW.size)).mono (Nat.le_trans hbW.size hx.size)
  have HL : Hid (∀ wx, Below W.heap.size W wx → ActsAt wx wx.heap.size A l) := Lib.hid fun wx hx => Sl.mono (Sl.below (Sl.below hl hbW) (hx.mono hbW.size)) (Nat.le_trans hbW.size hx.size)
  have HB := Lib.hid hbW
  have HW := Lib.hid hW
  have HA := Lib.hid awake_any
  have HWs := Lib.hid hbW.size
  simp only [plantA] at HW
  clear hp hl hbW hb0 hW
  have HG := Lib.hid fun wx hx => great_any wx x p (HP.out wx hx)
  have HN := Lib.hid fun wx hx => new_any wx x p (HP.out wx hx)
  have HRP := Lib.hid fun wx hx => refCheckPlant_any wx x p (HP.out wx hx)
  simp only [plantA] at HG HN HRP
  have END : Hid (∀ wx, Below W.heap.size W wx → Calls Tryz.prog 14 #[] wx fun e w' => e = .returned (.bool true) ∧ Below W.heap.size W w') := Lib.hid fun wx hx =>
    (HA.out wx).mono fun e w' ⟨he, hb⟩ => ⟨he, hx.trans (hb.mono hx.size)⟩
  dsimp only [plantA]
  obtain ⟨n, hn⟩ : ∃ n, l.length = n := ⟨_, rfl⟩
  rw [hn]
  have HNL := Lib.hid hn
  clear hn
  obtain ⟨c0, c1, c2, c3⟩ := HC4.out W (Below.refl _ _)
  go_enter Tryz.func6, Tryz.ntmps6
  go_wp2_with fail
  rw [← HW.out]
  refine (HN.out W (Below.refl _ _)).mono ?_
  rintro e w1 ⟨hb1, hnew⟩
  have HB1 : Hid (Below W.heap.size W w1) := Lib.hid hb1
  clear hb1 c0 c1 c2 c3
  by_cases hpb : plantB p = true
  case neg => as_aux_lemma =>
    have hpb' : plantB p = false := by simpa using hpb
    rw [if_neg hpb] at hnew
    subst hnew
    have HPB := Lib.hid hpb'
    clear hpb hpb'
    obtain ⟨c0, c1, c2, c3⟩ := HC4.out w1 HB1.out
    go_wp2_with fail
    refine (HG.out w1 HB1.out).mono ?_
    rintro e w2 ⟨b1, rfl, _, hb2⟩
    have HB2 : Hid (Below W.heap.size W w2) := Lib.hid (HB1.out.trans (hb2.mono HB1.out.size))
    clear hb2 c0 c1 c2 c3
    obtain ⟨c0, c1, c2, c3⟩ := HC4.out w2 HB2.out
    have FIN : Hid (∀ wx, Below W.heap.size W wx → Below w.heap.size w wx) := Lib.hid fun wx hx => HB.out.trans (hx.mono HB.out.size)
    cases b1 with
    | true =>
      go_wp2_with fail
      refine (END.out w2 HB2.out).mono ?_
      rintro e w3 ⟨rfl, hb3⟩
      go_wp2_with fail
      go_ret
      exact ⟨rfl, FIN.out _ hb3⟩
    | false =>
      by_cases h150 : (150 : Int) < (n : Int)
      · go_wp2_with fail
        refine (END.out w2 HB2.out).mono ?_
        rintro e w3 ⟨rfl, hb3⟩
        go_wp2_with fail
        go_ret
        exact ⟨rfl, FIN.out _ hb3⟩
      · go_wp2_with fail
        have c := HRP.out w2 HB2.out
        rw [HPB.out] at c
        refine c.mono ?_
        rintro e w3 ⟨rfl, hb3⟩
        have HB3 : Hid (Below W.heap.size W w3) := Lib.hid (HB2.out.trans (hb3.mono HB2.out.size))
        clear hb3 c c0 c1 c2 c3
        go_wp2_with fail
        refine (END.out w3 HB3.out).mono ?_
        rintro e w4 ⟨rfl, hb4⟩
        go_wp2_with fail
        go_ret
        exact ⟨rfl, FIN.out _ hb4⟩
  case pos =>
    rw [if_pos hpb] at hnew
    obtain ⟨X, rfl, hsys, hlo⟩ := hnew
    letI : Exc := X.exc
    have HSY := Lib.hid hsys
    have HLO := Lib.hid (show W.heap.size ≤ X.lo from hlo)
    have HPB := Lib.hid hpb
    clear hpb hsys hlo
    obtain ⟨c0, c1, c2, c3⟩ := HC4.out w1 HB1.out
    go_wp2_with fail
    refine (HG.out w1 HB1.out).mono ?_
    rintro e w2 ⟨b1, rfl, _, hb2⟩
    have HB2 : Hid (Below W.heap.size W w2) := Lib.hid (HB1.out.trans (hb2.mono HB1.out.size))
    have HS2 := Lib.hid (HSY.out.below hb2)
    clear hb2 c0 c1 c2 c3
    obtain ⟨c0, c1, c2, c3⟩ := HC4.out w2 HB2.out
    have FIN : Hid (∀ wx, Below W.heap.size W wx → Below w.heap.size w wx) := Lib.hid fun wx hx => HB.out.trans (hx.mono HB.out.size)
    cases b1 with
    | true =>
      go_wp2_with fail
      refine (END.out w2 HB2.out).mono ?_
      rintro e w3 ⟨rfl, hb3⟩
      go_wp2_with fail
      go_ret
      exact ⟨rfl, FIN.out _ hb3⟩
    | false =>
      by_cases h150 : (150 : Int) < (n : Int)
      · go_wp2_with fail
        refine (END.out w2 HB2.out).mono ?_
        rintro e w3 ⟨rfl, hb3⟩
        go_wp2_with fail
        go_ret
        exact ⟨rfl, FIN.out _ hb3⟩
      go_wp2_with fail
      have cc := HRP.out w2 HB2.out
      rw [HPB.out] at cc
      refine cc.mono ?_
      rintro e w3 ⟨rfl, hb3⟩
      have HB3 : Hid (Below W.heap.size W w3) := Lib.hid (HB2.out.trans (hb3.mono HB2.out.size))
      have HS3 := Lib.hid (HS2.out.below hb3)
      clear hb3 cc c0 c1 c2 c3
      obtain ⟨c0, c1, c2, c3⟩ := HC4.out w3 HB3.out
      obtain ⟨i0, hi0, hz0, hz1, hz2⟩ := info_parts info_int2
      obtain ⟨nt, hnt⟩ : ∃ m, p.tanks.length = m := ⟨_, rfl⟩
      have hl16 := plantB_lens HPB.out
      rw [hnt] at hl16 c0
      have hn16 : nt ≤ 16 := hl16.2.1
      have KM : ∀ w : World, (Instr.makeSlice 64 (.int .i64 (nt : Int)) (.int .i64 (nt : Int))).run Tryz.prog w = .ok (.slice (some ⟨w.heap.size, 0, none⟩) nt nt) (w.alloc (.cells (baseA nt fun _ _ => 0) 65)) := fun w => by
        have hm := run_makeSlice (P := Tryz.prog) w 64 65 i0 _ Tryz.underlying64 hi0 hz0 .i64 .i64 (nt : Int) (nt : Int) (by omega) (by omega) (by rw [hz1, Int.toNat_natCast]; omega) (by rw [hz2]; omega) (by omega)
        rw [hz1, Int.toNat_natCast, made_base] at hm
        exact hm
      clear hl16
      go_wp2_with fail
      have HKI0 : Hid (KeepI W X w3.heap.size p (w3.alloc (.cells (baseA nt fun _ _ => 0) 65)) (startB p) (fun _ _ => 0)) := Lib.hid (by
        have hal : Below w3.heap.size w3 (w3.alloc (.cells (baseA nt fun _ _ => 0) 65)) := (Below.refl _ _).alloc (Nat.le_refl _) _
        exact ⟨HS3.out.below hal, HB3.out.trans (hal.mono HB3.out.size), rfl, HLO.out, HS3.out.hi.2.2.2.2, by rw [hnt]; exact Bk.new _ _ _, fun t g => Bal.start p t g⟩)
      obtain ⟨bb, hbb⟩ : ∃ bb, w3.heap.size = bb := ⟨_, rfl⟩
      obtain ⟨w4, hw4⟩ : ∃ w4, w3.alloc (.cells (baseA nt fun _ _ => 0) 65) = w4 := ⟨_, rfl⟩
      rw [hw4, hbb] at HKI0
      rw [hw4, hbb]
      have HNT := Lib.hid hnt
      clear hw4 hbb HS3 HS2 HSY c0 c1 c2 c3 KM hi0 hz0 hz1 hz2 i0 hnt
      go_loopw [8] (fun i wr => ∃ (k : Nat) (St : Sys) (B : Nat → Bool → Int), k ≤ n ∧ i = .int .i64 k ∧ Hid (KeepI W X bb p wr St B)) (fun i _ => n - (intOf i).toNat)
      case atStart => exact ⟨0, startB p, _, Nat.zero_le _, rfl, HKI0⟩
      case round => as_aux_lemma =>
        obtain ⟨k, St, B, hk, rfl, hsd⟩ := hrel
        by_cases hlt : k < n
        · have hki : (k : Int) < (n : Int) := by omega
          have hlt' : k < l.length := by rw [HNL.out]; exact hlt
          obtain ⟨b, off, rfl, hB, d0, d1, d2, d3⟩ := (HL.out wr hsd.out.below).at4 hlt'
          obtain ⟨⟨what, a1, a2, a3⟩, hact⟩ : ∃ act, l.getD k act0 = act := ⟨_, rfl⟩
          rw [hact] at d0 d1 d2 d3
          simp only [actC] at d0 d1 d2 d3
          have HACTN := Lib.hid hact
          obtain ⟨E, hE⟩ : ∃ E, (doesB St what a1 a2 a3).1 = E := ⟨_, rfl⟩
          obtain ⟨T, hT⟩ : ∃ T, (doesB St what a1 a2 a3).2 = T := ⟨_, rfl⟩
          have hTp : T.p = p := by rw [← hT, doesB_p]; exact hsd.out.hp
          have HTP := Lib.hid hTp
          have HE := Lib.hid hE
          have HT := Lib.hid hT
          have HAC : Hid (∀ z, Below W.heap.size W z → z.cell? ⟨b, off + k * 4, none⟩ = some (.int .i64 what) ∧ z.cell? ⟨b, off + k * 4 + 1, none⟩ = some (.int .i64 a1) ∧ z.cell? ⟨b, off + k * 4 + 2, none⟩ = some (.int .i64 a2) ∧ z.cell? ⟨b, off + k * 4 + 3, none⟩ = some (.int .i64 a3)) := Lib.hid fun z hz => by
            obtain ⟨b', off', hA', _, g0, g1, g2, g3⟩ := (HL.out z hz).at4 hlt'
            rw [HACTN.out] at g0 g1 g2 g3
            simp only [actC] at g0 g1 g2 g3
            obtain ⟨rfl, rfl⟩ : b = b' ∧ off = off' := by simpa using hA'
            exact ⟨g0, g1, g2, g3⟩
          clear hact hE hT hTp
          go_wp2_with fail
          refine (does_any wr X St hsd.out.sys what a1 a2 a3).mono ?_
          rintro e w8 ⟨rfl, hs8, hc8⟩
          rw [HT.out] at hs8
          rw [HE.out]
          obtain ⟨hb8, hk8⟩ := hsd.out.call hc8
          have HS8 := Lib.hid hs8
          have HB8 := Lib.hid hb8
          have HK8 := Lib.hid hk8
          have HBAL : Hid (∀ t g, Bal T (baseB St what a1 a2 a3 B t g) t g) := Lib.hid fun t g => by rw [← HT.out]; exact (hsd.out.bal t g).does hsd.out.sys.ok what a1 a2 a3
          clear hs8 hc8 hb8 hk8 d0 d1 d2 d3 hB
          obtain ⟨g0, g1, g2, g3⟩ := HAC.out w8 HB8.out
          go_upto_region 11 with (fail)
          go_cut [68] (fun q w' => q = .bool (decide (what = 1 ∧ E = 0)) ∧ w8 = w')
          case first => as_aux_lemma =>
            by_cases k1 : what = 1
            · subst k1
              by_cases k2 : E = 0
              · subst k2
                go_wp2_with fail
                go_meet
                case rel => exact ⟨rfl, rfl⟩
              · go_wp2_with fail
                go_meet
                case rel => exact ⟨by simp [k2], rfl⟩
            · go_wp2_with fail
              go_meet
              case rel => exact ⟨by simp [k1], rfl⟩
          case rest =>
            obtain ⟨rfl, rfl⟩ := hcut
            go_upto_if 68 with (fail)
            go_cut [10] (fun _ w' => KeepI W X bb p w' T (baseB St what a1 a2 a3 B))
            case first => as_aux_lemma =>
              by_cases hq : what = 1 ∧ E = 0
              · obtain ⟨rfl, rfl⟩ := hq
                have hdo : doesB St 1 a1 a2 a3 = putB St a1 a2 a3 := by unfold doesB; rw [if_pos rfl]
                obtain ⟨ha0, han, _⟩ := putB_ok (by rw [← hdo]; exact HE.out)
                obtain ⟨ta, rfl⟩ := Int.eq_ofNat_of_zero_le ha0
                have hta : ta < p.tanks.length := by rw [← hsd.out.hp]; omega
                have htan : ta < nt := by rw [← HNT.out]; exact hta
                have htai : (ta : Int) < (nt : Int) := by omega
                obtain ⟨s0, hs0⟩ : ∃ v, sumK T ta false p.lines.length = v := ⟨_, rfl⟩
                obtain ⟨s1, hs1⟩ : ∃ v, sumK T ta true p.lines.length = v := ⟨_, rfl⟩
                have HSUM : Hid (∀ z, Below w8.heap.size w8 z → Calls Tryz.prog 29 #[.pointer (some ⟨X.sb, 0, none⟩), .agg (plantA x p), .int .i64 ta] z fun e w' => e = .returned (.agg #[.int .i64 s0, .int .i64 s1]) ∧ Below z.heap.size z w') := Lib.hid fun z hz => by
                  have h := sums_any z X T (HS8.out.below hz) x p (HP.out z (HB8.out.trans (hz.mono HB8.out.size))) HTP.out ta hta
                  rw [hs0, hs1] at h; exact h
                have HA1 : Hid (∀ z, Below w8.heap.size w8 z → z.cell? ⟨b, off + k * 4 + 1, none⟩ = some (.int .i64 ta)) := Lib.hid fun z hz => (HAC.out z (HB8.out.trans (hz.mono HB8.out.size))).2.1
                have HPK : Hid (∀ z, Below w8.heap.size w8 z → Bk z w.heap.size 27 (plantA x p)) := Lib.hid fun z hz => HC.out z (HB8.out.trans (hz.mono HB8.out.size))
                have HBU := Lib.hid (baseB_upd St ta a2 a3 B p.lines.length (by rw [hsd.out.hp]) HE.out)
                have HSA := Lib.hid (show sumK (doesB St 1 ta a2 a3).2 ta false p.lines.length = s0 by rw [HT.out]; exact hs0)
                have HSB := Lib.hid (show sumK (doesB St 1 ta a2 a3).2 ta true p.lines.length = s1 by rw [HT.out]; exact hs1)
                clear hdo ha0 han hs0 hs1 g0 g1 g2 g3
                go_wp2_with fail
                refine wp_region_steps (by kernel_rfl) (by kernel_rfl) (fun w1 => Below w8.heap.size w8 w1) (KE)
                  (fun ix u d w1 => (match ix with
                    | 0 => u = .pointer (some ⟨X.sb, 0, none⟩)
                    | 1 => u = .agg (plantA x p)
                    | 2 => u = .slice (some ⟨b, off, none⟩) n c
                    | 3 => u = .int .i64 k
                    | 4 => u = .pointer (some ⟨b, off + k * 4, none⟩)
                    | 5 => u = .pointer (some ⟨b, off + k * 4 + 1, none⟩)
                    | 6 => u = .int .i64 ta
                    | 7 => u = .agg #[.int .i64 s0, .int .i64 s1]
                    | 8 => True
                    | _ => True) ∧ KR w8 s0 s1 ix u d w1) (Below.refl _ _).drew (fun i j hij _ u d w1 w2 ⟨hr1, hr2⟩ _ he => ⟨hr1, hr2.keep hij he⟩) ?_ ?_
                · refine ⟨?_, ?_, ?_, ?_, ?_, ?_, ?_, ?_, ?_, ?_, trivial⟩
                  · intro a w1 vs K HJ HK HD HN kk
                    have e5 := HK 5 (by decide)
                    go_simp; exact kk _ _ (by simp) HJ (KE.same _ (by omega)) ⟨rfl, ⟨fun e => by omega, fun e => by omega⟩⟩
                  · intro a w1 vs K HJ HK HD HN kk
                    have e2 := HK 2 (by decide)
                    exact wpo_loadS 27 (.tmp 2) rfl w.heap.size 0 (by simpa [Act.eval] using e2) (plantA x p) _ (fun j u hj => by rw [Nat.zero_add]; exact ((HPK.out w1 HJ).cell j).trans hj) und_plant rfl info_plant (kk _ _ (by simp) HJ (KE.same _ (by omega)) ⟨rfl, ⟨fun e => by omega, fun e => by omega⟩⟩)
                  · intro a w1 vs K HJ HK HD HN kk
                    have e1 := HK 1 (by decide)
                    go_simp; exact kk _ _ (by simp) HJ (KE.same _ (by omega)) ⟨rfl, ⟨fun e => by omega, fun e => by omega⟩⟩
                  · intro a w1 vs K HJ HK HD HN kk
                    have e8 := HK 8 (by decide)
                    go_simp; exact kk _ _ (by simp) HJ (KE.same _ (by omega)) ⟨rfl, ⟨fun e => by omega, fun e => by omega⟩⟩
                  · intro a w1 vs K HJ HK HD HN kk
                    have e71 := (HD 2 _ 71 rfl rfl rfl).1.trans (HD 2 _ 71 rfl rfl rfl).2.1
                    have e72 := (HD 3 _ 72 rfl rfl rfl).1.trans (HD 3 _ 72 rfl rfl rfl).2.1
                    go_simp; exact kk _ _ (by simp) HJ (KE.same _ (by omega)) ⟨rfl, ⟨fun e => by omega, fun e => by omega⟩⟩
                  · intro a w1 vs K HJ HK HD HN kk
                    have e73 := (HD 4 _ 73 rfl rfl rfl).1.trans (HD 4 _ 73 rfl rfl rfl).2.1
                    go_simp; exact kk _ _ (by simp) HJ (KE.same _ (by omega)) ⟨rfl, ⟨fun e => by omega, fun e => by omega⟩⟩
                  · intro a w1 vs K HJ HK HD HN kk
                    have e74 := (HD 5 _ 74 rfl rfl rfl).1.trans (HD 5 _ 74 rfl rfl rfl).2.1
                    have ca := HA1.out w1 HJ
                    go_simp; exact kk _ _ (by simp) HJ (KE.same _ (by omega)) ⟨rfl, ⟨fun e => by omega, fun e => by omega⟩⟩
                  · intro a w1 vs K HJ HK HD HN kk
                    have e69 := (HD 0 _ 69 rfl rfl rfl).1.trans (HD 0 _ 69 rfl rfl rfl).2.1
                    have e70 := (HD 1 _ 70 rfl rfl rfl).1.trans (HD 1 _ 70 rfl rfl rfl).2.1
                    have e75 := (HD 6 _ 75 rfl rfl rfl).1.trans (HD 6 _ 75 rfl rfl rfl).2.1
                    exact wpo_call 29 _ _ rfl #[.pointer (some ⟨X.sb, 0, none⟩), .agg (plantA x p), .int .i64 ta] (by simp [Act.eval, e69, e70, e75]) (fun args w => by kernel_rfl)
                      ((HSUM.out w1 HJ).mono fun e w' ⟨he, hb⟩ => ⟨_, he, kk _ _ (by simp) (HJ.trans (hb.mono HJ.size)) (KE.below (by omega) hb) ⟨rfl, ⟨fun e => by omega, fun e => by omega⟩⟩⟩)
                  · intro a w1 vs K HJ HK HD HN kk
                    go_simp; exact kk _ _ (by simp) (HJ.alloc HJ.size _) (KE.below (by omega) ((Below.refl _ _).alloc (Nat.le_refl _) _)) ⟨trivial, ⟨fun _ => ⟨_, rfl, HJ.size, _, _, Bk.new _ _ _⟩, fun e => by omega⟩⟩
                  · intro a w1 vs K HJ HK HD HN kk
                    have e76 := (HD 7 _ 76 rfl rfl rfl).1.trans (HD 7 _ 76 rfl rfl rfl).2.1
                    obtain ⟨q8, r8⟩ := HD 8 _ 10 rfl rfl rfl
                    obtain ⟨nb, x1, x2, c0', c1', x3⟩ := r8.2.1 rfl
                    exact wpo_storeS 65 (.tmp 10) (.tmp 76) rfl rfl nb 0 (by simpa [Act.eval] using q8.trans x1) #[.int .i64 s0, .int .i64 s1] (by simpa [Act.eval] using e76) 65 #[c0', c1'] x3 (by show 0 + 2 ≤ 2; omega) (by simp [Value.oneCell']) info_int2s fun w2 hk2 ho2 => by
                      have hk3 : Bk w2 nb 65 #[.int .i64 s0, .int .i64 s1] := by rw [splA_all #[c0', c1'] #[.int .i64 s0, .int .i64 s1] rfl] at hk2; exact hk2
                      exact kk undef _ (by simp) (HJ.trans (ho2.below x2)) (KE.store ho2 hk3) ⟨trivial, ⟨fun e => by omega, fun _ => ⟨nb, x1, x2, hk3⟩⟩⟩
                · intro vs w6 hw6 hrr
                  obtain ⟨nb, z1, z2, z3⟩ := (hrr 9 _ rfl).2.2 rfl
                  have z1' : vs 8 = .pointer (some ⟨nb, 0, none⟩) := z1
                  have HZ6 := Lib.hid hw6
                  have HK6 := Lib.hid z3
                  have HZ2 := Lib.hid z2
                  clear hrr z1 z3 hw6 z2
                  simp only [putAll, Act.put, List.setIfInBounds_toArray, List.set_cons_zero, List.set_cons_succ]
                  rw [z1']
                  clear z1'
                  have HB6 := Lib.hid (HB8.out.trans (HZ6.out.mono HB8.out.size))
                  obtain ⟨g0, g1, g2, g3⟩ := HAC.out w6 HB6.out
                  have n0 : w6.cell? ⟨nb, 0, none⟩ = some (.int .i64 s0) := HK6.out.cell 0
                  have n1 : w6.cell? ⟨nb, 1, none⟩ = some (.int .i64 s1) := HK6.out.cell 1
                  have hk6 : Bk w6 bb 65 (baseA p.tanks.length B) := HK8.out.below HZ6.out HK8.out.lt
                  have q0 : w6.cell? ⟨bb, ta * 2, none⟩ = some (.int .i64 (B ta false)) := (hk6.cell _).trans (baseA_get _ B ta false hta)
                  have q1 : w6.cell? ⟨bb, ta * 2 + 1, none⟩ = some (.int .i64 (B ta true)) := (hk6.cell _).trans (baseA_get _ B ta true hta)
                  have f0 := hk6.free (ta * 2)
                  have f1 := hk6.free (ta * 2 + 1)
                  have h0a : (0 : Int) ≤ (ta : Int) := by omega
                  have HK6B := Lib.hid hk6
                  clear hk6
                  go_wp2_with fail
                  go_still_tail 24, (by kernel_rfl)
                  go_wp2_with fail
                  go_meet
                  case rel =>
                    have e : baseB St 1 ta a2 a3 B = setBs (setBs B ta false (wrap64 (a2 - s0))) ta true (wrap64 (a3 - s1)) := by
                      have h := HBU.out
                      rw [Int.toNat_natCast, HSA.out, HSB.out] at h; exact h
                    have hk := (HK6B.out.set (ta * 2) (.int .i64 (wrap64 (a2 - s0)))).set (ta * 2 + 1) (.int .i64 (wrap64 (a3 - s1)))
                    have e1 : (baseA p.tanks.length B).setIfInBounds (ta * 2) (.int .i64 (wrap64 (a2 - s0))) = baseA p.tanks.length (setBs B ta false (wrap64 (a2 - s0))) := baseA_set p.tanks.length B ta false hta (wrap64 (a2 - s0))
                    have e2 : (baseA p.tanks.length (setBs B ta false (wrap64 (a2 - s0)))).setIfInBounds (ta * 2 + 1) (.int .i64 (wrap64 (a3 - s1))) = baseA p.tanks.length (setBs (setBs B ta false (wrap64 (a2 - s0))) ta true (wrap64 (a3 - s1))) := baseA_set p.tanks.length (setBs B ta false (wrap64 (a2 - s0))) ta true hta (wrap64 (a3 - s1))
                    rw [e1, e2, ← e] at hk
                    have hof : Only bb w6 ((w6.setCell ⟨bb, ta * 2, none⟩ (.int .i64 (wrap64 (a2 - s0)))).setCell ⟨bb, ta * 2 + 1, none⟩ (.int .i64 (wrap64 (a3 - s1)))) := (Only.setCell w6 bb _ _).trans (Only.setCell _ bb _ _)
                    have hS6 := HS8.out.below HZ6.out
                    have hhi := hsd.out.hi
                    exact ⟨(hS6.keep (fun b' _ hh => hof.block b' (by omega)) (by rw [hof.size]; exact Nat.le_refl _)).keep (fun _ _ _ => rfl) (Nat.le_refl _), (HB6.out.trans (hof.below hsd.out.bblt)).drew, HTP.out, hsd.out.lo, hhi, hk, HBAL.out⟩
              · have hd : decide (what = 1 ∧ E = 0) = false := by simpa using hq
                rw [hd]
                have hKI := baseB_no St what a1 a2 a3 B (by rw [HE.out]; exact hq)
                have HKI : Hid (KeepI W X bb p w8 T (baseB St what a1 a2 a3 B)) := Lib.hid ⟨HS8.out, HB8.out, HTP.out, hsd.out.lo, hsd.out.hi, by rw [hKI]; exact HK8.out, HBAL.out⟩
                clear hKI hd hq
                go_wp2_with fail
                go_meet
                case rel => exact HKI.out
            case rest =>
              have HKC : Hid (KeepI W X bb p wc T (baseB St what a1 a2 a3 B)) := Lib.hid hcut
              have HPR : Hid (∀ m, m < nt → what < 1 ∨ 4 < what → pressB T m ≤ (p.tank m).limit) := Lib.hid fun m hm hw => by
                have h1 := tick_press hsd.out.sys.ok m (by rw [hsd.out.hp, HNT.out]; exact hm)
                have e : T = tickB St := by rw [← HT.out, doesB_other (by omega) (by omega) (by omega) (by omega)]
                rw [hsd.out.hp] at h1
                rw [e]; exact h1
              obtain ⟨BB, hBB⟩ : ∃ BB, baseB St what a1 a2 a3 B = BB := ⟨_, rfl⟩
              rw [hBB] at HKC
              clear hcut hBB HBAL HE
              obtain ⟨c0, c1, c2, c3⟩ := HC4.out wc HKC.out.below
              rw [HNT.out] at c0
              go_wp2_with fail
              clear c0 c1 c2 c3
              go_loopw [11] (fun i wr => ∃ m : Nat, m ≤ nt ∧ i = .int .i64 m ∧ Hid (KeepI W X bb p wr T BB)) (fun i _ => nt - (intOf i).toNat)
              case atStart => exact ⟨0, Nat.zero_le _, rfl, HKC⟩
              case round => as_aux_lemma =>
                obtain ⟨m, hm, rfl, hsm⟩ := hrel
                obtain ⟨c0, c1, c2, c3⟩ := HC4.out wr hsm.out.below
                rw [HNT.out] at c0
                by_cases hlm : m < nt
                · have hmi : (m : Int) < (nt : Int) := by omega
                  have h0m : (0 : Int) ≤ (m : Int) := by omega
                  have hmp : m < p.tanks.length := by rw [HNT.out]; exact hlm
                  have hmT : m < T.p.tanks.length := by rw [HTP.out]; exact hmp
                  have hok := hsm.out.sys.ok
                  have b1 := tankOk_of hok.valid m hmT
                  have b2 := hok.tanks m hmT
                  have b3 := hok.room m hmT
                  rw [HTP.out] at b1 b2
                  have hN0 : numberB T 0 m = ((T.tank m).content, 0) := by
                    unfold numberB needB; rw [if_pos rfl, if_pos (inB_iff.2 (by omega))]; rfl
                  have hN1 : numberB T 1 m = (pressB T m, 0) := by
                    have hb : needB T.p 1 m = true := by unfold needB; rw [if_neg (show ¬ (1 : Int) = 0 by omega), if_pos rfl]; exact inB_iff.2 (by omega)
                    unfold numberB; rw [if_pos hb]; rfl
                  obtain ⟨ca, hca⟩ : ∃ v, (T.tank m).content = v := ⟨_, rfl⟩
                  obtain ⟨gs, hgs⟩ : ∃ v, (T.tank m).gas = v := ⟨_, rfl⟩
                  obtain ⟨pr, hpr⟩ : ∃ v, pressB T m = v := ⟨_, rfl⟩
                  obtain ⟨room, hroom⟩ : ∃ v, (p.tank m).room = v := ⟨_, rfl⟩
                  obtain ⟨least, hleast⟩ : ∃ v, (p.tank m).least = v := ⟨_, rfl⟩
                  obtain ⟨limit, hlimit⟩ : ∃ v, (p.tank m).limit = v := ⟨_, rfl⟩
                  obtain ⟨s0, hs0⟩ : ∃ v, sumK T m false p.lines.length = v := ⟨_, rfl⟩
                  obtain ⟨s1, hs1⟩ : ∃ v, sumK T m true p.lines.length = v := ⟨_, rfl⟩
                  have hw0 := (hsm.out.bal m false).num hok hmT
                  have hw1 := (hsm.out.bal m true).num hok hmT
                  have hrb : roomB T m = if least < room - ca then room - ca else least := by
                    unfold roomB; rw [HTP.out, hroom, hleast, hca]; exact max_go _ _
                  have hpq : pr = gs * 100 / roomB T m := by rw [← hpr, ← hgs]; rfl
                  rw [HTP.out, hs0] at hw0
                  rw [HTP.out, hs1] at hw1
                  have hw0' : wrap64 (BB m false + s0) = ca := by rw [hw0, ← hca]; rfl
                  have hw1' : wrap64 (BB m true + s1) = gs := by rw [hw1, ← hgs]; rfl
                  obtain ⟨B0, hB0⟩ : ∃ v, BB m false = v := ⟨_, rfl⟩
                  obtain ⟨B1, hB1⟩ : ∃ v, BB m true = v := ⟨_, rfl⟩
                  rw [hB0] at hw0'
                  rw [hB1] at hw1'
                  have hlim := HPR.out m hlm
                  rw [hpr, hlimit] at hlim
                  rw [hca, hgs, hroom] at b2
                  rw [hroom, hleast, hlimit] at b1
                  have HSUM := Lib.hid (sums_any wr X T hsm.out.sys x p (HP.out wr hsm.out.below) HTP.out m hmp)
                  rw [hs0, hs1] at HSUM
                  have HNM0 : Hid (∀ z, Below wr.heap.size wr z → Calls Tryz.prog 30 #[.pointer (some ⟨X.sb, 0, none⟩), .agg #[.int .i64 0, .int .i64 m, .int .i64 0, .int .i64 0]] z fun e w' => e = .returned (.tuple #[.int .i64 ca, .int .i64 0]) ∧ Below z.heap.size z w') := Lib.hid fun z hz => by
                    have h := number_any z X T (hsm.out.sys.below hz) 0 m 0 0
                    rw [hN0, hca] at h; exact h
                  have HNM1 : Hid (∀ z, Below wr.heap.size wr z → Calls Tryz.prog 30 #[.pointer (some ⟨X.sb, 0, none⟩), .agg #[.int .i64 1, .int .i64 m, .int .i64 0, .int .i64 0]] z fun e w' => e = .returned (.tuple #[.int .i64 pr, .int .i64 0]) ∧ Below z.heap.size z w') := Lib.hid fun z hz => by
                    have h := number_any z X T (hsm.out.sys.below hz) 1 m 0 0
                    rw [hN1, hpr] at h; exact h
                  have HF : Hid (∀ z, Below wr.heap.size wr z → z.cell? ⟨b, off + k * 4, none⟩ = some (.int .i64 what) ∧ z.cell? ⟨bb, m * 2, none⟩ = some (.int .i64 B0) ∧ z.cell? ⟨bb, m * 2 + 1, none⟩ = some (.int .i64 B1) ∧
                      ∃ bt ot, x.tA = some ⟨bt, ot, none⟩ ∧ z.cell? ⟨w.heap.size, 0, none⟩ = some (.slice (some ⟨bt, ot, none⟩) nt x.tc) ∧ z.cell? ⟨bt, ot + m * 4 + 1, none⟩ = some (.int .i64 room) ∧ z.cell? ⟨bt, ot + m * 4 + 2, none⟩ = some (.int .i64 least) ∧ z.cell? ⟨bt, ot + m * 4 + 3, none⟩ = some (.int .i64 limit)) := Lib.hid fun z hz => by
                    have hzz := hsm.out.below.trans (hz.mono hsm.out.below.size)
                    have hbz := hsm.out.base.below hz hsm.out.base.lt
                    obtain ⟨bt, ot, e1, _, _, e2, e3, e4⟩ := (HP.out z hzz).tanks.at4 (i := m) hmp
                    simp only [tankC, hroom, hleast, hlimit] at e2 e3 e4
                    have e0 := (HC4.out z hzz).1
                    rw [HNT.out, e1] at e0
                    exact ⟨(HAC.out z hzz).1, by rw [← hB0]; exact (hbz.cell _).trans (baseA_get _ BB m false hmp), by rw [← hB1]; exact (hbz.cell _).trans (baseA_get _ BB m true hmp), bt, ot, e1, e0, e2, e3, e4⟩
                  have HW0 := Lib.hid hw0'
                  have HW1 := Lib.hid hw1'
                  have HRB := Lib.hid hrb
                  have HPQ := Lib.hid hpq
                  simp only [plantA] at HSUM
                  rw [HNT.out] at HSUM
                  clear hN0 hN1 hca hgs hpr hroom hleast hlimit hs0 hs1 hw0 hw1 hw0' hw1' hB0 hB1 hrb hpq hok hmp hmT
                  go_wp2_with fail
                  refine HSUM.out.mono ?_
                  rintro e w9 ⟨rfl, hb9⟩
                  obtain ⟨W9, hW9⟩ : ∃ W9, W9 = w9.alloc (.cells #[.int .i64 s0, .int .i64 s1] 65) := ⟨_, rfl⟩
                  have hnk : Bk W9 w9.heap.size 65 #[.int .i64 s0, .int .i64 s1] := by rw [hW9]; exact Bk.new _ _ _
                  have HB9 : Hid (Below wr.heap.size wr W9) := Lib.hid (by rw [hW9]; exact hb9.alloc hb9.size _)
                  have HNK := Lib.hid hnk
                  have HW9 := Lib.hid hW9
                  clear hb9 hnk hW9 c0 c1 c2 c3
                  go_wp2_with fail
                  rw [← HW9.out]
                  refine (HNM0.out W9 HB9.out).mono ?_
                  rintro e w10 ⟨rfl, hb10⟩
                  have HB10 : Hid (Below wr.heap.size wr w10) := Lib.hid (HB9.out.trans (hb10.mono HB9.out.size))
                  have HNK10 := Lib.hid (HNK.out.below hb10 HNK.out.lt)
                  clear hb10
                  go_wp2_with fail
                  refine (HNM1.out w10 HB10.out).mono ?_
                  rintro e w11 ⟨rfl, hb11⟩
                  have HB11 : Hid (Below wr.heap.size wr w11) := Lib.hid (HB10.out.trans (hb11.mono HB10.out.size))
                  have HNK11 := Lib.hid (HNK10.out.below hb11 HNK10.out.lt)
                  clear hb11
                  obtain ⟨g0, q0, q1, bt, ot, hA, c0, t1, t2, t3⟩ := HF.out w11 HB11.out
                  have n0 : w11.cell? ⟨w9.heap.size, 0, none⟩ = some (.int .i64 s0) := HNK11.out.cell 0
                  have n1 : w11.cell? ⟨w9.heap.size, 1, none⟩ = some (.int .i64 s1) := HNK11.out.cell 1
                  have HKE : Hid (∀ z, Below w11.heap.size w11 z → KeepI W X bb p z T BB) := Lib.hid fun z hz => hsm.out.later (HB11.out.trans (hz.mono HB11.out.size))
                  clear hA HNK11 HNK10 HNK HF
                  have hlim2 : Hid (decide (what < 1 ∨ 4 < what) = true → pr ≤ limit) := Lib.hid fun h => hlim (of_decide_eq_true h)
                  clear hlim
                  try clear HC
                  try clear HC4
                  try clear HP
                  try clear HL
                  try clear HB
                  try clear HW
                  try clear HA
                  try clear HWs
                  try clear HG
                  try clear HN
                  try clear HRP
                  try clear END
                  try clear HNL
                  try clear HB1
                  try clear HPB
                  try clear HB2
                  try clear FIN
                  try clear HB3
                  try clear HKI0
                  try clear HNT
                  try clear HS8
                  try clear HB8
                  try clear HK8
                  try clear HSUM
                  try clear HNM0
                  try clear HNM1
                  try clear HB9
                  try clear HB10
                  try clear HB11
                  try clear HAC
                  try clear HPR
                  try clear HKC
                  try clear HACTN
                  try clear HTP
                  try clear HT
                  try clear HLO
                  try clear hsd
                  try clear hsm
                  try clear HW9
                  go_upto_region 20 with (fail)
                  go_cut [17] (fun q w' => q = .bool (decide (what < 1 ∨ 4 < what)) ∧ w11 = w')
                  case first => as_aux_lemma =>
                    by_cases hq1 : what < 1
                    · go_wp2_with fail
                      go_meet
                      case rel => exact ⟨by simp [hq1], rfl⟩
                    · by_cases hq2 : 4 < what
                      · go_wp2_with fail
                        go_meet
                        case rel => exact ⟨by simp [hq2], rfl⟩
                      · go_wp2_with fail
                        go_meet
                        case rel => exact ⟨by simp [hq1, hq2], rfl⟩
                  case rest =>
                  obtain ⟨hq17, rfl⟩ := hcut
                  obtain ⟨tk, htk⟩ : ∃ tk, decide (what < 1 ∨ 4 < what) = tk := ⟨_, rfl⟩
                  rw [htk] at hq17 hlim2
                  subst hq17
                  have hcase : tk = false ∨ (tk = true ∧ pr ≤ limit) := by
                    cases tk with
                    | false => exact Or.inl rfl
                    | true => exact Or.inr ⟨rfl, hlim2.out rfl⟩
                  clear hlim2 htk
                  have HE0 := Lib.hid (Ext.cell q0); have HE1 := Lib.hid (Ext.cell q1); have HEP := Lib.hid (Ext.cell c0); have HER := Lib.hid (Ext.cell t1); have HEL := Lib.hid (Ext.cell t2); have HEM := Lib.hid (Ext.cell t3); have HS0 := Lib.hid (Ext.cell n0); have HS1 := Lib.hid (Ext.cell n1)
                  have hca0 : decide (ca < 0) = false := by simp; omega
                  have hcar : decide (ca > room) = false := by simp; omega
                  have hcar' : decide (room < ca) = false := by simp; omega
                  have HD1 := Lib.hid hca0; have HD2 := Lib.hid hcar; have HD3 := Lib.hid hcar'
                  have HGS : Hid (0 ≤ gs ∧ gs ≤ 1073741824) := Lib.hid (by omega)
                  have HCR : Hid (0 ≤ ca ∧ ca ≤ room ∧ room ≤ 1073741824 ∧ 1 ≤ least ∧ least ≤ 1073741824) := Lib.hid (by omega)
                  have HB3' := Lib.hid b3
                  clear g0 q0 q1 c0 t1 t2 t3 n0 n1 hca0 hcar hcar' b1 b2 b3
                  go_upto_region 21 with (fail)
                  go_cut [184] (fun q w' => q = .bool false ∧ Below w11.heap.size w11 w')
                  case first => as_aux_lemma =>
                    rcases hcase with rfl | ⟨rfl, hq2⟩
                    · skip
                      refine wp_region_steps (by kernel_rfl) (by kernel_rfl) (fun w1 => Below w11.heap.size w11 w1) (fun _ _ _ => True)
                        (fun ix u _ _ => match ix with
                          | 0 => u = .int .i64 0
                          | 1 => u = .bool false
                          | 2 => u = .bool false
                          | 3 => u = .int .i64 0
                          | 4 => u = .bool false
                          | 5 => u = .bool false
                          | 6 => u = .bool false
                          | 7 => u = .int .i64 ca
                          | 8 => u = .slice (some ⟨bb, 0, none⟩) nt nt
                          | 9 => u = .int .i64 m
                          | 10 => u = .pointer (some ⟨bb, m * 2, none⟩)
                          | 11 => u = .pointer (some ⟨bb, m * 2, none⟩)
                          | 12 => u = .int .i64 B0
                          | 13 => u = .pointer (some ⟨w9.heap.size, 0, none⟩)
                          | 14 => u = .int .i64 s0
                          | 15 => u = .int .i64 ca
                          | 16 => u = .bool false
                          | 17 => u = .bool false
                          | 18 => u = .bool false
                          | 19 => u = .int .i64 ca
                          | 20 => u = .bool false
                          | 21 => u = .bool false
                          | 22 => u = .bool false
                          | 23 => u = .int .i64 ca
                          | 24 => u = .pointer (some ⟨w.heap.size, 0, none⟩)
                          | 25 => u = .slice (some ⟨bt, ot, none⟩) nt x.tc
                          | 26 => u = .int .i64 m
                          | 27 => u = .pointer (some ⟨bt, ot + m * 4, none⟩)
                          | 28 => u = .pointer (some ⟨bt, ot + m * 4 + 1, none⟩)
                          | 29 => u = .int .i64 room
                          | 30 => u = .bool false
                          | 31 => u = .bool false
                          | 32 => u = .bool false
                          | 33 => u = .bool false
                          | 34 => u = .bool false
                          | 35 => True
                          | 36 => True
                          | 37 => True
                          | 38 => True
                          | 39 => True
                          | 40 => True
                          | 41 => True
                          | 42 => True
                          | 43 => u = .bool false
                          | _ => u = .bool false) (Below.refl _ _).drew (fun _ _ _ _ _ _ _ _ h _ _ => h) ?_ ?_
                      · refine ⟨?_, ?_, ?_, ?_, ?_, ?_, ?_, ?_, ?_, ?_, ?_, ?_, ?_, ?_, ?_, ?_, ?_, ?_, ?_, ?_, ?_, ?_, ?_, ?_, ?_, ?_, ?_, ?_, ?_, ?_, ?_, ?_, ?_, ?_, ?_, ?_, ?_, ?_, ?_, ?_, ?_, ?_, ?_, ?_, ?_, trivial⟩
                        · intro a w1 vs K HJ HK HD HN kk
                          have e14 := HK 14 (by decide)
                          go_simp; exact kk _ _ (by simp) HJ trivial rfl
                        · intro a w1 vs K HJ HK HD HN kk
                          have e140 := (HD 0 _ 140 rfl rfl rfl).1.trans (HD 0 _ 140 rfl rfl rfl).2
                          go_simp; exact kk _ _ (by simp) HJ trivial rfl
                        · intro a w1 vs K HJ HK HD HN kk
                          have e141 := (HD 1 _ 141 rfl rfl rfl).1.trans (HD 1 _ 141 rfl rfl rfl).2
                          go_simp; exact kk _ _ (by simp) HJ trivial rfl
                        · intro a w1 vs K HJ HK HD HN kk
                          have e142 := (HD 2 _ 142 rfl rfl rfl).1.trans (HD 2 _ 142 rfl rfl rfl).2
                          rw [if_pos (wanted_yes 2 false rfl rfl rfl e142)]
                          have e16 := HK 16 (by decide)
                          go_simp; exact kk _ _ (by simp) HJ trivial rfl
                        · intro a w1 vs K HJ HK HD HN kk
                          have e142 := (HD 2 _ 142 rfl rfl rfl).1.trans (HD 2 _ 142 rfl rfl rfl).2
                          rw [if_pos (wanted_yes 2 false rfl rfl rfl e142)]
                          have e143 := (HD 3 _ 143 rfl rfl rfl).1.trans (HD 3 _ 143 rfl rfl rfl).2
                          go_simp; exact kk _ _ (by simp) HJ trivial rfl
                        · intro a w1 vs K HJ HK HD HN kk
                          have e142 := (HD 2 _ 142 rfl rfl rfl).1.trans (HD 2 _ 142 rfl rfl rfl).2
                          have e144 := (HD 4 _ 144 rfl rfl rfl).1.trans (HD 4 _ 144 rfl rfl rfl).2
                          go_simp; exact kk _ _ (by simp) HJ trivial rfl
                        · intro a w1 vs K HJ HK HD HN kk
                          have e145 := (HD 5 _ 145 rfl rfl rfl).1.trans (HD 5 _ 145 rfl rfl rfl).2
                          go_simp; exact kk _ _ (by simp) HJ trivial rfl
                        · intro a w1 vs K HJ HK HD HN kk
                          have e146 := (HD 6 _ 146 rfl rfl rfl).1.trans (HD 6 _ 146 rfl rfl rfl).2
                          rw [if_pos (wanted_yes 6 false rfl rfl rfl e146)]
                          have e13 := HK 13 (by decide)
                          go_simp; exact kk _ _ (by simp) HJ trivial rfl
                        · intro a w1 vs K HJ HK HD HN kk
                          have e146 := (HD 6 _ 146 rfl rfl rfl).1.trans (HD 6 _ 146 rfl rfl rfl).2
                          rw [if_pos (wanted_yes 6 false rfl rfl rfl e146)]
                          have e7 := HK 7 (by decide)
                          go_simp; exact kk _ _ (by simp) HJ trivial rfl
                        · intro a w1 vs K HJ HK HD HN kk
                          have e146 := (HD 6 _ 146 rfl rfl rfl).1.trans (HD 6 _ 146 rfl rfl rfl).2
                          rw [if_pos (wanted_yes 6 false rfl rfl rfl e146)]
                          have e11 := HK 11 (by decide)
                          go_simp; exact kk _ _ (by simp) HJ trivial rfl
                        · intro a w1 vs K HJ HK HD HN kk
                          have e146 := (HD 6 _ 146 rfl rfl rfl).1.trans (HD 6 _ 146 rfl rfl rfl).2
                          rw [if_pos (wanted_yes 6 false rfl rfl rfl e146)]
                          have e148 := (HD 8 _ 148 rfl rfl rfl).1.trans (HD 8 _ 148 rfl rfl rfl).2
                          have e149 := (HD 9 _ 149 rfl rfl rfl).1.trans (HD 9 _ 149 rfl rfl rfl).2
                          go_simp; exact kk _ _ (by simp) HJ trivial rfl
                        · intro a w1 vs K HJ HK HD HN kk
                          have e146 := (HD 6 _ 146 rfl rfl rfl).1.trans (HD 6 _ 146 rfl rfl rfl).2
                          rw [if_pos (wanted_yes 6 false rfl rfl rfl e146)]
                          have e150 := (HD 10 _ 150 rfl rfl rfl).1.trans (HD 10 _ 150 rfl rfl rfl).2
                          go_simp; exact kk _ _ (by simp) HJ trivial rfl
                        · intro a w1 vs K HJ HK HD HN kk
                          have e146 := (HD 6 _ 146 rfl rfl rfl).1.trans (HD 6 _ 146 rfl rfl rfl).2
                          rw [if_pos (wanted_yes 6 false rfl rfl rfl e146)]
                          have e151 := (HD 11 _ 151 rfl rfl rfl).1.trans (HD 11 _ 151 rfl rfl rfl).2
                          have ca : w1.cell? ⟨bb, m * 2, none⟩ = some (.int .i64 B0) := HE0.out ⟨w1, HJ⟩
                          go_simp; exact kk _ _ (by simp) HJ trivial rfl
                        · intro a w1 vs K HJ HK HD HN kk
                          have e146 := (HD 6 _ 146 rfl rfl rfl).1.trans (HD 6 _ 146 rfl rfl rfl).2
                          rw [if_pos (wanted_yes 6 false rfl rfl rfl e146)]
                          have e12 := HK 12 (by decide)
                          go_simp; exact kk _ _ (by simp) HJ trivial rfl
                        · intro a w1 vs K HJ HK HD HN kk
                          have e146 := (HD 6 _ 146 rfl rfl rfl).1.trans (HD 6 _ 146 rfl rfl rfl).2
                          rw [if_pos (wanted_yes 6 false rfl rfl rfl e146)]
                          have e153 := (HD 13 _ 153 rfl rfl rfl).1.trans (HD 13 _ 153 rfl rfl rfl).2
                          have ca : w1.cell? ⟨w9.heap.size, 0, none⟩ = some (.int .i64 s0) := HS0.out ⟨w1, HJ⟩
                          go_simp; exact kk _ _ (by simp) HJ trivial rfl
                        · intro a w1 vs K HJ HK HD HN kk
                          have e146 := (HD 6 _ 146 rfl rfl rfl).1.trans (HD 6 _ 146 rfl rfl rfl).2
                          rw [if_pos (wanted_yes 6 false rfl rfl rfl e146)]
                          have e152 := (HD 12 _ 152 rfl rfl rfl).1.trans (HD 12 _ 152 rfl rfl rfl).2
                          have e154 := (HD 14 _ 154 rfl rfl rfl).1.trans (HD 14 _ 154 rfl rfl rfl).2
                          have hw0 : IntKind.i64.wrap (B0 + s0) = ca := (IntWalk.i64_left _).trans HW0.out
                          go_simp; exact kk _ _ (by simp) HJ trivial rfl
                        · intro a w1 vs K HJ HK HD HN kk
                          have e146 := (HD 6 _ 146 rfl rfl rfl).1.trans (HD 6 _ 146 rfl rfl rfl).2
                          rw [if_pos (wanted_yes 6 false rfl rfl rfl e146)]
                          have e147 := (HD 7 _ 147 rfl rfl rfl).1.trans (HD 7 _ 147 rfl rfl rfl).2
                          have e155 := (HD 15 _ 155 rfl rfl rfl).1.trans (HD 15 _ 155 rfl rfl rfl).2
                          go_simp; exact kk _ _ (by simp) HJ trivial rfl
                        · intro a w1 vs K HJ HK HD HN kk
                          have e146 := (HD 6 _ 146 rfl rfl rfl).1.trans (HD 6 _ 146 rfl rfl rfl).2
                          have e156 := (HD 16 _ 156 rfl rfl rfl).1.trans (HD 16 _ 156 rfl rfl rfl).2
                          go_simp; exact kk _ _ (by simp) HJ trivial rfl
                        · intro a w1 vs K HJ HK HD HN kk
                          have e157 := (HD 17 _ 157 rfl rfl rfl).1.trans (HD 17 _ 157 rfl rfl rfl).2
                          go_simp; exact kk _ _ (by simp) HJ trivial rfl
                        · intro a w1 vs K HJ HK HD HN kk
                          have e158 := (HD 18 _ 158 rfl rfl rfl).1.trans (HD 18 _ 158 rfl rfl rfl).2
                          rw [if_pos (wanted_yes 18 false rfl rfl rfl e158)]
                          have e13 := HK 13 (by decide)
                          go_simp; exact kk _ _ (by simp) HJ trivial rfl
                        · intro a w1 vs K HJ HK HD HN kk
                          have e158 := (HD 18 _ 158 rfl rfl rfl).1.trans (HD 18 _ 158 rfl rfl rfl).2
                          rw [if_pos (wanted_yes 18 false rfl rfl rfl e158)]
                          have e159 := (HD 19 _ 159 rfl rfl rfl).1.trans (HD 19 _ 159 rfl rfl rfl).2
                          have h1 := HD1.out
                          go_simp; exact kk _ _ (by simp) HJ trivial rfl
                        · intro a w1 vs K HJ HK HD HN kk
                          have e158 := (HD 18 _ 158 rfl rfl rfl).1.trans (HD 18 _ 158 rfl rfl rfl).2
                          have e160 := (HD 20 _ 160 rfl rfl rfl).1.trans (HD 20 _ 160 rfl rfl rfl).2
                          go_simp; exact kk _ _ (by simp) HJ trivial rfl
                        · intro a w1 vs K HJ HK HD HN kk
                          have e161 := (HD 21 _ 161 rfl rfl rfl).1.trans (HD 21 _ 161 rfl rfl rfl).2
                          go_simp; exact kk _ _ (by simp) HJ trivial rfl
                        · intro a w1 vs K HJ HK HD HN kk
                          have e162 := (HD 22 _ 162 rfl rfl rfl).1.trans (HD 22 _ 162 rfl rfl rfl).2
                          rw [if_pos (wanted_yes 22 false rfl rfl rfl e162)]
                          have e13 := HK 13 (by decide)
                          go_simp; exact kk _ _ (by simp) HJ trivial rfl
                        · intro a w1 vs K HJ HK HD HN kk
                          have e162 := (HD 22 _ 162 rfl rfl rfl).1.trans (HD 22 _ 162 rfl rfl rfl).2
                          rw [if_pos (wanted_yes 22 false rfl rfl rfl e162)]
                          have e2 := HK 2 (by decide)
                          go_simp; exact kk _ _ (by simp) HJ trivial rfl
                        · intro a w1 vs K HJ HK HD HN kk
                          have e162 := (HD 22 _ 162 rfl rfl rfl).1.trans (HD 22 _ 162 rfl rfl rfl).2
                          rw [if_pos (wanted_yes 22 false rfl rfl rfl e162)]
                          have e164 := (HD 24 _ 164 rfl rfl rfl).1.trans (HD 24 _ 164 rfl rfl rfl).2
                          have ca : w1.cell? ⟨w.heap.size, 0, none⟩ = some (.slice (some ⟨bt, ot, none⟩) nt x.tc) := HEP.out ⟨w1, HJ⟩
                          go_simp; exact kk _ _ (by simp) HJ trivial rfl
                        · intro a w1 vs K HJ HK HD HN kk
                          have e162 := (HD 22 _ 162 rfl rfl rfl).1.trans (HD 22 _ 162 rfl rfl rfl).2
                          rw [if_pos (wanted_yes 22 false rfl rfl rfl e162)]
                          have e11 := HK 11 (by decide)
                          go_simp; exact kk _ _ (by simp) HJ trivial rfl
                        · intro a w1 vs K HJ HK HD HN kk
                          have e162 := (HD 22 _ 162 rfl rfl rfl).1.trans (HD 22 _ 162 rfl rfl rfl).2
                          rw [if_pos (wanted_yes 22 false rfl rfl rfl e162)]
                          have e165 := (HD 25 _ 165 rfl rfl rfl).1.trans (HD 25 _ 165 rfl rfl rfl).2
                          have e166 := (HD 26 _ 166 rfl rfl rfl).1.trans (HD 26 _ 166 rfl rfl rfl).2
                          go_simp; exact kk _ _ (by simp) HJ trivial rfl
                        · intro a w1 vs K HJ HK HD HN kk
                          have e162 := (HD 22 _ 162 rfl rfl rfl).1.trans (HD 22 _ 162 rfl rfl rfl).2
                          rw [if_pos (wanted_yes 22 false rfl rfl rfl e162)]
                          have e167 := (HD 27 _ 167 rfl rfl rfl).1.trans (HD 27 _ 167 rfl rfl rfl).2
                          go_simp; exact kk _ _ (by simp) HJ trivial rfl
                        · intro a w1 vs K HJ HK HD HN kk
                          have e162 := (HD 22 _ 162 rfl rfl rfl).1.trans (HD 22 _ 162 rfl rfl rfl).2
                          rw [if_pos (wanted_yes 22 false rfl rfl rfl e162)]
                          have e168 := (HD 28 _ 168 rfl rfl rfl).1.trans (HD 28 _ 168 rfl rfl rfl).2
                          have ca : w1.cell? ⟨bt, ot + m * 4 + 1, none⟩ = some (.int .i64 room) := HER.out ⟨w1, HJ⟩
                          go_simp; exact kk _ _ (by simp) HJ trivial rfl
                        · intro a w1 vs K HJ HK HD HN kk
                          have e162 := (HD 22 _ 162 rfl rfl rfl).1.trans (HD 22 _ 162 rfl rfl rfl).2
                          rw [if_pos (wanted_yes 22 false rfl rfl rfl e162)]
                          have e163 := (HD 23 _ 163 rfl rfl rfl).1.trans (HD 23 _ 163 rfl rfl rfl).2
                          have e169 := (HD 29 _ 169 rfl rfl rfl).1.trans (HD 29 _ 169 rfl rfl rfl).2
                          have h1 := HD2.out
                          have h2 := HD3.out
                          go_simp; exact kk _ _ (by simp) HJ trivial rfl
                        · intro a w1 vs K HJ HK HD HN kk
                          have e162 := (HD 22 _ 162 rfl rfl rfl).1.trans (HD 22 _ 162 rfl rfl rfl).2
                          have e170 := (HD 30 _ 170 rfl rfl rfl).1.trans (HD 30 _ 170 rfl rfl rfl).2
                          go_simp; exact kk _ _ (by simp) HJ trivial rfl
                        · intro a w1 vs K HJ HK HD HN kk
                          have e171 := (HD 31 _ 171 rfl rfl rfl).1.trans (HD 31 _ 171 rfl rfl rfl).2
                          go_simp; exact kk _ _ (by simp) HJ trivial rfl
                        · intro a w1 vs K HJ HK HD HN kk
                          have e172 := (HD 32 _ 172 rfl rfl rfl).1.trans (HD 32 _ 172 rfl rfl rfl).2
                          rw [if_pos (wanted_yes 32 false rfl rfl rfl e172)]
                          have e17 := HK 17 (by decide)
                          go_simp; exact kk _ _ (by simp) HJ trivial rfl
                        · intro a w1 vs K HJ HK HD HN kk
                          have e172 := (HD 32 _ 172 rfl rfl rfl).1.trans (HD 32 _ 172 rfl rfl rfl).2
                          rw [if_pos (wanted_yes 32 false rfl rfl rfl e172)]
                          have e173 := (HD 33 _ 173 rfl rfl rfl).1.trans (HD 33 _ 173 rfl rfl rfl).2
                          go_simp; exact kk _ _ (by simp) HJ trivial rfl
                        · intro a w1 vs K HJ HK HD HN kk
                          have e174 := (HD 34 _ 174 rfl rfl rfl).1.trans (HD 34 _ 174 rfl rfl rfl).2
                          rw [if_neg (wanted_no 34 true rfl rfl rfl e174)]
                          exact kk undef _ (by simp) HJ trivial trivial
                        · intro a w1 vs K HJ HK HD HN kk
                          have e174 := (HD 34 _ 174 rfl rfl rfl).1.trans (HD 34 _ 174 rfl rfl rfl).2
                          rw [if_neg (wanted_no 34 true rfl rfl rfl e174)]
                          exact kk undef _ (by simp) HJ trivial trivial
                        · intro a w1 vs K HJ HK HD HN kk
                          have e174 := (HD 34 _ 174 rfl rfl rfl).1.trans (HD 34 _ 174 rfl rfl rfl).2
                          rw [if_neg (wanted_no 34 true rfl rfl rfl e174)]
                          exact kk undef _ (by simp) HJ trivial trivial
                        · intro a w1 vs K HJ HK HD HN kk
                          have e174 := (HD 34 _ 174 rfl rfl rfl).1.trans (HD 34 _ 174 rfl rfl rfl).2
                          rw [if_neg (wanted_no 34 true rfl rfl rfl e174)]
                          exact kk undef _ (by simp) HJ trivial trivial
                        · intro a w1 vs K HJ HK HD HN kk
                          have e174 := (HD 34 _ 174 rfl rfl rfl).1.trans (HD 34 _ 174 rfl rfl rfl).2
                          rw [if_neg (wanted_no 34 true rfl rfl rfl e174)]
                          exact kk undef _ (by simp) HJ trivial trivial
                        · intro a w1 vs K HJ HK HD HN kk
                          have e174 := (HD 34 _ 174 rfl rfl rfl).1.trans (HD 34 _ 174 rfl rfl rfl).2
                          rw [if_neg (wanted_no 34 true rfl rfl rfl e174)]
                          exact kk undef _ (by simp) HJ trivial trivial
                        · intro a w1 vs K HJ HK HD HN kk
                          have e174 := (HD 34 _ 174 rfl rfl rfl).1.trans (HD 34 _ 174 rfl rfl rfl).2
                          rw [if_neg (wanted_no 34 true rfl rfl rfl e174)]
                          exact kk undef _ (by simp) HJ trivial trivial
                        · intro a w1 vs K HJ HK HD HN kk
                          have e174 := (HD 34 _ 174 rfl rfl rfl).1.trans (HD 34 _ 174 rfl rfl rfl).2
                          rw [if_neg (wanted_no 34 true rfl rfl rfl e174)]
                          exact kk undef _ (by simp) HJ trivial trivial
                        · intro a w1 vs K HJ HK HD HN kk
                          have e172 := (HD 32 _ 172 rfl rfl rfl).1.trans (HD 32 _ 172 rfl rfl rfl).2
                          rw [if_pos (wanted_yes 32 false rfl rfl rfl e172)]
                          have e174 := (HD 34 _ 174 rfl rfl rfl).1.trans (HD 34 _ 174 rfl rfl rfl).2
                          go_simp; exact kk _ _ (by simp) HJ trivial rfl
                        · intro a w1 vs K HJ HK HD HN kk
                          have e172 := (HD 32 _ 172 rfl rfl rfl).1.trans (HD 32 _ 172 rfl rfl rfl).2
                          have e183 := (HD 43 _ 183 rfl rfl rfl).1.trans (HD 43 _ 183 rfl rfl rfl).2
                          go_simp; exact kk _ _ (by simp) HJ trivial rfl
                      · intro vs w12 hw12 hrr
                        have e44 : vs 44 = .bool false := (hrr 44 _ rfl)
                        simp only [putAll, Act.put, List.setIfInBounds_toArray, List.set_cons_zero, List.set_cons_succ]
                        rw [e44]
                        clear hrr e44
                        have HW12 := Lib.hid hw12
                        clear hw12
                        go_wp2_with fail
                        go_meet
                        case rel => exact ⟨rfl, HW12.out⟩
                    · have HD4 : Hid (decide (pr > limit) = false ∧ decide (limit < pr) = false) := Lib.hid (by constructor <;> (simp; omega))
                      clear hq2
                      refine wp_region_steps (by kernel_rfl) (by kernel_rfl) (fun w1 => Below w11.heap.size w11 w1) (fun _ _ _ => True)
                        (fun ix u _ _ => match ix with
                          | 0 => u = .int .i64 0
                          | 1 => u = .bool false
                          | 2 => u = .bool false
                          | 3 => u = .int .i64 0
                          | 4 => u = .bool false
                          | 5 => u = .bool false
                          | 6 => u = .bool false
                          | 7 => u = .int .i64 ca
                          | 8 => u = .slice (some ⟨bb, 0, none⟩) nt nt
                          | 9 => u = .int .i64 m
                          | 10 => u = .pointer (some ⟨bb, m * 2, none⟩)
                          | 11 => u = .pointer (some ⟨bb, m * 2, none⟩)
                          | 12 => u = .int .i64 B0
                          | 13 => u = .pointer (some ⟨w9.heap.size, 0, none⟩)
                          | 14 => u = .int .i64 s0
                          | 15 => u = .int .i64 ca
                          | 16 => u = .bool false
                          | 17 => u = .bool false
                          | 18 => u = .bool false
                          | 19 => u = .int .i64 ca
                          | 20 => u = .bool false
                          | 21 => u = .bool false
                          | 22 => u = .bool false
                          | 23 => u = .int .i64 ca
                          | 24 => u = .pointer (some ⟨w.heap.size, 0, none⟩)
                          | 25 => u = .slice (some ⟨bt, ot, none⟩) nt x.tc
                          | 26 => u = .int .i64 m
                          | 27 => u = .pointer (some ⟨bt, ot + m * 4, none⟩)
                          | 28 => u = .pointer (some ⟨bt, ot + m * 4 + 1, none⟩)
                          | 29 => u = .int .i64 room
                          | 30 => u = .bool false
                          | 31 => u = .bool false
                          | 32 => u = .bool false
                          | 33 => u = .bool true
                          | 34 => u = .bool true
                          | 35 => u = .int .i64 pr
                          | 36 => u = .pointer (some ⟨w.heap.size, 0, none⟩)
                          | 37 => u = .slice (some ⟨bt, ot, none⟩) nt x.tc
                          | 38 => u = .int .i64 m
                          | 39 => u = .pointer (some ⟨bt, ot + m * 4, none⟩)
                          | 40 => u = .pointer (some ⟨bt, ot + m * 4 + 3, none⟩)
                          | 41 => u = .int .i64 limit
                          | 42 => u = .bool false
                          | 43 => u = .bool false
                          | _ => u = .bool false) (Below.refl _ _).drew (fun _ _ _ _ _ _ _ _ h _ _ => h) ?_ ?_
                      · refine ⟨?_, ?_, ?_, ?_, ?_, ?_, ?_, ?_, ?_, ?_, ?_, ?_, ?_, ?_, ?_, ?_, ?_, ?_, ?_, ?_, ?_, ?_, ?_, ?_, ?_, ?_, ?_, ?_, ?_, ?_, ?_, ?_, ?_, ?_, ?_, ?_, ?_, ?_, ?_, ?_, ?_, ?_, ?_, ?_, ?_, trivial⟩
                        · intro a w1 vs K HJ HK HD HN kk
                          have e14 := HK 14 (by decide)
                          go_simp; exact kk _ _ (by simp) HJ trivial rfl
                        · intro a w1 vs K HJ HK HD HN kk
                          have e140 := (HD 0 _ 140 rfl rfl rfl).1.trans (HD 0 _ 140 rfl rfl rfl).2
                          go_simp; exact kk _ _ (by simp) HJ trivial rfl
                        · intro a w1 vs K HJ HK HD HN kk
                          have e141 := (HD 1 _ 141 rfl rfl rfl).1.trans (HD 1 _ 141 rfl rfl rfl).2
                          go_simp; exact kk _ _ (by simp) HJ trivial rfl
                        · intro a w1 vs K HJ HK HD HN kk
                          have e142 := (HD 2 _ 142 rfl rfl rfl).1.trans (HD 2 _ 142 rfl rfl rfl).2
                          rw [if_pos (wanted_yes 2 false rfl rfl rfl e142)]
                          have e16 := HK 16 (by decide)
                          go_simp; exact kk _ _ (by simp) HJ trivial rfl
                        · intro a w1 vs K HJ HK HD HN kk
                          have e142 := (HD 2 _ 142 rfl rfl rfl).1.trans (HD 2 _ 142 rfl rfl rfl).2
                          rw [if_pos (wanted_yes 2 false rfl rfl rfl e142)]
                          have e143 := (HD 3 _ 143 rfl rfl rfl).1.trans (HD 3 _ 143 rfl rfl rfl).2
                          go_simp; exact kk _ _ (by simp) HJ trivial rfl
                        · intro a w1 vs K HJ HK HD HN kk
                          have e142 := (HD 2 _ 142 rfl rfl rfl).1.trans (HD 2 _ 142 rfl rfl rfl).2
                          have e144 := (HD 4 _ 144 rfl rfl rfl).1.trans (HD 4 _ 144 rfl rfl rfl).2
                          go_simp; exact kk _ _ (by simp) HJ trivial rfl
                        · intro a w1 vs K HJ HK HD HN kk
                          have e145 := (HD 5 _ 145 rfl rfl rfl).1.trans (HD 5 _ 145 rfl rfl rfl).2
                          go_simp; exact kk _ _ (by simp) HJ trivial rfl
                        · intro a w1 vs K HJ HK HD HN kk
                          have e146 := (HD 6 _ 146 rfl rfl rfl).1.trans (HD 6 _ 146 rfl rfl rfl).2
                          rw [if_pos (wanted_yes 6 false rfl rfl rfl e146)]
                          have e13 := HK 13 (by decide)
                          go_simp; exact kk _ _ (by simp) HJ trivial rfl
                        · intro a w1 vs K HJ HK HD HN kk
                          have e146 := (HD 6 _ 146 rfl rfl rfl).1.trans (HD 6 _ 146 rfl rfl rfl).2
                          rw [if_pos (wanted_yes 6 false rfl rfl rfl e146)]
                          have e7 := HK 7 (by decide)
                          go_simp; exact kk _ _ (by simp) HJ trivial rfl
                        · intro a w1 vs K HJ HK HD HN kk
                          have e146 := (HD 6 _ 146 rfl rfl rfl).1.trans (HD 6 _ 146 rfl rfl rfl).2
                          rw [if_pos (wanted_yes 6 false rfl rfl rfl e146)]
                          have e11 := HK 11 (by decide)
                          go_simp; exact kk _ _ (by simp) HJ trivial rfl
                        · intro a w1 vs K HJ HK HD HN kk
                          have e146 := (HD 6 _ 146 rfl rfl rfl).1.trans (HD 6 _ 146 rfl rfl rfl).2
                          rw [if_pos (wanted_yes 6 false rfl rfl rfl e146)]
                          have e148 := (HD 8 _ 148 rfl rfl rfl).1.trans (HD 8 _ 148 rfl rfl rfl).2
                          have e149 := (HD 9 _ 149 rfl rfl rfl).1.trans (HD 9 _ 149 rfl rfl rfl).2
                          go_simp; exact kk _ _ (by simp) HJ trivial rfl
                        · intro a w1 vs K HJ HK HD HN kk
                          have e146 := (HD 6 _ 146 rfl rfl rfl).1.trans (HD 6 _ 146 rfl rfl rfl).2
                          rw [if_pos (wanted_yes 6 false rfl rfl rfl e146)]
                          have e150 := (HD 10 _ 150 rfl rfl rfl).1.trans (HD 10 _ 150 rfl rfl rfl).2
                          go_simp; exact kk _ _ (by simp) HJ trivial rfl
                        · intro a w1 vs K HJ HK HD HN kk
                          have e146 := (HD 6 _ 146 rfl rfl rfl).1.trans (HD 6 _ 146 rfl rfl rfl).2
                          rw [if_pos (wanted_yes 6 false rfl rfl rfl e146)]
                          have e151 := (HD 11 _ 151 rfl rfl rfl).1.trans (HD 11 _ 151 rfl rfl rfl).2
                          have ca : w1.cell? ⟨bb, m * 2, none⟩ = some (.int .i64 B0) := HE0.out ⟨w1, HJ⟩
                          go_simp; exact kk _ _ (by simp) HJ trivial rfl
                        · intro a w1 vs K HJ HK HD HN kk
                          have e146 := (HD 6 _ 146 rfl rfl rfl).1.trans (HD 6 _ 146 rfl rfl rfl).2
                          rw [if_pos (wanted_yes 6 false rfl rfl rfl e146)]
                          have e12 := HK 12 (by decide)
                          go_simp; exact kk _ _ (by simp) HJ trivial rfl
                        · intro a w1 vs K HJ HK HD HN kk
                          have e146 := (HD 6 _ 146 rfl rfl rfl).1.trans (HD 6 _ 146 rfl rfl rfl).2
                          rw [if_pos (wanted_yes 6 false rfl rfl rfl e146)]
                          have e153 := (HD 13 _ 153 rfl rfl rfl).1.trans (HD 13 _ 153 rfl rfl rfl).2
                          have ca : w1.cell? ⟨w9.heap.size, 0, none⟩ = some (.int .i64 s0) := HS0.out ⟨w1, HJ⟩
                          go_simp; exact kk _ _ (by simp) HJ trivial rfl
                        · intro a w1 vs K HJ HK HD HN kk
                          have e146 := (HD 6 _ 146 rfl rfl rfl).1.trans (HD 6 _ 146 rfl rfl rfl).2
                          rw [if_pos (wanted_yes 6 false rfl rfl rfl e146)]
                          have e152 := (HD 12 _ 152 rfl rfl rfl).1.trans (HD 12 _ 152 rfl rfl rfl).2
                          have e154 := (HD 14 _ 154 rfl rfl rfl).1.trans (HD 14 _ 154 rfl rfl rfl).2
                          have hw0 : IntKind.i64.wrap (B0 + s0) = ca := (IntWalk.i64_left _).trans HW0.out
                          go_simp; exact kk _ _ (by simp) HJ trivial rfl
                        · intro a w1 vs K HJ HK HD HN kk
                          have e146 := (HD 6 _ 146 rfl rfl rfl).1.trans (HD 6 _ 146 rfl rfl rfl).2
                          rw [if_pos (wanted_yes 6 false rfl rfl rfl e146)]
                          have e147 := (HD 7 _ 147 rfl rfl rfl).1.trans (HD 7 _ 147 rfl rfl rfl).2
                          have e155 := (HD 15 _ 155 rfl rfl rfl).1.trans (HD 15 _ 155 rfl rfl rfl).2
                          go_simp; exact kk _ _ (by simp) HJ trivial rfl
                        · intro a w1 vs K HJ HK HD HN kk
                          have e146 := (HD 6 _ 146 rfl rfl rfl).1.trans (HD 6 _ 146 rfl rfl rfl).2
                          have e156 := (HD 16 _ 156 rfl rfl rfl).1.trans (HD 16 _ 156 rfl rfl rfl).2
                          go_simp; exact kk _ _ (by simp) HJ trivial rfl
                        · intro a w1 vs K HJ HK HD HN kk
                          have e157 := (HD 17 _ 157 rfl rfl rfl).1.trans (HD 17 _ 157 rfl rfl rfl).2
                          go_simp; exact kk _ _ (by simp) HJ trivial rfl
                        · intro a w1 vs K HJ HK HD HN kk
                          have e158 := (HD 18 _ 158 rfl rfl rfl).1.trans (HD 18 _ 158 rfl rfl rfl).2
                          rw [if_pos (wanted_yes 18 false rfl rfl rfl e158)]
                          have e13 := HK 13 (by decide)
                          go_simp; exact kk _ _ (by simp) HJ trivial rfl
                        · intro a w1 vs K HJ HK HD HN kk
                          have e158 := (HD 18 _ 158 rfl rfl rfl).1.trans (HD 18 _ 158 rfl rfl rfl).2
                          rw [if_pos (wanted_yes 18 false rfl rfl rfl e158)]
                          have e159 := (HD 19 _ 159 rfl rfl rfl).1.trans (HD 19 _ 159 rfl rfl rfl).2
                          have h1 := HD1.out
                          go_simp; exact kk _ _ (by simp) HJ trivial rfl
                        · intro a w1 vs K HJ HK HD HN kk
                          have e158 := (HD 18 _ 158 rfl rfl rfl).1.trans (HD 18 _ 158 rfl rfl rfl).2
                          have e160 := (HD 20 _ 160 rfl rfl rfl).1.trans (HD 20 _ 160 rfl rfl rfl).2
                          go_simp; exact kk _ _ (by simp) HJ trivial rfl
                        · intro a w1 vs K HJ HK HD HN kk
                          have e161 := (HD 21 _ 161 rfl rfl rfl).1.trans (HD 21 _ 161 rfl rfl rfl).2
                          go_simp; exact kk _ _ (by simp) HJ trivial rfl
                        · intro a w1 vs K HJ HK HD HN kk
                          have e162 := (HD 22 _ 162 rfl rfl rfl).1.trans (HD 22 _ 162 rfl rfl rfl).2
                          rw [if_pos (wanted_yes 22 false rfl rfl rfl e162)]
                          have e13 := HK 13 (by decide)
                          go_simp; exact kk _ _ (by simp) HJ trivial rfl
                        · intro a w1 vs K HJ HK HD HN kk
                          have e162 := (HD 22 _ 162 rfl rfl rfl).1.trans (HD 22 _ 162 rfl rfl rfl).2
                          rw [if_pos (wanted_yes 22 false rfl rfl rfl e162)]
                          have e2 := HK 2 (by decide)
                          go_simp; exact kk _ _ (by simp) HJ trivial rfl
                        · intro a w1 vs K HJ HK HD HN kk
                          have e162 := (HD 22 _ 162 rfl rfl rfl).1.trans (HD 22 _ 162 rfl rfl rfl).2
                          rw [if_pos (wanted_yes 22 false rfl rfl rfl e162)]
                          have e164 := (HD 24 _ 164 rfl rfl rfl).1.trans (HD 24 _ 164 rfl rfl rfl).2
                          have ca : w1.cell? ⟨w.heap.size, 0, none⟩ = some (.slice (some ⟨bt, ot, none⟩) nt x.tc) := HEP.out ⟨w1, HJ⟩
                          go_simp; exact kk _ _ (by simp) HJ trivial rfl
                        · intro a w1 vs K HJ HK HD HN kk
                          have e162 := (HD 22 _ 162 rfl rfl rfl).1.trans (HD 22 _ 162 rfl rfl rfl).2
                          rw [if_pos (wanted_yes 22 false rfl rfl rfl e162)]
                          have e11 := HK 11 (by decide)
                          go_simp; exact kk _ _ (by simp) HJ trivial rfl
                        · intro a w1 vs K HJ HK HD HN kk
                          have e162 := (HD 22 _ 162 rfl rfl rfl).1.trans (HD 22 _ 162 rfl rfl rfl).2
                          rw [if_pos (wanted_yes 22 false rfl rfl rfl e162)]
                          have e165 := (HD 25 _ 165 rfl rfl rfl).1.trans (HD 25 _ 165 rfl rfl rfl).2
                          have e166 := (HD 26 _ 166 rfl rfl rfl).1.trans (HD 26 _ 166 rfl rfl rfl).2
                          go_simp; exact kk _ _ (by simp) HJ trivial rfl
                        · intro a w1 vs K HJ HK HD HN kk
                          have e162 := (HD 22 _ 162 rfl rfl rfl).1.trans (HD 22 _ 162 rfl rfl rfl).2
                          rw [if_pos (wanted_yes 22 false rfl rfl rfl e162)]
                          have e167 := (HD 27 _ 167 rfl rfl rfl).1.trans (HD 27 _ 167 rfl rfl rfl).2
                          go_simp; exact kk _ _ (by simp) HJ trivial rfl
                        · intro a w1 vs K HJ HK HD HN kk
                          have e162 := (HD 22 _ 162 rfl rfl rfl).1.trans (HD 22 _ 162 rfl rfl rfl).2
                          rw [if_pos (wanted_yes 22 false rfl rfl rfl e162)]
                          have e168 := (HD 28 _ 168 rfl rfl rfl).1.trans (HD 28 _ 168 rfl rfl rfl).2
                          have ca : w1.cell? ⟨bt, ot + m * 4 + 1, none⟩ = some (.int .i64 room) := HER.out ⟨w1, HJ⟩
                          go_simp; exact kk _ _ (by simp) HJ trivial rfl
                        · intro a w1 vs K HJ HK HD HN kk
                          have e162 := (HD 22 _ 162 rfl rfl rfl).1.trans (HD 22 _ 162 rfl rfl rfl).2
                          rw [if_pos (wanted_yes 22 false rfl rfl rfl e162)]
                          have e163 := (HD 23 _ 163 rfl rfl rfl).1.trans (HD 23 _ 163 rfl rfl rfl).2
                          have e169 := (HD 29 _ 169 rfl rfl rfl).1.trans (HD 29 _ 169 rfl rfl rfl).2
                          have h1 := HD2.out
                          have h2 := HD3.out
                          go_simp; exact kk _ _ (by simp) HJ trivial rfl
                        · intro a w1 vs K HJ HK HD HN kk
                          have e162 := (HD 22 _ 162 rfl rfl rfl).1.trans (HD 22 _ 162 rfl rfl rfl).2
                          have e170 := (HD 30 _ 170 rfl rfl rfl).1.trans (HD 30 _ 170 rfl rfl rfl).2
                          go_simp; exact kk _ _ (by simp) HJ trivial rfl
                        · intro a w1 vs K HJ HK HD HN kk
                          have e171 := (HD 31 _ 171 rfl rfl rfl).1.trans (HD 31 _ 171 rfl rfl rfl).2
                          go_simp; exact kk _ _ (by simp) HJ trivial rfl
                        · intro a w1 vs K HJ HK HD HN kk
                          have e172 := (HD 32 _ 172 rfl rfl rfl).1.trans (HD 32 _ 172 rfl rfl rfl).2
                          rw [if_pos (wanted_yes 32 false rfl rfl rfl e172)]
                          have e17 := HK 17 (by decide)
                          go_simp; exact kk _ _ (by simp) HJ trivial rfl
                        · intro a w1 vs K HJ HK HD HN kk
                          have e172 := (HD 32 _ 172 rfl rfl rfl).1.trans (HD 32 _ 172 rfl rfl rfl).2
                          rw [if_pos (wanted_yes 32 false rfl rfl rfl e172)]
                          have e173 := (HD 33 _ 173 rfl rfl rfl).1.trans (HD 33 _ 173 rfl rfl rfl).2
                          go_simp; exact kk _ _ (by simp) HJ trivial rfl
                        · intro a w1 vs K HJ HK HD HN kk
                          have e174 := (HD 34 _ 174 rfl rfl rfl).1.trans (HD 34 _ 174 rfl rfl rfl).2
                          rw [if_pos (wanted_yes 34 true rfl rfl rfl e174)]
                          have e15 := HK 15 (by decide)
                          go_simp; exact kk _ _ (by simp) HJ trivial rfl
                        · intro a w1 vs K HJ HK HD HN kk
                          have e174 := (HD 34 _ 174 rfl rfl rfl).1.trans (HD 34 _ 174 rfl rfl rfl).2
                          rw [if_pos (wanted_yes 34 true rfl rfl rfl e174)]
                          have e2 := HK 2 (by decide)
                          go_simp; exact kk _ _ (by simp) HJ trivial rfl
                        · intro a w1 vs K HJ HK HD HN kk
                          have e174 := (HD 34 _ 174 rfl rfl rfl).1.trans (HD 34 _ 174 rfl rfl rfl).2
                          rw [if_pos (wanted_yes 34 true rfl rfl rfl e174)]
                          have e176 := (HD 36 _ 176 rfl rfl rfl).1.trans (HD 36 _ 176 rfl rfl rfl).2
                          have ca : w1.cell? ⟨w.heap.size, 0, none⟩ = some (.slice (some ⟨bt, ot, none⟩) nt x.tc) := HEP.out ⟨w1, HJ⟩
                          go_simp; exact kk _ _ (by simp) HJ trivial rfl
                        · intro a w1 vs K HJ HK HD HN kk
                          have e174 := (HD 34 _ 174 rfl rfl rfl).1.trans (HD 34 _ 174 rfl rfl rfl).2
                          rw [if_pos (wanted_yes 34 true rfl rfl rfl e174)]
                          have e11 := HK 11 (by decide)
                          go_simp; exact kk _ _ (by simp) HJ trivial rfl
                        · intro a w1 vs K HJ HK HD HN kk
                          have e174 := (HD 34 _ 174 rfl rfl rfl).1.trans (HD 34 _ 174 rfl rfl rfl).2
                          rw [if_pos (wanted_yes 34 true rfl rfl rfl e174)]
                          have e177 := (HD 37 _ 177 rfl rfl rfl).1.trans (HD 37 _ 177 rfl rfl rfl).2
                          have e178 := (HD 38 _ 178 rfl rfl rfl).1.trans (HD 38 _ 178 rfl rfl rfl).2
                          go_simp; exact kk _ _ (by simp) HJ trivial rfl
                        · intro a w1 vs K HJ HK HD HN kk
                          have e174 := (HD 34 _ 174 rfl rfl rfl).1.trans (HD 34 _ 174 rfl rfl rfl).2
                          rw [if_pos (wanted_yes 34 true rfl rfl rfl e174)]
                          have e179 := (HD 39 _ 179 rfl rfl rfl).1.trans (HD 39 _ 179 rfl rfl rfl).2
                          go_simp; exact kk _ _ (by simp) HJ trivial rfl
                        · intro a w1 vs K HJ HK HD HN kk
                          have e174 := (HD 34 _ 174 rfl rfl rfl).1.trans (HD 34 _ 174 rfl rfl rfl).2
                          rw [if_pos (wanted_yes 34 true rfl rfl rfl e174)]
                          have e180 := (HD 40 _ 180 rfl rfl rfl).1.trans (HD 40 _ 180 rfl rfl rfl).2
                          have ca : w1.cell? ⟨bt, ot + m * 4 + 3, none⟩ = some (.int .i64 limit) := HEM.out ⟨w1, HJ⟩
                          go_simp; exact kk _ _ (by simp) HJ trivial rfl
                        · intro a w1 vs K HJ HK HD HN kk
                          have e174 := (HD 34 _ 174 rfl rfl rfl).1.trans (HD 34 _ 174 rfl rfl rfl).2
                          rw [if_pos (wanted_yes 34 true rfl rfl rfl e174)]
                          have e175 := (HD 35 _ 175 rfl rfl rfl).1.trans (HD 35 _ 175 rfl rfl rfl).2
                          have e181 := (HD 41 _ 181 rfl rfl rfl).1.trans (HD 41 _ 181 rfl rfl rfl).2
                          have h1 := HD4.out.1
                          have h2 := HD4.out.2
                          go_simp; exact kk _ _ (by simp) HJ trivial rfl
                        · intro a w1 vs K HJ HK HD HN kk
                          have e172 := (HD 32 _ 172 rfl rfl rfl).1.trans (HD 32 _ 172 rfl rfl rfl).2
                          rw [if_pos (wanted_yes 32 false rfl rfl rfl e172)]
                          have e174 := (HD 34 _ 174 rfl rfl rfl).1.trans (HD 34 _ 174 rfl rfl rfl).2
                          have e182 := (HD 42 _ 182 rfl rfl rfl).1.trans (HD 42 _ 182 rfl rfl rfl).2
                          go_simp; exact kk _ _ (by simp) HJ trivial rfl
                        · intro a w1 vs K HJ HK HD HN kk
                          have e172 := (HD 32 _ 172 rfl rfl rfl).1.trans (HD 32 _ 172 rfl rfl rfl).2
                          have e183 := (HD 43 _ 183 rfl rfl rfl).1.trans (HD 43 _ 183 rfl rfl rfl).2
                          go_simp; exact kk _ _ (by simp) HJ trivial rfl
                      · intro vs w12 hw12 hrr
                        have e44 : vs 44 = .bool false := (hrr 44 _ rfl)
                        simp only [putAll, Act.put, List.setIfInBounds_toArray, List.set_cons_zero, List.set_cons_succ]
                        rw [e44]
                        clear hrr e44
                        have HW12 := Lib.hid hw12
                        clear hw12
                        go_wp2_with fail
                        go_meet
                        case rel => exact ⟨rfl, HW12.out⟩
                  case rest =>
                  obtain ⟨hq184, hw12⟩ := hcut
                  subst hq184
                  have HW12 := Lib.hid hw12
                  clear hw12 hcase
                  rename World => w12
                  go_wp2_with fail
                  refine wp_region_steps (by kernel_rfl) (by kernel_rfl) (fun w1 => Below w11.heap.size w11 w1) (fun _ _ _ => True)
                    (fun ix u _ _ => match ix with
                      | 0 => u = .slice (some ⟨bb, 0, none⟩) nt nt
                      | 1 => u = .int .i64 m
                      | 2 => u = .pointer (some ⟨bb, m * 2, none⟩)
                      | 3 => u = .pointer (some ⟨bb, m * 2 + 1, none⟩)
                      | 4 => u = .int .i64 B1
                      | 5 => u = .pointer (some ⟨w9.heap.size, 1, none⟩)
                      | 6 => u = .int .i64 s1
                      | 7 => u = .int .i64 gs
                      | _ => u = .int .i64 gs) HW12.out.drew (fun _ _ _ _ _ _ _ _ h _ _ => h) ?_ ?_
                  · refine ⟨?_, ?_, ?_, ?_, ?_, ?_, ?_, ?_, ?_, trivial⟩
                    · intro a w1 vs K HJ HK HD HN kk
                      have e7 := HK 7 (by decide)
                      go_simp; exact kk _ _ (by simp) HJ trivial rfl
                    · intro a w1 vs K HJ HK HD HN kk
                      have e11 := HK 11 (by decide)
                      go_simp; exact kk _ _ (by simp) HJ trivial rfl
                    · intro a w1 vs K HJ HK HD HN kk
                      have e185 := (HD 0 _ 185 rfl rfl rfl).1.trans (HD 0 _ 185 rfl rfl rfl).2
                      have e186 := (HD 1 _ 186 rfl rfl rfl).1.trans (HD 1 _ 186 rfl rfl rfl).2
                      go_simp; exact kk _ _ (by simp) HJ trivial rfl
                    · intro a w1 vs K HJ HK HD HN kk
                      have e187 := (HD 2 _ 187 rfl rfl rfl).1.trans (HD 2 _ 187 rfl rfl rfl).2
                      go_simp; exact kk _ _ (by simp) HJ trivial rfl
                    · intro a w1 vs K HJ HK HD HN kk
                      have e188 := (HD 3 _ 188 rfl rfl rfl).1.trans (HD 3 _ 188 rfl rfl rfl).2
                      have ca : w1.cell? ⟨bb, m * 2 + 1, none⟩ = some (.int .i64 B1) := HE1.out ⟨w1, HJ⟩
                      go_simp; exact kk _ _ (by simp) HJ trivial rfl
                    · intro a w1 vs K HJ HK HD HN kk
                      have e12 := HK 12 (by decide)
                      go_simp; exact kk _ _ (by simp) HJ trivial rfl
                    · intro a w1 vs K HJ HK HD HN kk
                      have e190 := (HD 5 _ 190 rfl rfl rfl).1.trans (HD 5 _ 190 rfl rfl rfl).2
                      have ca : w1.cell? ⟨w9.heap.size, 1, none⟩ = some (.int .i64 s1) := HS1.out ⟨w1, HJ⟩
                      go_simp; exact kk _ _ (by simp) HJ trivial rfl
                    · intro a w1 vs K HJ HK HD HN kk
                      have e189 := (HD 4 _ 189 rfl rfl rfl).1.trans (HD 4 _ 189 rfl rfl rfl).2
                      have e191 := (HD 6 _ 191 rfl rfl rfl).1.trans (HD 6 _ 191 rfl rfl rfl).2
                      have hw1 : IntKind.i64.wrap (B1 + s1) = gs := (IntWalk.i64_left _).trans HW1.out
                      go_simp; exact kk _ _ (by simp) HJ trivial rfl
                    · intro a w1 vs K HJ HK HD HN kk
                      have e192 := (HD 7 _ 192 rfl rfl rfl).1.trans (HD 7 _ 192 rfl rfl rfl).2
                      go_simp; exact kk _ _ (by simp) HJ trivial rfl
                  · intro vs w13 hw13 hrr
                    have e8 : vs 8 = .int .i64 gs := (hrr 8 _ rfl)
                    simp only [putAll, Act.put, List.setIfInBounds_toArray, List.set_cons_zero, List.set_cons_succ]
                    rw [e8]
                    clear hrr e8
                    have HW13 : Hid (Below w11.heap.size w11 w13) := Lib.hid hw13
                    clear hw13
                    go_wp2_with fail
                    have hgs0 := HGS.out
                    have hcr0 := HCR.out
                    have h3 := HB3'.out
                    have hwg : IntKind.i64.wrap (gs * 100) = gs * 100 := IntWalk.i64_in _ (by omega)
                    have hwd : IntKind.i64.wrap (room - ca) = room - ca := IntWalk.i64_in _ (by omega)
                    have HWG := Lib.hid hwg
                    have HWD := Lib.hid hwd
                    have HG1 : Hid (decide (gs < 0) = false) := Lib.hid (by simp; omega)
                    have HG2 : Hid (decide (gs > 1073741824) = false ∧ decide (1073741824 < gs) = false) := Lib.hid (by constructor <;> (simp; omega))
                    obtain ⟨rm, hrm⟩ : ∃ r, roomB T m = r := ⟨_, rfl⟩
                    have hrm1 : 1 ≤ rm := by rw [← hrm]; exact h3.1
                    have hp0 : pr = gs * 100 / rm := by rw [HPQ.out, hrm]
                    have hlo : 0 ≤ gs * 100 / rm := Int.ediv_nonneg (by omega) (by omega)
                    have hhi : gs * 100 / rm ≤ gs * 100 := Int.ediv_le_self _ (by omega)
                    have k1 : (gs * 100).tdiv rm = pr := by rw [hp0]; exact Int.tdiv_eq_ediv_of_nonneg (by omega)
                    have k2 : ¬ rm = 0 := by omega
                    have k3 : IntKind.i64.wrap pr = pr := IntWalk.i64_in _ (by omega)
                    have HK1 := Lib.hid k1; have HK2 := Lib.hid k2; have HK3 := Lib.hid k3
                    have HRM : Hid ((if least < room - ca then room - ca else least) = rm) := Lib.hid (by rw [← HRB.out]; exact hrm)
                    clear hwg hwd hgs0 hcr0 h3 hrm hp0 hlo hhi k1 k2 k3 hrm1
                    refine wp_region_steps (by kernel_rfl) (by kernel_rfl) (fun w1 => Below w11.heap.size w11 w1) (fun _ _ _ => True)
                      (fun ix u _ _ => match ix with
                        | 0 => u = .int .i64 gs
                        | 1 => u = .bool false
                        | 2 => u = .bool false
                        | 3 => u = .int .i64 gs
                        | 4 => u = .bool false
                        | 5 => u = .bool false
                        | 6 => u = .bool false
                        | 7 => u = .int .i64 pr
                        | 8 => u = .int .i64 gs
                        | 9 => u = .int .i64 (gs * 100)
                        | 10 => u = .pointer (some ⟨w.heap.size, 0, none⟩)
                        | 11 => u = .slice (some ⟨bt, ot, none⟩) nt x.tc
                        | 12 => u = .int .i64 m
                        | 13 => u = .pointer (some ⟨bt, ot + m * 4, none⟩)
                        | 14 => u = .pointer (some ⟨bt, ot + m * 4 + 2, none⟩)
                        | 15 => u = .int .i64 least
                        | 16 => u = .pointer (some ⟨w.heap.size, 0, none⟩)
                        | 17 => u = .slice (some ⟨bt, ot, none⟩) nt x.tc
                        | 18 => u = .int .i64 m
                        | 19 => u = .pointer (some ⟨bt, ot + m * 4, none⟩)
                        | 20 => u = .pointer (some ⟨bt, ot + m * 4 + 1, none⟩)
                        | 21 => u = .int .i64 room
                        | 22 => u = .int .i64 ca
                        | 23 => u = .int .i64 (room - ca)
                        | 24 => u = .int .i64 rm
                        | 25 => u = .int .i64 pr
                        | 26 => u = .bool false
                        | _ => u = .bool false) HW13.out.drew (fun _ _ _ _ _ _ _ _ h _ _ => h) ?_ ?_
                    · refine ⟨?_, ?_, ?_, ?_, ?_, ?_, ?_, ?_, ?_, ?_, ?_, ?_, ?_, ?_, ?_, ?_, ?_, ?_, ?_, ?_, ?_, ?_, ?_, ?_, ?_, ?_, ?_, ?_, trivial⟩
                      · intro a w1 vs K HJ HK HD HN kk
                        have e18 := HK 18 (by decide)
                        go_simp; exact kk _ _ (by simp) HJ trivial rfl
                      · intro a w1 vs K HJ HK HD HN kk
                        have e193 := (HD 0 _ 193 rfl rfl rfl).1.trans (HD 0 _ 193 rfl rfl rfl).2
                        have h1 := HG1.out
                        go_simp; exact kk _ _ (by simp) HJ trivial rfl
                      · intro a w1 vs K HJ HK HD HN kk
                        have e194 := (HD 1 _ 194 rfl rfl rfl).1.trans (HD 1 _ 194 rfl rfl rfl).2
                        go_simp; exact kk _ _ (by simp) HJ trivial rfl
                      · intro a w1 vs K HJ HK HD HN kk
                        have e195 := (HD 2 _ 195 rfl rfl rfl).1.trans (HD 2 _ 195 rfl rfl rfl).2
                        rw [if_pos (wanted_yes 2 false rfl rfl rfl e195)]
                        have e18 := HK 18 (by decide)
                        go_simp; exact kk _ _ (by simp) HJ trivial rfl
                      · intro a w1 vs K HJ HK HD HN kk
                        have e195 := (HD 2 _ 195 rfl rfl rfl).1.trans (HD 2 _ 195 rfl rfl rfl).2
                        rw [if_pos (wanted_yes 2 false rfl rfl rfl e195)]
                        have e196 := (HD 3 _ 196 rfl rfl rfl).1.trans (HD 3 _ 196 rfl rfl rfl).2
                        have h1 := HG2.out.1
                        have h2 := HG2.out.2
                        go_simp; exact kk _ _ (by simp) HJ trivial rfl
                      · intro a w1 vs K HJ HK HD HN kk
                        have e195 := (HD 2 _ 195 rfl rfl rfl).1.trans (HD 2 _ 195 rfl rfl rfl).2
                        have e197 := (HD 4 _ 197 rfl rfl rfl).1.trans (HD 4 _ 197 rfl rfl rfl).2
                        go_simp; exact kk _ _ (by simp) HJ trivial rfl
                      · intro a w1 vs K HJ HK HD HN kk
                        have e198 := (HD 5 _ 198 rfl rfl rfl).1.trans (HD 5 _ 198 rfl rfl rfl).2
                        go_simp; exact kk _ _ (by simp) HJ trivial rfl
                      · intro a w1 vs K HJ HK HD HN kk
                        have e199 := (HD 6 _ 199 rfl rfl rfl).1.trans (HD 6 _ 199 rfl rfl rfl).2
                        rw [if_pos (wanted_yes 6 false rfl rfl rfl e199)]
                        have e15 := HK 15 (by decide)
                        go_simp; exact kk _ _ (by simp) HJ trivial rfl
                      · intro a w1 vs K HJ HK HD HN kk
                        have e199 := (HD 6 _ 199 rfl rfl rfl).1.trans (HD 6 _ 199 rfl rfl rfl).2
                        rw [if_pos (wanted_yes 6 false rfl rfl rfl e199)]
                        have e18 := HK 18 (by decide)
                        go_simp; exact kk _ _ (by simp) HJ trivial rfl
                      · intro a w1 vs K HJ HK HD HN kk
                        have e199 := (HD 6 _ 199 rfl rfl rfl).1.trans (HD 6 _ 199 rfl rfl rfl).2
                        rw [if_pos (wanted_yes 6 false rfl rfl rfl e199)]
                        have e201 := (HD 8 _ 201 rfl rfl rfl).1.trans (HD 8 _ 201 rfl rfl rfl).2
                        have h1 := HWG.out
                        go_simp; exact kk _ _ (by simp) HJ trivial rfl
                      · intro a w1 vs K HJ HK HD HN kk
                        have e199 := (HD 6 _ 199 rfl rfl rfl).1.trans (HD 6 _ 199 rfl rfl rfl).2
                        rw [if_pos (wanted_yes 6 false rfl rfl rfl e199)]
                        have e2 := HK 2 (by decide)
                        go_simp; exact kk _ _ (by simp) HJ trivial rfl
                      · intro a w1 vs K HJ HK HD HN kk
                        have e199 := (HD 6 _ 199 rfl rfl rfl).1.trans (HD 6 _ 199 rfl rfl rfl).2
                        rw [if_pos (wanted_yes 6 false rfl rfl rfl e199)]
                        have e203 := (HD 10 _ 203 rfl rfl rfl).1.trans (HD 10 _ 203 rfl rfl rfl).2
                        have ca : w1.cell? ⟨w.heap.size, 0, none⟩ = some (.slice (some ⟨bt, ot, none⟩) nt x.tc) := HEP.out ⟨w1, HJ⟩
                        go_simp; exact kk _ _ (by simp) HJ trivial rfl
                      · intro a w1 vs K HJ HK HD HN kk
                        have e199 := (HD 6 _ 199 rfl rfl rfl).1.trans (HD 6 _ 199 rfl rfl rfl).2
                        rw [if_pos (wanted_yes 6 false rfl rfl rfl e199)]
                        have e11 := HK 11 (by decide)
                        go_simp; exact kk _ _ (by simp) HJ trivial rfl
                      · intro a w1 vs K HJ HK HD HN kk
                        have e199 := (HD 6 _ 199 rfl rfl rfl).1.trans (HD 6 _ 199 rfl rfl rfl).2
                        rw [if_pos (wanted_yes 6 false rfl rfl rfl e199)]
                        have e204 := (HD 11 _ 204 rfl rfl rfl).1.trans (HD 11 _ 204 rfl rfl rfl).2
                        have e205 := (HD 12 _ 205 rfl rfl rfl).1.trans (HD 12 _ 205 rfl rfl rfl).2
                        go_simp; exact kk _ _ (by simp) HJ trivial rfl
                      · intro a w1 vs K HJ HK HD HN kk
                        have e199 := (HD 6 _ 199 rfl rfl rfl).1.trans (HD 6 _ 199 rfl rfl rfl).2
                        rw [if_pos (wanted_yes 6 false rfl rfl rfl e199)]
                        have e206 := (HD 13 _ 206 rfl rfl rfl).1.trans (HD 13 _ 206 rfl rfl rfl).2
                        go_simp; exact kk _ _ (by simp) HJ trivial rfl
                      · intro a w1 vs K HJ HK HD HN kk
                        have e199 := (HD 6 _ 199 rfl rfl rfl).1.trans (HD 6 _ 199 rfl rfl rfl).2
                        rw [if_pos (wanted_yes 6 false rfl rfl rfl e199)]
                        have e207 := (HD 14 _ 207 rfl rfl rfl).1.trans (HD 14 _ 207 rfl rfl rfl).2
                        have ca : w1.cell? ⟨bt, ot + m * 4 + 2, none⟩ = some (.int .i64 least) := HEL.out ⟨w1, HJ⟩
                        go_simp; exact kk _ _ (by simp) HJ trivial rfl
                      · intro a w1 vs K HJ HK HD HN kk
                        have e199 := (HD 6 _ 199 rfl rfl rfl).1.trans (HD 6 _ 199 rfl rfl rfl).2
                        rw [if_pos (wanted_yes 6 false rfl rfl rfl e199)]
                        have e2 := HK 2 (by decide)
                        go_simp; exact kk _ _ (by simp) HJ trivial rfl
                      · intro a w1 vs K HJ HK HD HN kk
                        have e199 := (HD 6 _ 199 rfl rfl rfl).1.trans (HD 6 _ 199 rfl rfl rfl).2
                        rw [if_pos (wanted_yes 6 false rfl rfl rfl e199)]
                        have e209 := (HD 16 _ 209 rfl rfl rfl).1.trans (HD 16 _ 209 rfl rfl rfl).2
                        have ca : w1.cell? ⟨w.heap.size, 0, none⟩ = some (.slice (some ⟨bt, ot, none⟩) nt x.tc) := HEP.out ⟨w1, HJ⟩
                        go_simp; exact kk _ _ (by simp) HJ trivial rfl
                      · intro a w1 vs K HJ HK HD HN kk
                        have e199 := (HD 6 _ 199 rfl rfl rfl).1.trans (HD 6 _ 199 rfl rfl rfl).2
                        rw [if_pos (wanted_yes 6 false rfl rfl rfl e199)]
                        have e11 := HK 11 (by decide)
                        go_simp; exact kk _ _ (by simp) HJ trivial rfl
                      · intro a w1 vs K HJ HK HD HN kk
                        have e199 := (HD 6 _ 199 rfl rfl rfl).1.trans (HD 6 _ 199 rfl rfl rfl).2
                        rw [if_pos (wanted_yes 6 false rfl rfl rfl e199)]
                        have e210 := (HD 17 _ 210 rfl rfl rfl).1.trans (HD 17 _ 210 rfl rfl rfl).2
                        have e211 := (HD 18 _ 211 rfl rfl rfl).1.trans (HD 18 _ 211 rfl rfl rfl).2
                        go_simp; exact kk _ _ (by simp) HJ trivial rfl
                      · intro a w1 vs K HJ HK HD HN kk
                        have e199 := (HD 6 _ 199 rfl rfl rfl).1.trans (HD 6 _ 199 rfl rfl rfl).2
                        rw [if_pos (wanted_yes 6 false rfl rfl rfl e199)]
                        have e212 := (HD 19 _ 212 rfl rfl rfl).1.trans (HD 19 _ 212 rfl rfl rfl).2
                        go_simp; exact kk _ _ (by simp) HJ trivial rfl
                      · intro a w1 vs K HJ HK HD HN kk
                        have e199 := (HD 6 _ 199 rfl rfl rfl).1.trans (HD 6 _ 199 rfl rfl rfl).2
                        rw [if_pos (wanted_yes 6 false rfl rfl rfl e199)]
                        have e213 := (HD 20 _ 213 rfl rfl rfl).1.trans (HD 20 _ 213 rfl rfl rfl).2
                        have ca : w1.cell? ⟨bt, ot + m * 4 + 1, none⟩ = some (.int .i64 room) := HER.out ⟨w1, HJ⟩
                        go_simp; exact kk _ _ (by simp) HJ trivial rfl
                      · intro a w1 vs K HJ HK HD HN kk
                        have e199 := (HD 6 _ 199 rfl rfl rfl).1.trans (HD 6 _ 199 rfl rfl rfl).2
                        rw [if_pos (wanted_yes 6 false rfl rfl rfl e199)]
                        have e13 := HK 13 (by decide)
                        go_simp; exact kk _ _ (by simp) HJ trivial rfl
                      · intro a w1 vs K HJ HK HD HN kk
                        have e199 := (HD 6 _ 199 rfl rfl rfl).1.trans (HD 6 _ 199 rfl rfl rfl).2
                        rw [if_pos (wanted_yes 6 false rfl rfl rfl e199)]
                        have e214 := (HD 21 _ 214 rfl rfl rfl).1.trans (HD 21 _ 214 rfl rfl rfl).2
                        have e215 := (HD 22 _ 215 rfl rfl rfl).1.trans (HD 22 _ 215 rfl rfl rfl).2
                        have h1 := HWD.out
                        go_simp; exact kk _ _ (by simp) HJ trivial rfl
                      · intro a w1 vs K HJ HK HD HN kk
                        have e199 := (HD 6 _ 199 rfl rfl rfl).1.trans (HD 6 _ 199 rfl rfl rfl).2
                        rw [if_pos (wanted_yes 6 false rfl rfl rfl e199)]
                        have e208 := (HD 15 _ 208 rfl rfl rfl).1.trans (HD 15 _ 208 rfl rfl rfl).2
                        have e216 := (HD 23 _ 216 rfl rfl rfl).1.trans (HD 23 _ 216 rfl rfl rfl).2
                        have h1 := HRM.out
                        go_simp; exact kk _ _ (by simp) HJ trivial rfl
                      · intro a w1 vs K HJ HK HD HN kk
                        have e199 := (HD 6 _ 199 rfl rfl rfl).1.trans (HD 6 _ 199 rfl rfl rfl).2
                        rw [if_pos (wanted_yes 6 false rfl rfl rfl e199)]
                        have e202 := (HD 9 _ 202 rfl rfl rfl).1.trans (HD 9 _ 202 rfl rfl rfl).2
                        have e217 := (HD 24 _ 217 rfl rfl rfl).1.trans (HD 24 _ 217 rfl rfl rfl).2
                        have h1 := HK1.out
                        have h2 := HK2.out
                        have h3 := HK3.out
                        go_simp; exact kk _ _ (by simp) HJ trivial rfl
                      · intro a w1 vs K HJ HK HD HN kk
                        have e199 := (HD 6 _ 199 rfl rfl rfl).1.trans (HD 6 _ 199 rfl rfl rfl).2
                        rw [if_pos (wanted_yes 6 false rfl rfl rfl e199)]
                        have e200 := (HD 7 _ 200 rfl rfl rfl).1.trans (HD 7 _ 200 rfl rfl rfl).2
                        have e218 := (HD 25 _ 218 rfl rfl rfl).1.trans (HD 25 _ 218 rfl rfl rfl).2
                        go_simp; exact kk _ _ (by simp) HJ trivial rfl
                      · intro a w1 vs K HJ HK HD HN kk
                        have e199 := (HD 6 _ 199 rfl rfl rfl).1.trans (HD 6 _ 199 rfl rfl rfl).2
                        have e219 := (HD 26 _ 219 rfl rfl rfl).1.trans (HD 26 _ 219 rfl rfl rfl).2
                        go_simp; exact kk _ _ (by simp) HJ trivial rfl
                    · intro vs w14 hw14 hrr
                      have e27 : vs 27 = .bool false := (hrr 27 _ rfl)
                      simp only [putAll, Act.put, List.setIfInBounds_toArray, List.set_cons_zero, List.set_cons_succ]
                      rw [e27]
                      clear hrr e27
                      have HKF : Hid (KeepI W X bb p w14 T BB) := Lib.hid (HKE.out _ hw14)
                      clear hw14
                      go_wp2_with fail
                      go_roundw
                      case rel => first | exact ⟨m + 1, by omega, by go_num, HKF⟩ | ((repeat apply Exists.intro); exact ⟨⟨m + 1, by omega, by go_num, HKF⟩, rfl⟩)
                      case measure => simp [intOf]; omega
                · obtain rfl : m = nt := by omega
                  go_wp2_with fail
                  go_roundw
                  case rel => exact ⟨k + 1, T, BB, by omega, by go_num, hsm⟩
                  case measure => simp [intOf]; omega
        · obtain rfl : k = n := by omega
          go_wp2_with fail
          refine (END.out wr hsd.out.below).mono ?_
          rintro e w10 ⟨rfl, hb10⟩
          go_wp2_with fail
          go_ret
          exact ⟨rfl, FIN.out _ hb10⟩
end Go.Proofs.YtogobjmmgjfjjaaGreat
