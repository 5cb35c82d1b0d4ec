/- What is proved: the texts U6 U7, one behind the other; each says at its head what it proves, and under which conditions. -/
import Derived.StillTailTactics
import Derived.Test.YtogobjmmgjfjjaaGreatn9
/- What is proved: no set of Never holds of a system; what Holds answers is the document's. Conditions: the system's numbers are as they always are. -/
namespace Go.Proofs.YtogobjmmgjfjjaaGreat
open Go.RowKit

theorem never_holds {S : Sys} (ok : SysOk S) (i : Nat) (hi : i < S.p.never.length) : holdsSetB S (S.p.nev i) = false := by
  have hs := ok.safe
  unfold safeB at hs
  have h1 := allN_iff.1 hs i hi
  unfold holdsSetB
  rw [Bool.and_eq_false_iff]
  right
  cases h : allN (S.p.nev i).length fun k => holdsB S.p S.at_ ((S.p.nev i).getD k lit0) with
  | false => rfl
  | true =>
    exfalso
    have h2 : (allN (S.p.nev i).length fun k => mayB S.p S.at_ ((S.p.nev i).getD k lit0)) = true := allN_iff.2 fun k hk => by
      have := allN_iff.1 h k hk
      unfold mayB
      rw [this, Bool.or_true]
    rw [h2] at h1
    cases h1
theorem holdsSetB_ref (S : Sys) (l : List LitD) (hn : l.length ≤ 50) :
    holdsSetB S l = ((inB l.length 1 50 && allN l.length fun i => inB (l.getD i lit0).valve 0 (S.p.valves.length - 1)) && allN l.length fun i => holdsB S.p S.at_ (l.getD i lit0)) := by
  unfold holdsSetB litsOk
  have e : inB (l.length : Int) 1 (l.length : Int) = inB (l.length : Int) 1 50 := by
    rw [Bool.eq_iff_iff, inB_iff, inB_iff]
    omega
  rw [e]
/-- What is left by the operations of 'w, _ = due(p, w, a)'. -/
def SideR2 (X : SX) (p : PlantD) (E : Int) (T : Sys) (ix : Nat) (u : Value) (w1 : World) : Prop :=
  (ix = 6 ∨ ix = 7 → ∃ R', u = .tuple #[.agg (RA p R'), .int .i64 E] ∧ @RefAt X.exc w1 w1.heap.size R' T) ∧ (ix = 8 → ∃ R', u = .agg (RA p R') ∧ @RefAt X.exc w1 w1.heap.size R' T)
theorem SideR2.keep {X : SX} {p : PlantD} {T : Sys} {w1 w2 : World} {E : Int} {m i j : Nat} {u : Value} (h : SideR2 X p E T i u w1) (he : SideE X T m j w1 w2) : SideR2 X p E T i u w2 := by
  letI : Exc := X.exc
  obtain ⟨h1, h2⟩ := h
  by_cases hj : j = m
  · obtain ⟨k1, k2⟩ := he.2 hj
    refine ⟨fun e => ?_, fun e => ?_⟩
    · obtain ⟨R', a, b⟩ := h1 e; exact ⟨R', a, k1 R' b⟩
    · obtain ⟨R', a, b⟩ := h2 e; exact ⟨R', a, k1 R' b⟩
  · have hb := he.1 hj
    refine ⟨fun e => ?_, fun e => ?_⟩
    · obtain ⟨R', a, b⟩ := h1 e; exact ⟨R', a, (RefAt.below b hb).mono hb.size⟩
    · obtain ⟨R', a, b⟩ := h2 e; exact ⟨R', a, (RefAt.below b hb).mono hb.size⟩
theorem SideE.same2 {X : SX} {T : Sys} {m : Nat} (w : World) {j : Nat} (hj : j ≠ m) : SideE X T m j w w := ⟨fun _ => Below.refl _ _, fun h => absurd h hj⟩
theorem SideE.below2 {X : SX} {T : Sys} {m : Nat} {w w' : World} {j : Nat} (hj : j ≠ m) (hb : Below w.heap.size w w') : SideE X T m j w w' := ⟨fun _ => hb, fun h => absurd h hj⟩
theorem SideE.store2 {X : SX} {T : Sys} {m : Nat} {w w' : World} {nb a b c a' b' c' : Nat} {R0 R1 : RX} (ht : X.hi ≤ nb + 1) (h : Bk w nb 53 (refA R0 a b c)) (ho : Only nb w w') (h' : Bk w' nb 53 (refA R1 a' b' c')) : SideE X T m m w w' := by
  letI : Exc := X.exc
  exact ⟨fun e => absurd rfl e, fun _ => ⟨fun R' hr => RefB.at_ (RefAt.box hr ht h ho), fun n hn => hn.only ho h'⟩⟩
end Go.Proofs.YtogobjmmgjfjjaaGreat
/- What is proved: the law EngineNever answers true. Conditions: the plant, the acts and the literals lie in memory. -/
namespace Go.Proofs.YtogobjmmgjfjjaaGreat
open Go.RowKit

set_option maxRecDepth 100000 in
set_option maxHeartbeats 16000000 in
theorem never_any (w : World) (x : PV) (p : PlantD) (hp : PlantAt w w.heap.size x p) (A : Option Addr) (c : Nat) (l : List ActD) (hl : ActsAt w w.heap.size A l) (A2 : Option Addr) (c2 : Nat) (l2 : List LitD) (hl2 : LitsAt w w.heap.size A2 l2) :
    Calls Tryz.prog 5 #[.agg (plantA x p), .slice A l.length c, .slice A2 l2.length c2] w fun e w' => e = .returned (.bool true) ∧ Below w.heap.size w w' := by
  obtain ⟨W, hW⟩ : ∃ W, W = w.alloc (.cells (plantA x p) 27) := ⟨_, rfl⟩
  have hbW : Below w.heap.size w W := by rw [hW]; exact (Below.refl _ _).alloc (Nat.le_refl _) _
  have hb0 : Bk W w.heap.size 27 (plantA x p) := by rw [hW]; exact Bk.new _ _ _
  have HC : Hid (∀ wx, Below W.heap.size W wx → Bk wx w.heap.size 27 (plantA x p)) := Lib.hid fun wx hx => hb0.below hx hb0.lt
  have HC4 : Hid (∀ wx, Below W.heap.size W wx → wx.cell? ⟨w.heap.size, 0, none⟩ = some (.slice x.tA p.tanks.length x.tc) ∧ wx.cell? ⟨w.heap.size, 1, none⟩ = some (.slice x.vA p.valves.length x.vc) ∧
      wx.cell? ⟨w.heap.size, 2, none⟩ = some (.slice x.lA p.lines.length x.lc) ∧ wx.cell? ⟨w.heap.size, 3, none⟩ = some (.slice x.nA p.never.length x.nc)) := Lib.hid fun wx hx =>
    have h0 := HC.out wx hx
    ⟨h0.cell 0, h0.cell 1, h0.cell 2, h0.cell 3⟩
  have HP : Hid (∀ wx, Below W.heap.size W wx → PlantAt wx wx.heap.size x p) := Lib.hid fun wx hx => ((hp.below hbW).below (hx.mono hbW.size)).mono (Nat.le_trans hbW.size hx.size)
  have HL : Hid (∀ wx, Below W.heap.size W wx → ActsAt wx wx.heap.size A l) := Lib.hid fun wx hx => Sl.mono (Sl.below (Sl.below hl hbW) (hx.mono hbW.size)) (Nat.le_trans hbW.size hx.size)
  have HL2 : Hid (∀ wx, Below W.heap.size W wx → LitsAt wx wx.heap.size A2 l2) := Lib.hid fun wx hx => Sl.mono (Sl.below (Sl.below hl2 hbW) (hx.mono hbW.size)) (Nat.le_trans hbW.size hx.size)
  have HB := Lib.hid hbW
  have HW := Lib.hid hW
  have HA := Lib.hid awake_any
  have HWs := Lib.hid hbW.size
  simp only [plantA] at HW
  clear hp hl hl2 hbW hb0 hW
  have HG := Lib.hid fun wx hx => great_any wx x p (HP.out wx hx)
  have HN := Lib.hid fun wx hx => new_any wx x p (HP.out wx hx)
  have HRP := Lib.hid fun wx hx => refCheckPlant_any wx x p (HP.out wx hx)
  simp only [plantA] at HG HN HRP
  have END : Hid (∀ wx, Below W.heap.size W wx → Calls Tryz.prog 14 #[] wx fun e w' => e = .returned (.bool true) ∧ Below W.heap.size W w') := Lib.hid fun wx hx =>
    (HA.out wx).mono fun e w' ⟨he, hb⟩ => ⟨he, hx.trans (hb.mono hx.size)⟩
  dsimp only [plantA]
  obtain ⟨n, hn⟩ : ∃ n, l.length = n := ⟨_, rfl⟩
  rw [hn]
  have HNL := Lib.hid hn
  clear hn
  obtain ⟨n2, hn2⟩ : ∃ n, l2.length = n := ⟨_, rfl⟩
  rw [hn2]
  have HNL2 := Lib.hid hn2
  clear hn2
  obtain ⟨c0, c1, c2, c3⟩ := HC4.out W (Below.refl _ _)
  go_enter Tryz.func5, Tryz.ntmps5
  go_wp2_with fail
  rw [← HW.out]
  refine (HN.out W (Below.refl _ _)).mono ?_
  rintro e w1 ⟨hb1, hnew⟩
  have HB1 : Hid (Below W.heap.size W w1) := Lib.hid hb1
  clear hb1 c0 c1 c2 c3
  by_cases hpb : plantB p = true
  case neg =>
    have hpb' : plantB p = false := by simpa using hpb
    rw [if_neg hpb] at hnew
    subst hnew
    have HPB := Lib.hid hpb'
    clear hpb hpb'
    obtain ⟨c0, c1, c2, c3⟩ := HC4.out w1 HB1.out
    go_wp2_with fail
    refine (HG.out w1 HB1.out).mono ?_
    rintro e w2 ⟨b1, rfl, _, hb2⟩
    have HB2 : Hid (Below W.heap.size W w2) := Lib.hid (HB1.out.trans (hb2.mono HB1.out.size))
    clear hb2 c0 c1 c2 c3
    obtain ⟨c0, c1, c2, c3⟩ := HC4.out w2 HB2.out
    have FIN : Hid (∀ wx, Below W.heap.size W wx → Below w.heap.size w wx) := Lib.hid fun wx hx => HB.out.trans (hx.mono HB.out.size)
    cases b1 with
    | true =>
      go_wp2_with fail
      refine (END.out w2 HB2.out).mono ?_
      rintro e w3 ⟨rfl, hb3⟩
      go_wp2_with fail
      go_ret
      exact ⟨rfl, FIN.out _ hb3⟩
    | false =>
      by_cases h150 : (150 : Int) < (n : Int)
      · go_wp2_with fail
        refine (END.out w2 HB2.out).mono ?_
        rintro e w3 ⟨rfl, hb3⟩
        go_wp2_with fail
        go_ret
        exact ⟨rfl, FIN.out _ hb3⟩
      by_cases h50 : (50 : Int) < (n2 : Int)
      · go_wp2_with fail
        refine (END.out w2 HB2.out).mono ?_
        rintro e w3 ⟨rfl, hb3⟩
        go_wp2_with fail
        go_ret
        exact ⟨rfl, FIN.out _ hb3⟩
      · go_wp2_with fail
        have c := HRP.out w2 HB2.out
        rw [HPB.out] at c
        refine c.mono ?_
        rintro e w3 ⟨rfl, hb3⟩
        have HB3 : Hid (Below W.heap.size W w3) := Lib.hid (HB2.out.trans (hb3.mono HB2.out.size))
        clear hb3 c c0 c1 c2 c3
        go_wp2_with fail
        refine (END.out w3 HB3.out).mono ?_
        rintro e w4 ⟨rfl, hb4⟩
        go_wp2_with fail
        go_ret
        exact ⟨rfl, FIN.out _ hb4⟩
  case pos =>
    rw [if_pos hpb] at hnew
    obtain ⟨X, rfl, hsys, hlo⟩ := hnew
    letI : Exc := X.exc
    have HSY := Lib.hid hsys
    have HLO := Lib.hid (show W.heap.size ≤ X.lo from hlo)
    have HPB := Lib.hid hpb
    clear hpb hsys hlo
    obtain ⟨c0, c1, c2, c3⟩ := HC4.out w1 HB1.out
    go_wp2_with fail
    refine (HG.out w1 HB1.out).mono ?_
    rintro e w2 ⟨b1, rfl, _, hb2⟩
    have HB2 : Hid (Below W.heap.size W w2) := Lib.hid (HB1.out.trans (hb2.mono HB1.out.size))
    have HS2 := Lib.hid (HSY.out.below hb2)
    clear hb2 c0 c1 c2 c3
    obtain ⟨c0, c1, c2, c3⟩ := HC4.out w2 HB2.out
    have FIN : Hid (∀ wx, Below W.heap.size W wx → Below w.heap.size w wx) := Lib.hid fun wx hx => HB.out.trans (hx.mono HB.out.size)
    cases b1 with
    | true =>
      go_wp2_with fail
      refine (END.out w2 HB2.out).mono ?_
      rintro e w3 ⟨rfl, hb3⟩
      go_wp2_with fail
      go_ret
      exact ⟨rfl, FIN.out _ hb3⟩
    | false =>
      by_cases h150 : (150 : Int) < (n : Int)
      · go_wp2_with fail
        refine (END.out w2 HB2.out).mono ?_
        rintro e w3 ⟨rfl, hb3⟩
        go_wp2_with fail
        go_ret
        exact ⟨rfl, FIN.out _ hb3⟩
      by_cases h50 : (50 : Int) < (n2 : Int)
      · go_wp2_with fail
        refine (END.out w2 HB2.out).mono ?_
        rintro e w3 ⟨rfl, hb3⟩
        go_wp2_with fail
        go_ret
        exact ⟨rfl, FIN.out _ hb3⟩
      go_wp2_with fail
      have cc := HRP.out w2 HB2.out
      rw [HPB.out] at cc
      refine cc.mono ?_
      rintro e w3 ⟨rfl, hb3⟩
      have HB3 : Hid (Below W.heap.size W w3) := Lib.hid (HB2.out.trans (hb3.mono HB2.out.size))
      have HS3 := Lib.hid (HS2.out.below hb3)
      clear hb3 cc c0 c1 c2 c3
      obtain ⟨c0, c1, c2, c3⟩ := HC4.out w3 HB3.out
      have cb := refBegin_any w3 x p (HP.out w3 HB3.out) (short_of HPB.out) HS3.out.hi.2.2.2.2
      simp only [plantA] at cb
      have HCB := Lib.hid cb
      clear cb
      go_wp2_with fail
      refine HCB.out.mono ?_
      rintro e w4 ⟨R, rfl, hr4, hb4⟩
      have HB4 : Hid (Below W.heap.size W w4) := Lib.hid (HB3.out.trans (hb4.mono HB3.out.size))
      have HS4 := Lib.hid (HS3.out.below hb4)
      have HR4 := Lib.hid hr4
      have HBk := Lib.hid (Bk.new w4 53 (refA nilR 0 0 0))
      clear hb4 hr4 c0 c1 c2 c3 HCB
      go_wp2_with (refine wpStoreAt rfl rfl 53 _ _ rfl w4.heap.size 0 rfl (SysA R (startB p)) rfl 53 _ HBk.out (by show 0 + 9 ≤ 9; omega) (refA_one _ _ _ _) info_state ?_; intro wf hkf hof)
      have HSD0 : Hid (Side W X w4.heap.size p wf (startB p) (startB p)) := Lib.hid (Side.start (R0 := nilR) (a := 0) (b := 0) (c := 0) HS4.out HLO.out HB4.out HR4.out rfl rfl rfl (by rw [splA_all _ _ (by rw [refA_size, refA_size])] at hkf; exact hkf) hof)
      obtain ⟨sx, hsx⟩ : ∃ sx, w4.heap.size = sx := ⟨_, rfl⟩
      rw [hsx] at HSD0 ⊢
      clear hkf hof HBk hsx HR4 HS4 HS3 HS2 HSY
      go_wp2_with fail
      go_loopw [10] (fun i wr => ∃ (k : Nat) (St : Sys), k ≤ n ∧ i = .int .i64 k ∧ Hid (Side W X sx p wr St St)) (fun i _ => n - (intOf i).toNat)
      case atStart => exact ⟨0, startB p, Nat.zero_le _, rfl, HSD0⟩
      case round =>
        obtain ⟨k, St, hk, rfl, hsd⟩ := hrel
        by_cases hlt : k < n
        · have hki : (k : Int) < (n : Int) := by omega
          have hlt' : k < l.length := by rw [HNL.out]; exact hlt
          obtain ⟨b, off, rfl, hB, d0, d1, d2, d3⟩ := (HL.out wr hsd.out.below).at4 hlt'
          obtain ⟨⟨what, a1, a2, a3⟩, hact⟩ : ∃ act, l.getD k act0 = act := ⟨_, rfl⟩
          rw [hact] at d0 d1 d2 d3
          simp only [actC] at d0 d1 d2 d3
          have HACTN := Lib.hid hact
          obtain ⟨E, hE⟩ : ∃ E, (doesB St what a1 a2 a3).1 = E := ⟨_, rfl⟩
          obtain ⟨T, hT⟩ : ∃ T, (doesB St what a1 a2 a3).2 = T := ⟨_, rfl⟩
          have hTp : T.p = p := by rw [← hT, doesB_p]; exact hsd.out.tp
          have HTP := Lib.hid hTp
          have HE := Lib.hid hE
          have HT := Lib.hid hT
          have HAC : Hid (∀ z, Below W.heap.size W z → z.cell? ⟨b, off + k * 4, none⟩ = some (.int .i64 what) ∧ z.cell? ⟨b, off + k * 4 + 1, none⟩ = some (.int .i64 a1) ∧ z.cell? ⟨b, off + k * 4 + 2, none⟩ = some (.int .i64 a2) ∧ z.cell? ⟨b, off + k * 4 + 3, none⟩ = some (.int .i64 a3)) := Lib.hid fun z hz => by
            obtain ⟨b', off', hA', _, g0, g1, g2, g3⟩ := (HL.out z hz).at4 hlt'
            rw [HACTN.out] at g0 g1 g2 g3
            simp only [actC] at g0 g1 g2 g3
            obtain ⟨rfl, rfl⟩ : b = b' ∧ off = off' := by simpa using hA'
            exact ⟨g0, g1, g2, g3⟩
          clear hact hE hT hTp
          go_wp2_with fail
          refine (does_any wr X St hsd.out.sys what a1 a2 a3).mono ?_
          rintro e w8 ⟨rfl, hs8, hc8⟩
          rw [HT.out] at hs8
          rw [HE.out]
          have HSD8 : Hid (Side W X sx p w8 T St) := Lib.hid (hsd.out.does hs8 hc8 (HTP.out.trans hsd.out.hp.symm))
          clear hs8 hc8 d0 d1 d2 d3 hB
          obtain ⟨R, hk1, hk2⟩ := HSD8.out.st
          have htp := HSD8.out.tp
          have hsz := HSD8.out.below.size
          have HPK : Hid (∀ z, Below w8.heap.size w8 z → Bk z w.heap.size 27 (plantA x p)) := Lib.hid fun z hz => HC.out z (HSD8.out.below.trans (hz.mono hsz))
          have HBSX : Hid (∀ z, Below w8.heap.size w8 z → Bk z sx 53 (RA p R)) := Lib.hid fun z hz => by
            rw [← RA_of htp]; exact hk1.below hz hk1.lt
          have HACT : Hid (∀ z, Below w8.heap.size w8 z → ∀ j u, (#[.int .i64 what, .int .i64 a1, .int .i64 a2, .int .i64 a3] : Array Value)[j]? = some u → z.cell? ⟨b, off + k * 4 + j, none⟩ = some u) := Lib.hid fun z hz j u hj => by
            obtain ⟨g0, g1, g2, g3⟩ := HAC.out z (HSD8.out.below.trans (hz.mono hsz))
            match j, hj with
            | 0, hj => simp at hj; subst hj; exact g0
            | 1, hj => simp at hj; subst hj; exact g1
            | 2, hj => simp at hj; subst hj; exact g2
            | 3, hj => simp at hj; subst hj; exact g3
            | j + 4, hj => simp at hj
          have HDUE : Hid (∀ z, Below w8.heap.size w8 z → Calls Tryz.prog 25 #[.agg (plantA x p), .agg (RA p R), .agg #[.int .i64 what, .int .i64 a1, .int .i64 a2, .int .i64 a3]] z
              fun e w' => ∃ R', e = .returned (.tuple #[.agg (RA p R'), .int .i64 E]) ∧ @RefAt X.exc w' w'.heap.size R' T ∧ Below z.heap.size z w') := Lib.hid fun z hz => by
            have h := due_any z x R St (by rw [htp]; exact HP.out z (HSD8.out.below.trans (hz.mono hsz))) (((RefB.at_ hk2).below hz).mono hz.size) hsd.out.sys.ok what a1 a2 a3
            rw [show plantA x St.p = plantA x p from by rw [htp], RA_of htp, HE.out, HT.out] at h
            refine h.mono ?_
            rintro e w' ⟨R', rfl, h1, h2⟩
            exact ⟨R', by rw [RA_of HTP.out], h1, h2⟩
          have HST7 : Hid (∀ w1, Below w8.heap.size w8 w1 → ∀ R', @RefAt X.exc w1 w1.heap.size R' T → ∀ w2, Bk w2 sx 53 (RA p R') → Only sx w1 w2 → Side W X sx p w2 T T) := Lib.hid fun w1 h1 R' hr w2 h2 h3 =>
            Side.store HSD8.out h1 hr (HTP.out.trans HSD8.out.tp.symm) (by rw [RA_of HTP.out]; exact h2) h3
          clear hk1 hk2 htp hsz
          go_wp2_with fail
          refine wp_region_stepsM (by kernel_rfl) (by kernel_rfl) 10 (by decide) (fun bq w1 => if bq = true then Side W X sx p w1 T T else Below w8.heap.size w8 w1) (SideE X T 10)
            (fun ix u d w1 => (match ix with
              | 0 => u = .agg (plantA x p)
              | 1 => u = .agg (RA p R)
              | 2 => u = .slice (some ⟨b, off, none⟩) n c
              | 3 => u = .int .i64 k
              | 4 => u = .pointer (some ⟨b, off + k * 4, none⟩)
              | 5 => u = .agg #[.int .i64 what, .int .i64 a1, .int .i64 a2, .int .i64 a3]
              | 6 => True
              | 7 => True
              | 8 => True
              | 9 => True
              | _ => True) ∧ SideR2 X p E T ix u w1) (Below.refl _ _).drew (fun i j _ _ u d w1 w2 ⟨hr1, hr2⟩ he => ⟨hr1, hr2.keep he⟩) ?_ ?_
          · refine ⟨?_, ?_, ?_, ?_, ?_, ?_, ?_, ?_, ?_, ?_, ?_, trivial⟩
            · intro a w1 vs K bq Hb HJ HK HD HN kk
              obtain rfl : bq = false := by cases bq with | false => rfl | true => exact absurd (Hb rfl).2 (by decide)
              have HJ' : Below w8.heap.size w8 w1 := HJ
              have e3 := HK 3 (by decide)
              exact wpo_loadS 27 (.tmp 3) rfl w.heap.size 0 (by simpa [Act.eval] using e3) (plantA x p) _ (fun j u hj => by rw [Nat.zero_add]; exact ((HPK.out w1 HJ').cell j).trans hj) und_plant rfl info_plant (kk _ _ (by simp) HJ (SideE.same2 _ (by omega)) ⟨rfl, ⟨fun e => by omega, fun e => by omega⟩⟩)
            · intro a w1 vs K bq Hb HJ HK HD HN kk
              obtain rfl : bq = false := by cases bq with | false => rfl | true => exact absurd (Hb rfl).2 (by decide)
              have HJ' : Below w8.heap.size w8 w1 := HJ
              have e9 := HK 9 (by decide)
              exact wpo_loadS 53 (.tmp 9) rfl sx 0 (by simpa [Act.eval] using e9) (RA p R) _ (fun j u hj => by rw [Nat.zero_add]; exact ((HBSX.out w1 HJ').cell j).trans hj) und_state rfl info_state (kk _ _ (by simp) HJ (SideE.same2 _ (by omega)) ⟨rfl, ⟨fun e => by omega, fun e => by omega⟩⟩)
            · intro a w1 vs K bq Hb HJ HK HD HN kk
              obtain rfl : bq = false := by cases bq with | false => rfl | true => exact absurd (Hb rfl).2 (by decide)
              have HJ' : Below w8.heap.size w8 w1 := HJ
              have e1 := HK 1 (by decide)
              go_simp; exact kk _ _ (by simp) HJ (SideE.same2 _ (by omega)) ⟨rfl, ⟨fun e => by omega, fun e => by omega⟩⟩
            · intro a w1 vs K bq Hb HJ HK HD HN kk
              obtain rfl : bq = false := by cases bq with | false => rfl | true => exact absurd (Hb rfl).2 (by decide)
              have HJ' : Below w8.heap.size w8 w1 := HJ
              have e10 := HK 10 (by decide)
              go_simp; exact kk _ _ (by simp) HJ (SideE.same2 _ (by omega)) ⟨rfl, ⟨fun e => by omega, fun e => by omega⟩⟩
            · intro a w1 vs K bq Hb HJ HK HD HN kk
              obtain rfl : bq = false := by cases bq with | false => rfl | true => exact absurd (Hb rfl).2 (by decide)
              have HJ' : Below w8.heap.size w8 w1 := HJ
              have e58 := (HD 2 _ 58 rfl rfl rfl).1.trans (HD 2 _ 58 rfl rfl rfl).2.1
              have e59 := (HD 3 _ 59 rfl rfl rfl).1.trans (HD 3 _ 59 rfl rfl rfl).2.1
              go_simp; exact kk _ _ (by simp) HJ (SideE.same2 _ (by omega)) ⟨rfl, ⟨fun e => by omega, fun e => by omega⟩⟩
            · intro a w1 vs K bq Hb HJ HK HD HN kk
              obtain rfl : bq = false := by cases bq with | false => rfl | true => exact absurd (Hb rfl).2 (by decide)
              have HJ' : Below w8.heap.size w8 w1 := HJ
              have e60 := (HD 4 _ 60 rfl rfl rfl).1.trans (HD 4 _ 60 rfl rfl rfl).2.1
              exact wpo_loadS 57 (.tmp 60) rfl b (off + k * 4) (by simpa [Act.eval] using e60) #[.int .i64 what, .int .i64 a1, .int .i64 a2, .int .i64 a3] _ (HACT.out w1 HJ') und_actS rfl info_act (kk _ _ (by simp) HJ (SideE.same2 _ (by omega)) ⟨rfl, ⟨fun e => by omega, fun e => by omega⟩⟩)
            · intro a w1 vs K bq Hb HJ HK HD HN kk
              obtain rfl : bq = false := by cases bq with | false => rfl | true => exact absurd (Hb rfl).2 (by decide)
              have HJ' : Below w8.heap.size w8 w1 := HJ
              have e56 := (HD 0 _ 56 rfl rfl rfl).1.trans (HD 0 _ 56 rfl rfl rfl).2.1
              have e57 := (HD 1 _ 57 rfl rfl rfl).1.trans (HD 1 _ 57 rfl rfl rfl).2.1
              have e61 := (HD 5 _ 61 rfl rfl rfl).1.trans (HD 5 _ 61 rfl rfl rfl).2.1
              exact wpo_call 25 _ _ rfl #[.agg (plantA x p), .agg (RA p R), .agg #[.int .i64 what, .int .i64 a1, .int .i64 a2, .int .i64 a3]] (by simp [Act.eval, e56, e57, e61]) (fun args w => by kernel_rfl)
                ((HDUE.out w1 HJ').mono fun e w' ⟨R', he, hr, hb⟩ => ⟨_, he, kk _ _ (by simp) (HJ'.trans (hb.mono HJ'.size)) (SideE.below2 (by omega) hb) ⟨trivial, ⟨fun _ => ⟨R', rfl, hr⟩, fun e => by omega⟩⟩⟩)
            · intro a w1 vs K bq Hb HJ HK HD HN kk
              obtain rfl : bq = false := by cases bq with | false => rfl | true => exact absurd (Hb rfl).2 (by decide)
              have HJ' : Below w8.heap.size w8 w1 := HJ
              obtain ⟨q6, r6⟩ := HD 6 _ 62 rfl rfl rfl
              obtain ⟨R', x1, x2⟩ := r6.2.1 (Or.inl rfl)
              exact wpo_move (.tmp 62) _ (Or.inl rfl) (by simpa [Act.eval] using q6.trans x1) (kk _ _ (by simp) HJ' (SideE.same2 _ (by omega)) ⟨trivial, ⟨fun _ => ⟨_, rfl, x2⟩, fun e => by omega⟩⟩)
            · intro a w1 vs K bq Hb HJ HK HD HN kk
              obtain rfl : bq = false := by cases bq with | false => rfl | true => exact absurd (Hb rfl).2 (by decide)
              have HJ' : Below w8.heap.size w8 w1 := HJ
              obtain ⟨q7, r7⟩ := HD 7 _ 55 rfl rfl rfl
              obtain ⟨R', x1, x2⟩ := r7.2.1 (Or.inr rfl)
              have e55 := q7.trans x1
              clear x1 q7 r7
              go_simp; exact kk _ _ (by simp) HJ' (SideE.same2 _ (by omega)) ⟨trivial, ⟨fun e => by omega, fun _ => ⟨_, rfl, x2⟩⟩⟩
            · intro a w1 vs K bq Hb HJ HK HD HN kk
              obtain ⟨q7, r7⟩ := HD 7 _ 55 rfl rfl rfl
              obtain ⟨R', x1, x2⟩ := r7.2.1 (Or.inr rfl)
              have e55 := q7.trans x1
              clear x1 x2 q7 r7
              go_simp; exact kk _ _ (by simp) (by simpa using HJ) (SideE.same2 _ (by omega)) ⟨trivial, ⟨fun e => by omega, fun e => by omega⟩⟩
            · intro a w1 vs K bq Hb HJ HK HD HN kk
              obtain rfl : bq = false := by cases bq with | false => rfl | true => exact absurd rfl (Hb rfl).1
              have HJ' : Below w8.heap.size w8 w1 := HJ
              have e9 := HK 9 (by decide)
              obtain ⟨q8, r8⟩ := HD 8 _ 63 rfl rfl rfl
              obtain ⟨R', y1, y2⟩ := r8.2.2 rfl
              exact wpo_storeS 53 (.tmp 9) (.tmp 63) rfl rfl sx 0 (by simpa [Act.eval] using e9) (RA p R') (by simpa [Act.eval] using q8.trans y1) 53 (RA p R) (HBSX.out w1 HJ') (by rw [RA_size, RA_size]; omega) (RA_one _ _) info_state fun w2 hk2 ho2 => by
                have hk3 : Bk w2 sx 53 (RA p R') := by rw [RA_spl] at hk2; exact hk2
                exact kk undef _ (by simp) (HST7.out w1 HJ' R' y2 w2 hk3 ho2) (SideE.store2 (by have := HSD8.out.hi; omega) (HBSX.out w1 HJ') ho2 hk3) ⟨trivial, ⟨fun e => by omega, fun e => by omega⟩⟩
          · intro vs w9 hw9 hrr
            have HSD9 : Hid (Side W X sx p w9 T T) := Lib.hid hw9
            clear hrr hw9
            simp only [putAll, Act.put, List.setIfInBounds_toArray, List.set_cons_zero, List.set_cons_succ]
            obtain ⟨nN, hnN⟩ : ∃ nN, p.never.length = nN := ⟨_, rfl⟩
            have HNN := Lib.hid hnN
            have hn32 : nN ≤ 4096 := by
              have h1 := HPB.out
              unfold plantB at h1
              simp only [Bool.and_eq_true, decide_eq_true_eq] at h1
              have := h1.1.1.2
              omega
            clear hnN
            have HC3 : Hid (∀ z, Below W.heap.size W z → z.cell? ⟨w.heap.size, 3, none⟩ = some (.slice x.nA nN x.nc)) := Lib.hid fun z hz => by rw [← HNN.out]; exact (HC4.out z hz).2.2.2
            go_wp2_with fail
            go_loopw [11] (fun i wr => ∃ m : Nat, m ≤ nN ∧ i = .int .i64 m ∧ Hid (Side W X sx p wr T T)) (fun i _ => nN - (intOf i).toNat)
            case atStart => exact ⟨0, Nat.zero_le _, rfl, HSD9⟩
            case round =>
              obtain ⟨m, hm, rfl, hsm⟩ := hrel
              have p3 := HC3.out _ hsm.out.below
              by_cases hlm : m < nN
              · have hmi : (m : Int) < (nN : Int) := by omega
                have hmp : m < p.never.length := by rw [HNN.out]; exact hlm
                obtain ⟨bn, on, hA, hBn, hd⟩ := (HP.out _ hsm.out.below).never.at1 hmp
                rw [hA] at p3
                have cH := sysHolds_any _ X T hsm.out.sys (x.jA m) (x.jc m) (p.nev m) ((HP.out _ hsm.out.below).nv m hmp)
                have hf := never_holds hsm.out.sys.ok m (by rw [HTP.out]; exact hmp)
                rw [HTP.out] at hf
                rw [hf] at cH
                have HCH := Lib.hid cH
                clear cH hf hmp hA
                go_wp2_with fail
                refine HCH.out.mono ?_
                rintro e w10 ⟨rfl, hb10⟩
                have HSD10 := Lib.hid (hsm.out.later hb10)
                clear hb10 hd p3
                go_wp2_with fail
                go_roundw
                case rel => (repeat apply Exists.intro); exact ⟨⟨m + 1, by omega, by go_num, HSD10⟩, rfl⟩
                case measure => simp [intOf]; omega
              · obtain rfl : m = nN := by omega
                obtain ⟨b1, hb1⟩ : ∃ b1, (inB l2.length 1 50 && allN l2.length fun i => inB (l2.getD i lit0).valve 0 (p.valves.length - 1)) = b1 := ⟨_, rfl⟩
                obtain ⟨b2, hb2⟩ : ∃ b2, (allN l2.length fun i => holdsB p T.at_ (l2.getD i lit0)) = b2 := ⟨_, rfl⟩
                have hval := holdsSetB_ref T l2 (by rw [HNL2.out]; omega)
                rw [HTP.out, hb1, hb2] at hval
                obtain ⟨Rx, hx1, hx2⟩ := hsm.out.st
                have hx1' : Bk wr sx 53 (RA p Rx) := by rw [← RA_of HTP.out]; exact hx1
                have hbx := HC.out wr hsm.out.below
                have k0 := Ext.cell (hbx.cell 0); have k1 := Ext.cell (hbx.cell 1); have k2 := Ext.cell (hbx.cell 2); have k3 := Ext.cell (hbx.cell 3)
                have s0 := Ext.cell (hx1'.cell 0); have s1 := Ext.cell (hx1'.cell 1); have s2 := Ext.cell (hx1'.cell 2); have s3 := Ext.cell (hx1'.cell 3); have s4 := Ext.cell (hx1'.cell 4)
                have s5 := Ext.cell (hx1'.cell 5); have s6 := Ext.cell (hx1'.cell 6); have s7 := Ext.cell (hx1'.cell 7); have s8 := Ext.cell (hx1'.cell 8)
                simp only [plantA] at k0 k1 k2 k3
                simp only [RA, refA] at s0 s1 s2 s3 s4 s5 s6 s7 s8
                have HLQ : Hid (∀ z : Ext wr, LitsAt z.w z.w.heap.size A2 l2) := Lib.hid fun z => HL2.out z.w (hsm.out.below.trans (z.h.mono hsm.out.below.size))
                have HPQ : Hid (∀ z : Ext wr, PlantAt z.w z.w.heap.size x p) := Lib.hid fun z => HP.out z.w (hsm.out.below.trans (z.h.mono hsm.out.below.size))
                have HHx : Hid (∀ z : Ext wr, Calls Tryz.prog 26 #[.pointer (some ⟨X.sb, 0, none⟩), .slice A2 n2 c2] z.w fun e w' => e = .returned (.bool (b1 && b2)) ∧ Below z.w.heap.size z.w w') := Lib.hid fun z => by
                  have h := sysHolds_any z.w X T (hsm.out.later z.h).sys A2 c2 l2 (HLQ.out z)
                  rw [HNL2.out, hval] at h; exact h
                have HLx : Hid (∀ z : Ext wr, Calls Tryz.prog 27 #[.agg (plantA x p), .slice A2 n2 c2, .int .i64 50] z.w fun e w' => e = .returned (.bool b1) ∧ Below z.w.heap.size z.w w') := Lib.hid fun z => by
                  have h := refLits_any z.w x p (HPQ.out z) A2 l2.length c2 (fun i => l2.getD i lit0) (HLQ.out z) 50
                  rw [hb1, HNL2.out] at h; exact h
                have HRx : Hid (b1 = true → ∀ z : Ext wr, Calls Tryz.prog 28 #[.agg (plantA x p), .agg (RA p Rx), .slice A2 n2 c2] z.w fun e w' => e = .returned (.bool b2) ∧ Below z.w.heap.size z.w w') := Lib.hid fun hbt z => by
                  have h := refHoldsSet_any z.w x Rx T (by rw [HTP.out]; exact HPQ.out z) ((RefB.at_ (RefB.below hx2 z.h)) ) A2 l2.length c2 (fun i => l2.getD i lit0) (HLQ.out z) (fun i hi => by
                    rw [hbt, Bool.and_eq_true] at hb1
                    have := inB_iff.1 (allN_iff.1 hb1.2 i hi)
                    rw [HTP.out]; omega)
                  rw [HTP.out, RA_of HTP.out, hb2, HNL2.out] at h
                  exact h
                clear hx1 hx1' hx2 hbx hval hb1 hb2
                simp only [plantA, RA, refA] at HLx HRx
                cases b1 with
                | false =>
                  clear HRx
                  go_wp2_with fail
                  refine wp_region_ext_quiet (by kernel_rfl) (by kernel_rfl) ?_
                  repeat (go_big_quiet_step (first | ((go_at_call 26; exact Ext.calls (HHx.out _))) | ((go_at_call 27; exact Ext.calls (HLx.out _)))))
                  refine wpQuiet_nil ?_
                  intro w5 hw5
                  have HSDE := Lib.hid (hsm.out.later hw5)
                  clear k0 k1 k2 k3 s0 s1 s2 s3 s4 s5 s6 s7 s8
                  go_wp2_with fail
                  go_roundw
                  case rel => exact ⟨k + 1, T, by omega, by go_num, HSDE⟩
                  case measure => simp [intOf]; omega
                | true =>
                  have HRy := Lib.hid (HRx.out rfl)
                  clear HRx
                  cases b2 <;>
                  ( go_wp2_with fail
                    refine wp_region_ext_quiet (by kernel_rfl) (by kernel_rfl) ?_
                    repeat (go_big_quiet_step (first | ((go_at_call 26; exact Ext.calls (HHx.out _))) | ((go_at_call 27; exact Ext.calls (HLx.out _))) | ((go_at_call 28; exact Ext.calls (HRy.out _)))))
                    refine wpQuiet_nil ?_
                    intro w5 hw5
                    have HSDE := Lib.hid (hsm.out.later hw5)
                    clear k0 k1 k2 k3 s0 s1 s2 s3 s4 s5 s6 s7 s8
                    go_wp2_with fail
                    go_roundw
                    case rel => exact ⟨k + 1, T, by omega, by go_num, HSDE⟩
                    case measure => simp [intOf]; omega)
        · obtain rfl : k = n := by omega
          go_wp2_with fail
          refine (END.out wr hsd.out.below).mono ?_
          rintro e w10 ⟨rfl, hb10⟩
          go_wp2_with fail
          go_ret
          exact ⟨rfl, FIN.out _ hb10⟩
end Go.Proofs.YtogobjmmgjfjjaaGreat
