/- What is proved: the texts M7 M9, one behind the other; each says at its head what it proves, and under which conditions. -/
import Derived.StillTailTactics
import Derived.BigQuiet
import Derived.Outline
import Derived.Test.YtogobjmmgjfjjaaGreatdPPaths13
/- What is proved: a contract of the document's Path. Conditions: the plant and the goal lie in memory; the bound is at most 300. -/
namespace Go.Proofs.YtogobjmmgjfjjaaGreat
open Go.RowKit

set_option maxRecDepth 100000 in
set_option maxHeartbeats 16000000 in
theorem refPath_any (w : World) (x : PV) (p : PlantD) (hp : PlantAt w w.heap.size x p) (A : Option Addr) (c : Nat) (g : List LitD) (hg : LitsAt w w.heap.size A g) (great : Nat) (hgr : great ≤ 300) :
    Calls Tryz.prog 15 #[.agg (plantA x p), .slice A g.length c, .int .i64 great] w fun e w' => ∃ A' c', e = .returned (.tuple #[.slice A' (pathD p g great).1.length c', .int .i64 (pathD p g great).2.1, .bool (pathD p g great).2.2]) ∧ LitsAt w' w'.heap.size A' (pathD p g great).1 ∧ Below w.heap.size w w' := by
  obtain ⟨W, hW⟩ : ∃ W, W = w.alloc (.cells (plantA x p) 27) := ⟨_, rfl⟩
  have hbW : Below w.heap.size w W := by rw [hW]; exact (Below.refl _ _).alloc (Nat.le_refl _) _
  have hb0 : Bk W w.heap.size 27 (plantA x p) := by rw [hW]; exact Bk.new _ _ _
  have HP : Hid (∀ wx, Below W.heap.size W wx → PlantAt wx wx.heap.size x p) := Lib.hid fun wx hx => ((hp.below hbW).below (hx.mono hbW.size)).mono (Nat.le_trans hbW.size hx.size)
  have HL : Hid (∀ wx, Below W.heap.size W wx → LitsAt wx wx.heap.size A g) := Lib.hid fun wx hx => Sl.mono (Sl.below (Sl.below hg hbW) (hx.mono hbW.size)) (Nat.le_trans hbW.size hx.size)
  have HB0 : Hid (∀ wx, Below W.heap.size W wx → Bk wx w.heap.size 27 (plantA x p)) := Lib.hid fun wx hx => hb0.below hx hb0.lt
  have HC4 : Hid (∀ wx, Below W.heap.size W wx → wx.cell? ⟨w.heap.size, 0, none⟩ = some (.slice x.tA p.tanks.length x.tc) ∧ wx.cell? ⟨w.heap.size, 1, none⟩ = some (.slice x.vA p.valves.length x.vc) ∧
      wx.cell? ⟨w.heap.size, 2, none⟩ = some (.slice x.lA p.lines.length x.lc) ∧ wx.cell? ⟨w.heap.size, 3, none⟩ = some (.slice x.nA p.never.length x.nc)) := Lib.hid fun wx hx =>
    have h0 := HB0.out wx hx
    ⟨h0.cell 0, h0.cell 1, h0.cell 2, h0.cell 3⟩
  have HB := Lib.hid hbW
  have HW := Lib.hid hW
  simp only [plantA] at HW
  clear hp hg hbW hb0 hW
  dsimp only [plantA]
  obtain ⟨⟨m, e, is⟩, hG⟩ : ∃ G, pathD p g great = G := ⟨_, rfl⟩
  have HG0 := Lib.hid hG
  rw [hG]
  obtain ⟨gl, hgl⟩ : ∃ n, g.length = n := ⟨_, rfl⟩
  have HGL := Lib.hid hgl
  rw [hgl]
  clear hG hgl
  dsimp only
  go_enter Tryz.func15, Tryz.ntmps15
  go_wp2_with fail
  rw [← HW.out]
  go_wp2_with (first
    | (refine wpLoadAt rfl 27 _ rfl w.heap.size 0 rfl (plantA x p) _ (fun j u hj => by rw [Nat.zero_add]; exact ((HB0.out _ (Below.refl _ _)).cell j).trans hj) und_plant rfl info_plant ?_))
  have hck := refCheckPlant_any W x p (HP.out W (Below.refl _ _))
  simp only [plantA] at hck
  refine hck.mono ?_
  rintro e w1 ⟨rfl, hb1⟩
  clear hck
  have HB1 : Hid (Below W.heap.size W w1) := Lib.hid hb1
  clear hb1
  obtain ⟨pb, hpb⟩ : ∃ pb, plantB p = pb := ⟨_, rfl⟩
  rw [hpb]
  cases pb with
  | false =>
    have HD : Hid (pathD p g great = ([], 2, true)) := Lib.hid (by unfold pathD; rw [hpb]; simp)
    clear hpb
    go_wp2_with fail
    go_ret3
    have hgg := HG0.out.symm.trans HD.out
    simp only [Prod.mk.injEq] at hgg
    obtain ⟨rfl, rfl, rfl⟩ := hgg
    exact ⟨none, 0, rfl, ⟨by simp, fun h => absurd h (by simp)⟩, HB.out.trans (HB1.out.mono HB.out.size)⟩
  | true =>
    have HPB := Lib.hid hpb
    clear hpb
    obtain ⟨k0, k1, k2, k3⟩ := HC4.out w1 HB1.out
    go_wp2_with fail
    clear k0 k1 k2 k3
    have hli := refLits_any w1 x p (HP.out w1 HB1.out) A g.length c (fun i => g.getD i lit0) (HL.out w1 HB1.out) 16
    simp only [plantA] at hli
    rw [HGL.out] at hli
    refine hli.mono ?_
    rintro e w2 ⟨rfl, hb2⟩
    clear hli
    have HB2 : Hid (Below W.heap.size W w2) := Lib.hid (HB1.out.trans (hb2.mono HB1.out.size))
    clear hb2 HB1
    obtain ⟨lb, hlb⟩ : ∃ lb, (inB gl 1 16 && allN gl fun i => inB (g.getD i lit0).valve 0 (p.valves.length - 1)) = lb := ⟨_, rfl⟩
    rw [hlb]
    have hlo : litsOk p.valves.length g 16 = lb := by rw [← hlb, ← HGL.out]; rfl
    clear hlb
    cases lb with
    | false =>
      have HD : Hid (pathD p g great = ([], 2, true)) := Lib.hid (by unfold pathD; rw [hlo]; simp)
      clear hlo
      go_wp2_with fail
      go_ret3
      have hgg := HG0.out.symm.trans HD.out
      simp only [Prod.mk.injEq] at hgg
      obtain ⟨rfl, rfl, rfl⟩ := hgg
      exact ⟨none, 0, rfl, ⟨by simp, fun h => absurd h (by simp)⟩, HB.out.trans (HB2.out.mono HB.out.size)⟩
    | true =>
      have HD : Hid (pathD p g great = searchD p g great (great + 2) 0 [⟨firstB p, []⟩]) := Lib.hid (by unfold pathD; rw [hlo, HPB.out]; rfl)
      have HGO : Hid (GoalOk p g) := Lib.hid (goalOk_of hlo)
      clear hlo
      have HVV := Lib.hid (plantOk_valves HPB.out)
      have HNV := Lib.hid (plantOk_never HPB.out)
      have HBW : Hid (W.heap.size ≤ w2.heap.size) := Lib.hid HB2.out.size
      obtain ⟨E0, hE0⟩ : ∃ E : Exc, E.top = 0 := ⟨⟨fun _ => False, 0, fun _ h => h.elim⟩, rfl⟩
      have HE0 := Lib.hid hE0
      clear hE0
      have HPK : Hid (∀ w3, Below w2.heap.size w2 w3 → Bk w3 w.heap.size 27 (plantA x p)) := Lib.hid fun w3 h3 => HB0.out w3 (HB2.out.trans (h3.mono HBW.out))
      have HBG : Hid (∀ w3, Below w2.heap.size w2 w3 → Calls Tryz.prog 23 #[.agg (plantA x p)] w3 fun e w' => ∃ R', e = .returned (.agg (RA p R')) ∧ @RefAt (exV E0 (.slice none ([] : List RowD).length 0) (.slice none ([] : List RowD).length 0)) w' w'.heap.size R' (startB p) ∧ Below w3.heap.size w3 w') := Lib.hid fun w3 h3 =>
        @refBegin_any (exV E0 (.slice none ([] : List RowD).length 0) (.slice none ([] : List RowD).length 0)) w3 x p (HP.out w3 (HB2.out.trans (h3.mono HBW.out))) (short_of HPB.out) (by show max E0.top (max 0 0) ≤ _; rw [HE0.out]; exact Nat.zero_le _)
      have HADD : Hid (∀ w3, Below w2.heap.size w2 w3 → ∀ R', @RefAt (exV E0 (.slice none ([] : List RowD).length 0) (.slice none ([] : List RowD).length 0)) w3 w3.heap.size R' (startB p) → Calls Tryz.prog 43 #[.agg (plantA x p), .slice none 0 0, .slice none 0 0, .agg (rowArr p R' none 0 0)] w3 (AddPost E0 w3 W.heap.size p [⟨firstB p, []⟩])) := Lib.hid fun w3 h3 R' hr =>
        refAdd_any (E := E0) w3 W.heap.size x p (HP.out w3 (HB2.out.trans (h3.mono HBW.out))) HVV.out [] none none 0 0 (fun _ => nilR) (fun _ => none) (fun _ => 0) (RowsQ.nil (by have := h3.size; have := HBW.out; omega)) (by simp) ⟨firstB p, []⟩ R' none 0 (firstB_spots HVV.out) hr (Cl.nil _ _ _ _ _ _)
      go_wp2_with fail
      refine wp_region_stepsJ (by kernel_rfl) (by kernel_rfl) (fun dn vs w1 => AddJ E0 (.slice none ([] : List RowD).length 0) (.slice none ([] : List RowD).length 0) w2 W.heap.size p ([⟨firstB p, []⟩] : List RowD) (startB p) (dn 2) (dn 4) (vs 2) (vs 4) w1) (fun _ _ _ => True)
        (fun ix u d w1 => (match ix with
          | 0 => u = .agg (plantA x p)
          | 1 => u = .agg (plantA x p)
          | 2 => True
          | 3 => True
          | 4 => True
          | 5 => True
          | 6 => True
          | 7 => True
          | 8 => True
          | _ => True) ∧ AddR p ([⟨firstB p, []⟩] : List RowD).length 2 3 4 (fun R => .agg (rowArr p R none 0 0)) ix u d) (fun _ => AddJ.start) (fun _ _ _ _ _ _ _ _ hr _ => hr) ?_ ?_
      · refine ⟨?_, ?_, ?_, ?_, ?_, ?_, ?_, ?_, ?_, ?_, trivial⟩
        · intro a w1 vs K dn Hd Hb HJ HK HD HN kk
          have e3 := HK 3 (by decide)
          have d16 : dn 4 = false := by cases hq : dn 4 with | false => rfl | true => exact absurd (Hd 4 hq).2 (by decide)
          have HJ' := AddJ.off HJ d16
          exact wpo_loadS 27 (.tmp 3) rfl w.heap.size 0 (by simpa [Act.eval] using e3) (plantA x p) _ (fun j u hj => by rw [Nat.zero_add]; exact ((HPK.out w1 HJ'.1).cell j).trans hj) und_plant rfl info_plant (kk _ _ (by simp) HJ trivial ⟨rfl, ⟨fun e => by omega, fun e => by omega, fun e => by omega, fun e => by omega, fun e => by omega, fun e => by omega⟩⟩)
        · intro a w1 vs K dn Hd Hb HJ HK HD HN kk
          have e3 := HK 3 (by decide)
          have d16 : dn 4 = false := by cases hq : dn 4 with | false => rfl | true => exact absurd (Hd 4 hq).2 (by decide)
          have HJ' := AddJ.off HJ d16
          exact wpo_loadS 27 (.tmp 3) rfl w.heap.size 0 (by simpa [Act.eval] using e3) (plantA x p) _ (fun j u hj => by rw [Nat.zero_add]; exact ((HPK.out w1 HJ'.1).cell j).trans hj) und_plant rfl info_plant (kk _ _ (by simp) HJ trivial ⟨rfl, ⟨fun e => by omega, fun e => by omega, fun e => by omega, fun e => by omega, fun e => by omega, fun e => by omega⟩⟩)
        · intro a w1 vs K dn Hd Hb HJ HK HD HN kk
          have e28 := (HD 1 _ 28 rfl rfl rfl).1.trans (HD 1 _ 28 rfl rfl rfl).2.1
          have d16 : dn 4 = false := by cases hq : dn 4 with | false => rfl | true => exact absurd (Hd 4 hq).2 (by decide)
          have HJ' := AddJ.off HJ d16
          exact wpo_call 23 _ _ rfl #[.agg (plantA x p)] (by simp [Act.eval, e28]) (fun args w => by kernel_rfl)
            ((HBG.out w1 HJ'.1).mono fun e w' ⟨R', he, hr, hb⟩ => ⟨_, he, kk _ _ (by simp) (AddJ.call d16 HJ'.1 hb hr) trivial ⟨trivial, ⟨fun e => by omega, fun e => by omega, fun e => by omega, fun e => by omega, fun e => by omega, fun e => by omega⟩⟩⟩)
        · intro a w1 vs K dn Hd Hb HJ HK HD HN kk
          have d16 : dn 4 = false := by cases hq : dn 4 with | false => rfl | true => exact absurd (Hd 4 hq).2 (by decide)
          have HJ' := AddJ.off HJ d16
          obtain ⟨R', x1, x2⟩ := HJ'.2 (Hb 2 (by decide))
          have e29 := (HD 2 _ 29 rfl rfl rfl).1.trans x1
          exact wpo_buildL 125 _ rfl [(0, .agg (RA p R'))] (rowArr p R' none 0 0) (by simp [Act.eval, e29]) (built_rowD0 p R') (kk _ _ (by simp) HJ trivial ⟨trivial, ⟨fun _ => ⟨R', x1, rfl⟩, fun e => by omega, fun e => by omega, fun e => by omega, fun e => by omega, fun e => by omega⟩⟩)
        · intro a w1 vs K dn Hd Hb HJ HK HD HN kk
          have e27 := (HD 0 _ 27 rfl rfl rfl).1.trans (HD 0 _ 27 rfl rfl rfl).2.1
          have d16 : dn 4 = false := by cases hq : dn 4 with | false => rfl | true => exact absurd rfl (Hd 4 hq).1
          have HJ' := AddJ.off HJ d16
          obtain ⟨_, r3⟩ := HD 3 _ 30 rfl rfl rfl
          obtain ⟨R1, y1, y2⟩ := r3.2.1 rfl
          obtain ⟨R', x1, x2⟩ := HJ'.2 (Hb 2 (by decide))
          have y1' : vs 2 = .agg (RA p R1) := y1
          have hra : RA p R1 = RA p R' := by have := y1'.symm.trans x1; injection this
          have y2' : vs 3 = .agg (rowArr p R1 none 0 0) := y2
          rw [rowArr_congr hra] at y2'
          have e30 := (HD 3 _ 30 rfl rfl rfl).1.trans y2'
          exact wpo_call 43 _ _ rfl #[.agg (plantA x p), .slice none 0 0, .slice none 0 0, .agg (rowArr p R' none 0 0)] (by simp [Act.eval, e27, e30]) (fun args w => by kernel_rfl)
            ((HADD.out w1 HJ'.1 R' x2).mono fun e w' h => by
              obtain ⟨Aa, ca, Ab, cb, Rx, Ox, ox, he, hq, hb⟩ := h
              exact ⟨_, he, kk _ _ (by simp) (AddJ.done HBW.out HJ'.1 ⟨Aa, ca, Ab, cb, Rx, Ox, ox, rfl, hq, hb⟩) trivial ⟨trivial, ⟨fun e => by omega, fun e => by omega, fun e => by omega, fun e => by omega, fun e => by omega, fun e => by omega⟩⟩⟩)
        · intro a w1 vs K dn Hd Hb HJ HK HD HN kk
          obtain ⟨q, _⟩ := HD 4 _ 31 rfl rfl rfl
          obtain ⟨Aa, ca, Ab, cb, x⟩ := AddPost.form (AddJ.on HJ (Hb 4 (by decide)))
          exact wpo_move (.tmp 31) (vs 4) (Or.inl rfl) (by simpa [Act.eval] using q) (kk _ _ (by simp) HJ trivial ⟨trivial, ⟨fun e => by omega, fun _ => ⟨rfl, Aa, ca, Ab, cb, x⟩, fun e => by omega, fun e => by omega, fun e => by omega, fun e => by omega⟩⟩)
        · intro a w1 vs K dn Hd Hb HJ HK HD HN kk
          obtain ⟨q, r⟩ := HD 5 _ 26 rfl rfl rfl
          obtain ⟨_, Aa, ca, Ab, cb, x⟩ := r.2.2.1 rfl
          have e26 := q.trans x
          clear q r
          go_simp; exact kk _ _ (by simp) HJ trivial ⟨trivial, ⟨fun e => by omega, fun e => by omega, fun _ => ⟨Aa, ca, Ab, cb, x, rfl⟩, fun e => by omega, fun e => by omega, fun e => by omega⟩⟩
        · intro a w1 vs K dn Hd Hb HJ HK HD HN kk
          obtain ⟨q, r⟩ := HD 5 _ 26 rfl rfl rfl
          obtain ⟨_, Aa, ca, Ab, cb, x⟩ := r.2.2.1 rfl
          have e26 := q.trans x
          clear q r
          go_simp; exact kk _ _ (by simp) HJ trivial ⟨trivial, ⟨fun e => by omega, fun e => by omega, fun e => by omega, fun _ => ⟨Aa, ca, Ab, cb, x, rfl⟩, fun e => by omega, fun e => by omega⟩⟩
        · intro a w1 vs K dn Hd Hb HJ HK HD HN kk
          obtain ⟨q, _⟩ := HD 6 _ 32 rfl rfl rfl
          exact wpo_move (.tmp 32) (vs 6) (Or.inr rfl) (by simpa [Act.eval] using q) (kk _ _ (by simp) HJ trivial ⟨trivial, ⟨fun e => by omega, fun e => by omega, fun e => by omega, fun e => by omega, fun _ => rfl, fun e => by omega⟩⟩)
        · intro a w1 vs K dn Hd Hb HJ HK HD HN kk
          obtain ⟨q, _⟩ := HD 7 _ 33 rfl rfl rfl
          exact wpo_move (.tmp 33) (vs 7) (Or.inr rfl) (by simpa [Act.eval] using q) (kk _ _ (by simp) HJ trivial ⟨trivial, ⟨fun e => by omega, fun e => by omega, fun e => by omega, fun e => by omega, fun e => by omega, fun _ => rfl⟩⟩)
      · intro vs dn w3 hdn hj hrr
        rw [hdn 4 (by decide)] at hj
        obtain ⟨A1, c1, A2, c2, Rs, OA, oc, f8, f9, hq, hb⟩ := AddJ.fin hj ((hrr 5 _ rfl).2.2.1 rfl).1 rfl ((hrr 6 _ rfl).2.2.2.1 rfl) ((hrr 7 _ rfl).2.2.2.2.1 rfl) ((hrr 8 _ rfl).2.2.2.2.2.1 rfl) ((hrr 9 _ rfl).2.2.2.2.2.2 rfl)
        simp only [putAll, Act.put, List.setIfInBounds_toArray, List.set_cons_zero, List.set_cons_succ]
        rw [f8, f9]
        have HQ0 : Hid (PathQ E0 W p w3 [⟨firstB p, []⟩] A1 c1 A2 c2) := Lib.hid ⟨⟨Rs, OA, oc, hq⟩, HB2.out.trans hb, fun k hk => by
          have : k = 0 := by simp at hk; omega
          subst this; exact Nat.zero_le _⟩
        clear hrr hj hdn f8 f9 hq hb HBG HADD HPK
        go_wp2_with fail
        go_loopw [9, 10, 11] (fun rv cv i wr => ∃ (k : Nat) (l : List RowD) (A1 : Option Addr) (c1 : Nat) (A2 : Option Addr) (c2 : Nat), k ≤ great ∧ rv = .slice A1 l.length c1 ∧ cv = .slice A2 l.length c2 ∧ i = .int .i64 k ∧ Hid (PathQ E0 W p wr l A1 c1 A2 c2 ∧ l.length ≤ 900 ∧ searchD p g great (great + 2 - k) k l = (m, e, is))) (fun _ _ i _ => great + 2 - (intOf i).toNat)
        case atStart => exact ⟨0, [⟨firstB p, []⟩], A1, c1, A2, c2, Nat.zero_le _, rfl, rfl, rfl, Lib.hid ⟨HQ0.out, by simp, HD.out.symm.trans HG0.out⟩⟩
        case round =>
          obtain ⟨k, l, A1, c1, A2, c2, hk, rfl, rfl, rfl, hs⟩ := hrel
          obtain ⟨L, hL⟩ : ∃ L, l.length = L := ⟨_, rfl⟩
          have HLN := Lib.hid hL
          rw [hL]
          clear hL
          by_cases hlt : k < L
          · have hki : (k : Int) < (L : Int) := by omega
            have h0k : (0 : Int) ≤ (k : Int) := by omega
            have hlt' : k < l.length := by rw [HLN.out]; exact hlt
            obtain ⟨Rs, OA, oc, hq⟩ := hs.out.1.rows
            obtain ⟨gb, rfl, hcell⟩ := hq.cell (by have := hs.out.2.1; omega) hlt'
            obtain ⟨r, hr⟩ : ∃ r, l.getD k row0 = r := ⟨_, rfl⟩
            obtain ⟨tb, htb⟩ : ∃ tb, reachedB p r.at_ g = tb := ⟨_, rfl⟩
            have hst := hq.st k hlt'
            have hod := hq.od k hlt'
            rw [hr] at hcell hst hod
            have HR := Lib.hid hr
            have HTB := Lib.hid htb
            have HWR : Hid (W.heap.size ≤ wr.heap.size) := Lib.hid hs.out.1.below.size
            have HOD := Lib.hid hod
            have HPK : Hid (∀ w3, Below wr.heap.size wr w3 → Bk w3 w.heap.size 27 (plantA x p)) := Lib.hid fun w3 h3 => HB0.out w3 (hs.out.1.below.trans (h3.mono HWR.out))
            have HPW : Hid (∀ w3, Below wr.heap.size wr w3 → PlantAt w3 w3.heap.size x p) := Lib.hid fun w3 h3 => HP.out w3 (hs.out.1.below.trans (h3.mono HWR.out))
            have HTH : Hid (∀ w3, Below wr.heap.size wr w3 → Calls Tryz.prog 44 #[.agg (plantA x p), .agg (RA p (Rs k)), .slice A gl c] w3 fun e w' => e = .returned (.bool tb) ∧ Below w3.heap.size w3 w') := Lib.hid fun w3 h3 => by
              letI : Exc := exV E0 (.slice (some ⟨gb, 0, none⟩) l.length c1) (.slice A2 l.length c2)
              have h := refThere_any w3 x (Rs k) (spS p r.at_) (HPW.out w3 h3) ((RefAt.below hst h3).mono h3.size) A c g (HL.out w3 (hs.out.1.below.trans (h3.mono HWR.out))) HGO.out
              rw [HGL.out, show reachedB (spS p r.at_).p (spS p r.at_).at_ g = tb from htb] at h
              exact h
            have HRC : Hid (∀ w3, Below wr.heap.size wr w3 → ∀ j u, (RA p (Rs k))[j]? = some u → w3.cell? ⟨gb, k * 10 + j, none⟩ = some u) := Lib.hid fun w3 h3 j u hj => by
              have hq3 := hq.later h3
              obtain ⟨gb', e', hc'⟩ := hq3.cell (by have := hs.out.2.1; omega) hlt'
              have eg : gb = gb' := by simpa using e'
              subst eg
              have hj9 : j < 9 := by have := (Array.getElem?_eq_some_iff.1 hj).1; rw [RA_size] at this; exact this
              rw [hr] at hc'
              refine (hc' j (by omega)).trans ?_
              rw [← hj]
              match j, hj9 with
              | 0, _ => rfl
              | 1, _ => rfl
              | 2, _ => rfl
              | 3, _ => rfl
              | 4, _ => rfl
              | 5, _ => rfl
              | 6, _ => rfl
              | 7, _ => rfl
              | 8, _ => rfl
            have HRO : Hid (∀ w3, Below wr.heap.size wr w3 → w3.cell? ⟨gb, k * 10 + 9, none⟩ = some (.slice (OA k) r.ords.length (oc k))) := Lib.hid fun w3 h3 => by
              have hq3 := hq.later h3
              obtain ⟨gb', e', hc'⟩ := hq3.cell (by have := hs.out.2.1; omega) hlt'
              have eg : gb = gb' := by simpa using e'
              subst eg
              rw [hr] at hc'
              exact hc' 9 (by omega)
            clear hq hcell hst hod hr htb
            go_wp2_with fail
            refine wp_region_steps (by kernel_rfl) (by kernel_rfl) (fun w1 => Below wr.heap.size wr w1) (fun _ _ _ => True)
              (fun ix u _ _ => match ix with
                | 0 => u = .agg (plantA x p)
                | 1 => u = .slice (some ⟨gb, 0, none⟩) L c1
                | 2 => u = .int .i64 k
                | 3 => u = .pointer (some ⟨gb, k * 10, none⟩)
                | 4 => u = .pointer (some ⟨gb, k * 10, none⟩)
                | 5 => u = .agg (RA p (Rs k))
                | 6 => u = .slice A gl c
                | _ => u = .bool tb) (Below.refl _ _).drew (fun _ _ _ _ _ _ _ _ h _ _ => h) ?_ ?_
            · refine ⟨?_, ?_, ?_, ?_, ?_, ?_, ?_, ?_, trivial⟩
              · intro a w1 vs K HJ HK HD HN kk
                have e3 := HK 3 (by decide)
                exact wpo_loadS 27 (.tmp 3) rfl w.heap.size 0 (by simpa [Act.eval] using e3) (plantA x p) _ (fun j u hj => by rw [Nat.zero_add]; exact ((HPK.out w1 HJ).cell j).trans hj) und_plant rfl info_plant (kk _ _ (by simp) HJ trivial rfl)
              · intro a w1 vs K HJ HK HD HN kk
                have e9 := HK 9 (by decide)
                go_simp; exact kk _ _ (by simp) HJ trivial rfl
              · intro a w1 vs K HJ HK HD HN kk
                have e11 := HK 11 (by decide)
                go_simp; exact kk _ _ (by simp) HJ trivial rfl
              · intro a w1 vs K HJ HK HD HN kk
                have e41 := (HD 1 _ 41 rfl rfl rfl).1.trans (HD 1 _ 41 rfl rfl rfl).2
                have e42 := (HD 2 _ 42 rfl rfl rfl).1.trans (HD 2 _ 42 rfl rfl rfl).2
                go_simp; exact kk _ _ (by simp) HJ trivial rfl
              · intro a w1 vs K HJ HK HD HN kk
                have e43 := (HD 3 _ 43 rfl rfl rfl).1.trans (HD 3 _ 43 rfl rfl rfl).2
                go_simp; exact kk _ _ (by simp) HJ trivial rfl
              · intro a w1 vs K HJ HK HD HN kk
                have e44 := (HD 4 _ 44 rfl rfl rfl).1.trans (HD 4 _ 44 rfl rfl rfl).2
                exact wpo_loadS 53 (.tmp 44) rfl gb (k * 10) (by simpa [Act.eval] using e44) (RA p (Rs k)) _ (HRC.out w1 HJ) und_state rfl info_state (kk _ _ (by simp) HJ trivial rfl)
              · intro a w1 vs K HJ HK HD HN kk
                have e1 := HK 1 (by decide)
                go_simp; exact kk _ _ (by simp) HJ trivial rfl
              · intro a w1 vs K HJ HK HD HN kk
                have e40 := (HD 0 _ 40 rfl rfl rfl).1.trans (HD 0 _ 40 rfl rfl rfl).2
                have e45 := (HD 5 _ 45 rfl rfl rfl).1.trans (HD 5 _ 45 rfl rfl rfl).2
                have e46 := (HD 6 _ 46 rfl rfl rfl).1.trans (HD 6 _ 46 rfl rfl rfl).2
                exact wpo_call 44 _ _ rfl #[.agg (plantA x p), .agg (RA p (Rs k)), .slice A gl c] (by simp [Act.eval, e40, e45, e46]) (fun args w => by kernel_rfl)
                  ((HTH.out w1 HJ).mono fun e w' ⟨he, hb⟩ => ⟨_, he, kk _ _ (by simp) (Below.trans HJ (hb.mono HJ.size)) trivial rfl⟩)
            · intro vs w3 hw3 hrr
              have e7 : vs 7 = .bool tb := hrr 7 _ rfl
              have HW3 := Lib.hid hw3
              clear hrr hw3
              simp only [putAll, Act.put, List.setIfInBounds_toArray, List.set_cons_zero, List.set_cons_succ]
              rw [e7]
              clear e7
              have co := HRO.out w3 HW3.out
              cases tb with
              | true =>
                have HGG : Hid ((m, e, is) = (r.ords, 0, true)) := Lib.hid (by
                  have h := hs.out.2.2
                  rw [show great + 2 - k = (great + 1 - k) + 1 from by omega, searchD_goal hlt' (by rw [HR.out]; exact HTB.out), HR.out] at h
                  exact h.symm)
                go_wp2_with fail
                go_ret3
                have hgg := HGG.out
                simp only [Prod.mk.injEq] at hgg
                obtain ⟨rfl, rfl, rfl⟩ := hgg
                exact ⟨OA k, oc k, rfl, (HOD.out.below HW3.out).sl, HB.out.trans ((hs.out.1.below.trans (HW3.out.mono HWR.out)).mono HB.out.size)⟩
              | false =>
                by_cases hgl : (great : Int) < (L : Int)
                · have HGG : Hid ((m, e, is) = ([], 0, false)) := Lib.hid (by
                    have h := hs.out.2.2
                    rw [show great + 2 - k = (great + 1 - k) + 1 from by omega, searchD_great hlt' (by rw [HR.out]; exact HTB.out) (by rw [HLN.out]; omega)] at h
                    exact h.symm)
                  go_wp2_with fail
                  go_ret3
                  have hgg := HGG.out
                  simp only [Prod.mk.injEq] at hgg
                  obtain ⟨rfl, rfl, rfl⟩ := hgg
                  exact ⟨none, 0, rfl, ⟨by simp, fun h => absurd h (by simp)⟩, HB.out.trans ((hs.out.1.below.trans (HW3.out.mono HWR.out)).mono HB.out.size)⟩
                · have HLG : Hid (l.length ≤ great) := Lib.hid (by rw [HLN.out]; omega)
                  have HQI : Hid (PathQ E0 W p w3 l (some ⟨gb, 0, none⟩) c1 A2 c2) := Lib.hid (hs.out.1.later HW3.out)
                  obtain ⟨nv, hnv⟩ : ∃ nv, p.valves.length = nv := ⟨_, rfl⟩
                  have HNV2 := Lib.hid hnv
                  have hnv12 : nv ≤ 12 := by rw [← hnv]; exact HVV.out.1
                  have HVC : Hid (∀ wx, Below W.heap.size W wx → wx.cell? ⟨w.heap.size, 1, none⟩ = some (.slice x.vA nv x.vc)) := Lib.hid fun wx hx => by rw [← hnv]; exact (HC4.out wx hx).2.1
                  have HTY : Hid (RowsFew l ∧ k < l.length) := Lib.hid ⟨hs.out.1.few, hlt'⟩
                  have HSD : Hid (searchD p g great (great + 1 - k) (k + 1) (expandD p r l) = (m, e, is)) := Lib.hid (by
                    have h := hs.out.2.2
                    rw [show great + 2 - k = (great + 1 - k) + 1 from by omega, searchD_on hlt' (by rw [HR.out]; exact HTB.out) (by rw [HLN.out]; omega), HR.out] at h
                    exact h)
                  clear co hnv HPK HPW HTH HRC HRO HOD
                  go_wp2_with fail
                  go_loopw [9, 10, 12] (fun rv cv v wr => ∃ (q : Nat) (lm : List RowD) (A1 : Option Addr) (c1 : Nat) (A2 : Option Addr) (c2 : Nat), q ≤ 2 * nv ∧ rv = .slice A1 lm.length c1 ∧ cv = .slice A2 lm.length c2 ∧ v = .int .i64 q ∧ Hid (PathQ E0 W p wr lm A1 c1 A2 c2 ∧ Ahead l lm ∧ lm.length ≤ great + q ∧ trysD p r (2 * nv - q) q lm = trysD p r (2 * nv) 0 l)) (fun _ _ v _ => 2 * nv - (intOf v).toNat)
                  case atStart => exact ⟨0, l, some ⟨gb, 0, none⟩, c1, A2, c2, Nat.zero_le _, by rw [HLN.out], by rw [HLN.out], rfl, Lib.hid ⟨HQI.out, Ahead.refl _, HLG.out, rfl⟩⟩
                  case round =>
                    obtain ⟨q, lm, A1, c1, A2, c2, hq2, rfl, rfl, rfl, hi⟩ := hrel
                    obtain ⟨LM, hLM⟩ : ∃ LM, lm.length = LM := ⟨_, rfl⟩
                    have HLM := Lib.hid hLM
                    rw [hLM]
                    clear hLM
                    have k1 := HVC.out wr hi.out.1.below
                    have hkr := Ahead.at hi.out.2.1 (getD_some HTY.out.2)
                    rw [HR.out] at hkr
                    have hkl : k < lm.length := (List.getElem?_eq_some_iff.1 hkr).1
                    have HKR := Lib.hid (some_getD hkr)
                    have HKL := Lib.hid hkl
                    have hkm : (k : Int) < (LM : Int) := by have := HLM.out; omega
                    clear hkr hkl
                    by_cases hlq : q < 2 * nv
                    · have hqi : (q : Int) < 2 * (nv : Int) := by omega
                      have h0q : (0 : Int) ≤ (q : Int) := by omega
                      obtain ⟨Rs, OA, oc, hq⟩ := hi.out.1.rows
                      obtain ⟨gb, rfl, hcell⟩ := hq.cell (by have := hi.out.2.2.1; omega) HKL.out
                      have hst := hq.st k HKL.out
                      have hod := hq.od k HKL.out
                      rw [HKR.out] at hcell hst hod
                      obtain ⟨EE, hEE⟩ : ∃ EE, exV E0 (.slice (some ⟨gb, 0, none⟩) lm.length c1) (.slice A2 lm.length c2) = EE := ⟨_, rfl⟩
                      have HEE := Lib.hid hEE
                      rw [hEE] at hst
                      have HST := Lib.hid hst
                      have HOD := Lib.hid hod
                      have HQQ := Lib.hid hq
                      have HBW : Hid (W.heap.size ≤ wr.heap.size) := Lib.hid hi.out.1.below.size
                      have HSO : Hid (SpotsOk p r.at_) := Lib.hid (by have := hq.ok k HKL.out; rw [HKR.out] at this; exact this)
                      have HRF : Hid (r.ords.length ≤ 900) := Lib.hid (by have h1 := hi.out.1.few k HKL.out; have h2 := hi.out.2.2.1; have h3 := HKL.out; rw [HKR.out] at h1; omega)
                      have HRK : Hid (r.ords.length ≤ k) := Lib.hid (by have h1 := hi.out.1.few k HKL.out; rw [HKR.out] at h1; exact h1)
                      have HPK : Hid (∀ w3, Below wr.heap.size wr w3 → Bk w3 w.heap.size 27 (plantA x p)) := Lib.hid fun w3 h3 => HB0.out w3 (hi.out.1.below.trans (h3.mono HBW.out))
                      have HPW : Hid (∀ w3, Below wr.heap.size wr w3 → PlantAt w3 w3.heap.size x p) := Lib.hid fun w3 h3 => HP.out w3 (hi.out.1.below.trans (h3.mono HBW.out))
                      have HCL : Hid (∀ w3, Below wr.heap.size wr w3 → ∀ j, j < 10 → w3.cell? ⟨gb, k * 10 + j, none⟩ = some (rowF p (Rs k) (OA k) r.ords.length (oc k) j)) := Lib.hid fun w3 h3 j hj => by
                        have hq3 := HQQ.out.later h3
                        obtain ⟨gb', e', hc'⟩ := hq3.cell (by have := hi.out.2.2.1; omega) HKL.out
                        have eg : gb = gb' := by simpa using e'
                        subst eg
                        rw [HKR.out] at hc'
                        exact hc' j hj
                      clear hq hcell hst hod hEE
                      obtain ⟨vv, hvv⟩ : ∃ vv, q / 2 = vv := ⟨_, rfl⟩
                      obtain ⟨o, ho⟩ : ∃ o, (q % 2 == 1) = o := ⟨_, rfl⟩
                      have hvl : vv < nv := by omega
                      have hvi : (vv : Int) < (nv : Int) := by omega
                      have h0v : (0 : Int) ≤ (vv : Int) := by omega
                      have HVL : Hid (vv < p.valves.length) := Lib.hid (by rw [HNV2.out]; exact hvl)
                      have HTR : Hid (tryD p r q lm = if safeB p (wantB r.at_ vv o) && !decide ((r.at_ vv).opn = o) then addD lm ⟨wantB r.at_ vv o, r.ords ++ [⟨(vv : Int), o⟩]⟩ else lm) := Lib.hid (by unfold tryD; rw [hvv, ho])
                      have HNEXT : Hid (trysD p r (2 * nv - (q + 1)) (q + 1) (tryD p r q lm) = trysD p r (2 * nv) 0 l) := Lib.hid (by
                        have h := hi.out.2.2.2
                        rw [show 2 * nv - q = (2 * nv - (q + 1)) + 1 from by omega] at h
                        exact h)
                      have HAHD : Hid (Ahead l (tryD p r q lm)) := Lib.hid (hi.out.2.1.trans (tryD_ahead p r q lm))
                      have HLEN : Hid ((tryD p r q lm).length ≤ great + (q + 1)) := Lib.hid (by have := tryD_len p r q lm; have := hi.out.2.2.1; omega)
                      have ed : ((q : Int) / 2) = (vv : Int) := by omega
                      have eo : ((q : Int) % 2 == 1) = o := by
                        rw [← ho, Bool.eq_iff_iff, beq_iff_eq, beq_iff_eq]; omega
                      go_upto_region 15 with (fail)
                      clear ed eo hvv ho k1
                      obtain ⟨w4, hw4⟩ : ∃ w4, wr.alloc (.cells #[.int .i64 vv, .bool o] 38) = w4 := ⟨_, rfl⟩
                      have HB4 : Hid (Below wr.heap.size wr w4) := Lib.hid (by rw [← hw4]; exact (Below.refl _ _).alloc (Nat.le_refl _) _)
                      have HX4 : Hid (Bk w4 wr.heap.size 38 #[.int .i64 vv, .bool o]) := Lib.hid (by rw [← hw4]; exact Bk.new _ _ _)
                      rw [hw4]
                      clear hw4
                      obtain ⟨s', Ev, hsE⟩ : ∃ s' Ev, orderB (spS p r.at_) vv o = (Ev, spS p s') ∧ ((safeB p (wantB r.at_ vv o) = true ∧ Ev = 0 ∧ s' = wantB r.at_ vv o) ∨ (safeB p (wantB r.at_ vv o) = false ∧ Ev = 9 ∧ s' = r.at_)) := by
                        have hin : inB (vv : Int) 0 ((spS p r.at_).p.valves.length - 1) = true := by rw [inB_iff]; have := HVL.out; show (0 : Int) ≤ vv ∧ (vv : Int) ≤ (p.valves.length : Int) - 1; omega
                        unfold orderB
                        rw [if_pos hin, Int.toNat_natCast]
                        cases hsf : safeB p (wantB r.at_ vv o) with
                        | true => exact ⟨wantB r.at_ vv o, 0, by rw [if_pos (show safeB (spS p r.at_).p (wantB (spS p r.at_).at_ vv o) = true from hsf)]; rfl, Or.inl ⟨rfl, rfl, rfl⟩⟩
                        | false => exact ⟨r.at_, 9, by rw [if_neg (show ¬ safeB (spS p r.at_).p (wantB (spS p r.at_).at_ vv o) = true from by show ¬ safeB p (wantB r.at_ vv o) = true; rw [hsf]; decide)], Or.inr ⟨rfl, rfl, rfl⟩⟩
                      have HSE := Lib.hid hsE
                      clear hsE
                      have HTOP : Hid (EE.top ≤ w4.heap.size) := Lib.hid (by
                        letI : Exc := EE
                        exact Nat.le_trans (RefAt.top HST.out) HB4.out.size)
                      have HORD : Hid (∀ w5, Below w4.heap.size w4 w5 → Calls Tryz.prog 45 #[.agg (plantA x p), .agg (RA p (Rs k)), .agg #[.int .i64 vv, .bool o]] w5 fun e w' => ∃ R', e = .returned (.tuple #[.agg (RA p R'), .int .i64 Ev]) ∧ @RefAt EE w' w'.heap.size R' (spS p s') ∧ Below w5.heap.size w5 w') := Lib.hid fun w5 h5 => by
                        letI : Exc := EE
                        have hb5 : Below wr.heap.size wr w5 := HB4.out.trans (h5.mono HB4.out.size)
                        have h := refOrder_any w5 x (Rs k) (spS p r.at_) (HPW.out w5 hb5) ((RefAt.below HST.out hb5).mono hb5.size) (short_of HPB.out) HNV.out vv o
                        rw [HSE.out.1] at h
                        exact h
                      have HRC : Hid (∀ w3, Below w4.heap.size w4 w3 → ∀ j u, (RA p (Rs k))[j]? = some u → w3.cell? ⟨gb, k * 10 + j, none⟩ = some u) := Lib.hid fun w3 h3 j u hj => by
                        have hj9 : j < 9 := by have := (Array.getElem?_eq_some_iff.1 hj).1; rw [RA_size] at this; exact this
                        refine (HCL.out w3 (HB4.out.trans (h3.mono HB4.out.size)) j (by omega)).trans ?_
                        rw [← hj]
                        match j, hj9 with
                        | 0, _ => rfl
                        | 1, _ => rfl
                        | 2, _ => rfl
                        | 3, _ => rfl
                        | 4, _ => rfl
                        | 5, _ => rfl
                        | 6, _ => rfl
                        | 7, _ => rfl
                        | 8, _ => rfl
                      have HPK4 := HPK
                      have HBX : Hid (∀ w5, Below w4.heap.size w4 w5 → Bk w5 wr.heap.size 38 #[.int .i64 vv, .bool o]) := Lib.hid fun w5 h5 => HX4.out.below h5 HX4.out.lt
                      have HPK : Hid (∀ w3, Below w4.heap.size w4 w3 → Bk w3 w.heap.size 27 (plantA x p)) := Lib.hid fun w3 h3 => HPK4.out w3 (HB4.out.trans (h3.mono HB4.out.size))
                      refine wp_region_stepsJ (by kernel_rfl) (by kernel_rfl) (fun dn vs w1 => StJ EE w4 p (spS p s') Ev (dn 7) (dn 11) (dn 12) (vs 7) (vs 11) w1) (fun _ _ _ => True)
                        (fun ix u d w1 => (match ix with
                          | 0 => u = .agg (plantA x p)
                          | 1 => u = .slice (some ⟨gb, 0, none⟩) LM c1
                          | 2 => u = .int .i64 k
                          | 3 => u = .pointer (some ⟨gb, k * 10, none⟩)
                          | 4 => u = .pointer (some ⟨gb, k * 10, none⟩)
                          | 5 => u = .agg (RA p (Rs k))
                          | 6 => u = .agg #[.int .i64 vv, .bool o]
                          | 7 => True
                          | 8 => True
                          | 9 => True
                          | 10 => u = .int .i64 Ev
                          | 11 => True
                          | 12 => True
                          | _ => u = .int .i64 Ev) ∧ StR2 p Ev ix u d) (fun vs => StJ.start _ _) (fun _ _ _ _ _ _ _ _ hr _ => hr) ?_ ?_
                      · refine ⟨?_, ?_, ?_, ?_, ?_, ?_, ?_, ?_, ?_, ?_, ?_, ?_, ?_, ?_, trivial⟩
                        · intro a w1 vs K dn Hd Hb HJ HK HD HN kk
                          have e3 := HK 3 (by decide)
                          exact wpo_loadS 27 (.tmp 3) rfl w.heap.size 0 (by simpa [Act.eval] using e3) (plantA x p) _ (fun j u hj => by rw [Nat.zero_add]; exact ((HPK.out w1 HJ.1).cell j).trans hj) und_plant rfl info_plant (kk _ _ (by simp) HJ trivial ⟨rfl, ⟨fun e => by omega, fun e => by omega⟩⟩)
                        · intro a w1 vs K dn Hd Hb HJ HK HD HN kk
                          have e9 := HK 9 (by decide)
                          go_simp; exact kk _ _ (by simp) HJ trivial ⟨rfl, ⟨fun e => by omega, fun e => by omega⟩⟩
                        · intro a w1 vs K dn Hd Hb HJ HK HD HN kk
                          have e11 := HK 11 (by decide)
                          go_simp; exact kk _ _ (by simp) HJ trivial ⟨rfl, ⟨fun e => by omega, fun e => by omega⟩⟩
                        · intro a w1 vs K dn Hd Hb HJ HK HD HN kk
                          have e73 := (HD 1 _ 73 rfl rfl rfl).1.trans (HD 1 _ 73 rfl rfl rfl).2.1
                          have e74 := (HD 2 _ 74 rfl rfl rfl).1.trans (HD 2 _ 74 rfl rfl rfl).2.1
                          go_simp; exact kk _ _ (by simp) HJ trivial ⟨rfl, ⟨fun e => by omega, fun e => by omega⟩⟩
                        · intro a w1 vs K dn Hd Hb HJ HK HD HN kk
                          have e75 := (HD 3 _ 75 rfl rfl rfl).1.trans (HD 3 _ 75 rfl rfl rfl).2.1
                          go_simp; exact kk _ _ (by simp) HJ trivial ⟨rfl, ⟨fun e => by omega, fun e => by omega⟩⟩
                        · intro a w1 vs K dn Hd Hb HJ HK HD HN kk
                          have e76 := (HD 4 _ 76 rfl rfl rfl).1.trans (HD 4 _ 76 rfl rfl rfl).2.1
                          exact wpo_loadS 53 (.tmp 76) rfl gb (k * 10) (by simpa [Act.eval] using e76) (RA p (Rs k)) _ (HRC.out w1 HJ.1) und_state rfl info_state (kk _ _ (by simp) HJ trivial ⟨rfl, ⟨fun e => by omega, fun e => by omega⟩⟩)
                        · intro a w1 vs K dn Hd Hb HJ HK HD HN kk
                          have e13 := HK 13 (by decide)
                          exact wpo_loadS 38 (.tmp 13) rfl wr.heap.size 0 (by simpa [Act.eval] using e13) #[.int .i64 vv, .bool o] _ (fun j u hj => by rw [Nat.zero_add]; exact ((HBX.out w1 HJ.1).cell j).trans hj) und_order rfl info_order (kk _ _ (by simp) HJ trivial ⟨rfl, ⟨fun e => by omega, fun e => by omega⟩⟩)
                        · intro a w1 vs K dn Hd Hb HJ HK HD HN kk
                          have e72 := (HD 0 _ 72 rfl rfl rfl).1.trans (HD 0 _ 72 rfl rfl rfl).2.1
                          have e77 := (HD 5 _ 77 rfl rfl rfl).1.trans (HD 5 _ 77 rfl rfl rfl).2.1
                          have e78 := (HD 6 _ 78 rfl rfl rfl).1.trans (HD 6 _ 78 rfl rfl rfl).2.1
                          have d12 : dn 12 = false := by cases hq : dn 12 with | false => rfl | true => exact absurd (Hd 12 hq).2 (by decide)
                          exact wpo_call 45 _ _ rfl #[.agg (plantA x p), .agg (RA p (Rs k)), .agg #[.int .i64 vv, .bool o]] (by simp [Act.eval, e72, e77, e78]) (fun args w => by kernel_rfl)
                            ((HORD.out w1 HJ.1).mono fun e w' ⟨R', he, hr, hb⟩ => ⟨_, he, kk _ _ (by simp) (StJ.call HJ d12 hb hr) trivial ⟨trivial, ⟨fun e => by omega, fun e => by omega⟩⟩⟩)
                        · intro a w1 vs K dn Hd Hb HJ HK HD HN kk
                          obtain ⟨q, _⟩ := HD 7 _ 79 rfl rfl rfl
                          obtain ⟨R', x1, _⟩ := HJ.2.1 (Hb 7 (by decide))
                          exact wpo_move (.tmp 79) (vs 7) (Or.inl rfl) (by simpa [Act.eval] using q) (kk _ _ (by simp) HJ trivial ⟨trivial, ⟨fun _ => ⟨rfl, R', x1⟩, fun e => by omega⟩⟩)
                        · intro a w1 vs K dn Hd Hb HJ HK HD HN kk
                          obtain ⟨q, r⟩ := HD 8 _ 71 rfl rfl rfl
                          obtain ⟨_, R', x1⟩ := r.2.1 rfl
                          have e71 := q.trans x1
                          clear q r
                          go_simp; exact kk _ _ (by simp) HJ trivial ⟨trivial, ⟨fun e => by omega, fun _ => ⟨R', x1, rfl⟩⟩⟩
                        · intro a w1 vs K dn Hd Hb HJ HK HD HN kk
                          obtain ⟨q, r⟩ := HD 8 _ 71 rfl rfl rfl
                          obtain ⟨_, R', x1⟩ := r.2.1 rfl
                          have e71 := q.trans x1
                          clear q r
                          go_simp; exact kk _ _ (by simp) HJ trivial ⟨rfl, ⟨fun e => by omega, fun e => by omega⟩⟩
                        · intro a w1 vs K dn Hd Hb HJ HK HD HN kk
                          have d12 : dn 12 = false := by cases hq : dn 12 with | false => rfl | true => exact absurd (Hd 12 hq).2 (by decide)
                          go_simp; exact kk _ _ (by simp) (StJ.alloc (R0 := nilR) (a := 0) (b := 0) (c := 0) HJ d12) trivial ⟨trivial, ⟨fun e => by omega, fun e => by omega⟩⟩
                        · intro a w1 vs K dn Hd Hb HJ HK HD HN kk
                          obtain ⟨q11, _⟩ := HD 11 _ 14 rfl rfl rfl
                          obtain ⟨nb, y1, y2, ⟨R0, b0, b1, b2, y3⟩, _⟩ := HJ.2.2 (Hb 11 (by decide))
                          have e14 := q11.trans y1
                          obtain ⟨q9, r9⟩ := HD 9 _ 80 rfl rfl rfl
                          obtain ⟨R', x1, x2⟩ := r9.2.2 rfl
                          have e80 := q9.trans x2
                          have r8 := (HN 8 _ rfl (by decide)).2.1 rfl
                          have x3 : vs 8 = vs 7 := r8.1
                          have x1' : vs 8 = _ := x1
                          exact wpo_storeS 53 (.tmp 14) (.tmp 80) rfl rfl nb 0 (by simpa [Act.eval] using e14) (RA p R') (by simpa [Act.eval] using e80) 53 _ y3 (by rw [refA_size, RA_size]; show 0 + 9 ≤ 9; omega) (RA_one _ _) info_state fun w2 hk2 ho2 => kk undef _ (by simp) (StJ.store HJ (Hb 7 (by decide)) (Hb 11 (by decide)) y1 (x3.symm.trans x1') HTOP.out ho2 (by rw [splA_all _ _ (by rw [RA_size, refA_size])] at hk2; exact hk2)) trivial ⟨trivial, ⟨fun e => by omega, fun e => by omega⟩⟩
                        · intro a w1 vs K dn Hd Hb HJ HK HD HN kk
                          have e81 := (HD 10 _ 81 rfl rfl rfl).1.trans (HD 10 _ 81 rfl rfl rfl).2.1
                          go_simp; exact kk _ _ (by simp) HJ trivial ⟨rfl, ⟨fun e => by omega, fun e => by omega⟩⟩
                      · intro vs dn w5 hdn hj hrr
                        have e13 : vs 13 = .int .i64 Ev := (hrr 13 _ rfl).1
                        rw [hdn 7 (by decide), hdn 11 (by decide), hdn 12 (by decide)] at hj
                        obtain ⟨hb5, h7, h11⟩ := hj
                        obtain ⟨nb, y1, y2, _, y4⟩ := h11 rfl
                        obtain ⟨R', z1, z2⟩ := y4 rfl
                        obtain ⟨R1, z3, z4⟩ := h7 rfl
                        have hra : RA p R' = RA p R1 := by
                          have h := z1.symm.trans z3
                          simp only [Value.tuple.injEq, Array.mk.injEq, List.cons.injEq, Value.agg.injEq, and_true] at h
                          exact h
                        rw [hra] at z2
                        have HB5 : Hid (Below wr.heap.size wr w5) := Lib.hid (HB4.out.trans (hb5.mono HB4.out.size))
                        have HB45 := Lib.hid hb5
                        have HN5 := Lib.hid z2
                        have HR5 := Lib.hid z4
                        have HQ5 : Hid (PathQ E0 W p w5 lm (some ⟨gb, 0, none⟩) c1 A2 c2) := Lib.hid (hi.out.1.later HB5.out)
                        simp only [putAll, Act.put, List.setIfInBounds_toArray, List.set_cons_zero, List.set_cons_succ]
                        rw [y1, e13]
                        clear e13 hdn hrr hb5 h7 h11 y1 y2 y4 z1 z2 z3 z4 hra HPK HORD HRC HTOP
                        rcases HSE.out.2 with ⟨hsafe, rfl, hs'⟩ | ⟨hsafe, rfl, hs'⟩
                        case inr =>
                          have HLM2 : Hid (tryD p r q lm = lm) := Lib.hid (by rw [HTR.out, hsafe]; rfl)
                          clear hsafe hs' HBX HX4
                          go_wp2_with fail
                          refine wp_region_steps (by kernel_rfl) (by kernel_rfl) (fun w1 => Below w5.heap.size w5 w1) (fun _ _ _ => True)
                            (fun ix u _ _ => match ix with
                              | 0 => u = .int .i64 9
                              | 1 => u = .bool false
                              | 2 => u = .bool false
                              | 3 => True
                              | 4 => True
                              | 5 => True
                              | 6 => True
                              | 7 => True
                              | 8 => True
                              | 9 => True
                              | 10 => True
                              | 11 => True
                              | 12 => True
                              | 13 => True
                              | 14 => True
                              | 15 => True
                              | _ => u = .bool false) (Below.refl _ _).drew (fun _ _ _ _ _ _ _ _ h _ _ => h) ?_ ?_
                          · refine ⟨?_, ?_, ?_, ?_, ?_, ?_, ?_, ?_, ?_, ?_, ?_, ?_, ?_, ?_, ?_, ?_, ?_, trivial⟩
                            · intro a w1 vs K HJ HK HD HN kk
                              have e15 := HK 15 (by decide)
                              go_simp; exact kk _ _ (by simp) HJ trivial rfl
                            · intro a w1 vs K HJ HK HD HN kk
                              have e82 := (HD 0 _ 82 rfl rfl rfl).1.trans (HD 0 _ 82 rfl rfl rfl).2
                              go_simp; exact kk _ _ (by simp) HJ trivial rfl
                            · intro a w1 vs K HJ HK HD HN kk
                              have e83 := (HD 1 _ 83 rfl rfl rfl).1.trans (HD 1 _ 83 rfl rfl rfl).2
                              go_simp; exact kk _ _ (by simp) HJ trivial rfl
                            · intro a w1 vs K HJ HK HD HN kk
                              have e84 := (HD 2 _ 84 rfl rfl rfl).1.trans (HD 2 _ 84 rfl rfl rfl).2
                              rw [if_neg (wanted_no 2 true rfl rfl rfl e84)]
                              exact kk undef _ (by simp) HJ trivial trivial
                            · intro a w1 vs K HJ HK HD HN kk
                              have e84 := (HD 2 _ 84 rfl rfl rfl).1.trans (HD 2 _ 84 rfl rfl rfl).2
                              rw [if_neg (wanted_no 2 true rfl rfl rfl e84)]
                              exact kk undef _ (by simp) HJ trivial trivial
                            · intro a w1 vs K HJ HK HD HN kk
                              have e84 := (HD 2 _ 84 rfl rfl rfl).1.trans (HD 2 _ 84 rfl rfl rfl).2
                              rw [if_neg (wanted_no 2 true rfl rfl rfl e84)]
                              exact kk undef _ (by simp) HJ trivial trivial
                            · intro a w1 vs K HJ HK HD HN kk
                              have e84 := (HD 2 _ 84 rfl rfl rfl).1.trans (HD 2 _ 84 rfl rfl rfl).2
                              rw [if_neg (wanted_no 2 true rfl rfl rfl e84)]
                              exact kk undef _ (by simp) HJ trivial trivial
                            · intro a w1 vs K HJ HK HD HN kk
                              have e84 := (HD 2 _ 84 rfl rfl rfl).1.trans (HD 2 _ 84 rfl rfl rfl).2
                              rw [if_neg (wanted_no 2 true rfl rfl rfl e84)]
                              exact kk undef _ (by simp) HJ trivial trivial
                            · intro a w1 vs K HJ HK HD HN kk
                              have e84 := (HD 2 _ 84 rfl rfl rfl).1.trans (HD 2 _ 84 rfl rfl rfl).2
                              rw [if_neg (wanted_no 2 true rfl rfl rfl e84)]
                              exact kk undef _ (by simp) HJ trivial trivial
                            · intro a w1 vs K HJ HK HD HN kk
                              have e84 := (HD 2 _ 84 rfl rfl rfl).1.trans (HD 2 _ 84 rfl rfl rfl).2
                              rw [if_neg (wanted_no 2 true rfl rfl rfl e84)]
                              exact kk undef _ (by simp) HJ trivial trivial
                            · intro a w1 vs K HJ HK HD HN kk
                              have e84 := (HD 2 _ 84 rfl rfl rfl).1.trans (HD 2 _ 84 rfl rfl rfl).2
                              rw [if_neg (wanted_no 2 true rfl rfl rfl e84)]
                              exact kk undef _ (by simp) HJ trivial trivial
                            · intro a w1 vs K HJ HK HD HN kk
                              have e84 := (HD 2 _ 84 rfl rfl rfl).1.trans (HD 2 _ 84 rfl rfl rfl).2
                              rw [if_neg (wanted_no 2 true rfl rfl rfl e84)]
                              exact kk undef _ (by simp) HJ trivial trivial
                            · intro a w1 vs K HJ HK HD HN kk
                              have e84 := (HD 2 _ 84 rfl rfl rfl).1.trans (HD 2 _ 84 rfl rfl rfl).2
                              rw [if_neg (wanted_no 2 true rfl rfl rfl e84)]
                              exact kk undef _ (by simp) HJ trivial trivial
                            · intro a w1 vs K HJ HK HD HN kk
                              have e84 := (HD 2 _ 84 rfl rfl rfl).1.trans (HD 2 _ 84 rfl rfl rfl).2
                              rw [if_neg (wanted_no 2 true rfl rfl rfl e84)]
                              exact kk undef _ (by simp) HJ trivial trivial
                            · intro a w1 vs K HJ HK HD HN kk
                              have e84 := (HD 2 _ 84 rfl rfl rfl).1.trans (HD 2 _ 84 rfl rfl rfl).2
                              rw [if_neg (wanted_no 2 true rfl rfl rfl e84)]
                              exact kk undef _ (by simp) HJ trivial trivial
                            · intro a w1 vs K HJ HK HD HN kk
                              have e84 := (HD 2 _ 84 rfl rfl rfl).1.trans (HD 2 _ 84 rfl rfl rfl).2
                              rw [if_neg (wanted_no 2 true rfl rfl rfl e84)]
                              exact kk undef _ (by simp) HJ trivial trivial
                            · intro a w1 vs K HJ HK HD HN kk
                              have e84 := (HD 2 _ 84 rfl rfl rfl).1.trans (HD 2 _ 84 rfl rfl rfl).2
                              go_simp; exact kk _ _ (by simp) HJ trivial rfl
                          · intro vs w6 hw6 hrr
                            have e16 : vs 16 = .bool false := hrr 16 _ rfl
                            have HQ6 := Lib.hid (HQ5.out.later hw6)
                            clear hrr hw6
                            simp only [putAll, Act.put, List.setIfInBounds_toArray, List.set_cons_zero, List.set_cons_succ]
                            rw [e16]
                            clear e16
                            go_wp2_with fail
                            go_roundw
                            case rel =>
                              have hx : Hid (PathQ E0 W p w6 lm (some ⟨gb, 0, none⟩) c1 A2 c2 ∧ Ahead l lm ∧ lm.length ≤ great + (q + 1) ∧ trysD p r (2 * nv - (q + 1)) (q + 1) lm = trysD p r (2 * nv) 0 l) := Lib.hid (by
                                have h1 := HAHD.out; have h2 := HLEN.out; have h3 := HNEXT.out
                                rw [HLM2.out] at h1 h2 h3
                                exact ⟨HQ6.out, h1, h2, h3⟩)
                              first | exact ⟨q + 1, lm, some ⟨gb, 0, none⟩, c1, A2, c2, by omega, by rw [HLM.out], by rw [HLM.out], by go_num, hx⟩ | ((repeat apply Exists.intro); exact ⟨⟨q + 1, lm, some ⟨gb, 0, none⟩, c1, A2, c2, by omega, by rw [HLM.out], by rw [HLM.out], by go_num, hx⟩, rfl⟩)
                            case measure => simp [intOf]; omega
                        case inl =>
                          have HSF := Lib.hid hsafe
                          have HS' := Lib.hid hs'
                          clear hsafe hs'
                          obtain ⟨op1, hop1⟩ : ∃ op1, (r.at_ vv).opn = op1 := ⟨_, rfl⟩
                          have HOP := Lib.hid hop1
                          clear hop1
                          obtain ⟨b3, o3, hA3, _, hd3⟩ := (show Sl wr wr.heap.size 1 ((Rs k).a 3) p.valves.length fun i _ => .bool (r.at_ i).opn from by
                            letI : Exc := EE
                            exact (RefAt.want HST.out)).at1v HVL.out
                          have hb3 : b3 < wr.heap.size := by assumption
                          obtain ⟨c3, hc3⟩ : ∃ c3, (Rs k).c 3 = c3 := ⟨_, rfl⟩
                          have HC5 : Hid (∀ w1, Below w5.heap.size w5 w1 → w1.cell? ⟨gb, k * 10 + 3, none⟩ = some (.slice (some ⟨b3, o3, none⟩) nv c3) ∧ w1.cell? ⟨b3, o3 + vv, none⟩ = some (.bool op1) ∧ w1.cell? ⟨wr.heap.size, 0, none⟩ = some (.int .i64 vv) ∧ w1.cell? ⟨wr.heap.size, 1, none⟩ = some (.bool o)) := Lib.hid fun w1 h1 => by
                            have hb : Below wr.heap.size wr w1 := HB5.out.trans (h1.mono HB5.out.size)
                            have hbx := HBX.out w1 (HB45.out.trans (h1.mono HB45.out.size))
                            refine ⟨?_, ?_, hbx.cell 0, hbx.cell 1⟩
                            · have h := HCL.out w1 hb 3 (by omega)
                              rw [h]
                              show some (Value.slice ((Rs k).a 3) p.valves.length ((Rs k).c 3)) = _
                              rw [hA3, HNV2.out, hc3]
                            · rw [← HOP.out]
                              exact (hb.cell (p := ⟨b3, o3 + vv, none⟩) hb3).trans hd3
                          clear hA3 hd3 hb3 hc3
                          go_wp2_with fail
                          refine wp_region_steps (by kernel_rfl) (by kernel_rfl) (fun w1 => Below w5.heap.size w5 w1) (fun _ _ _ => True)
                            (fun ix u _ _ => match ix with
                              | 0 => u = .int .i64 0
                              | 1 => u = .bool true
                              | 2 => u = .bool true
                              | 3 => u = .slice (some ⟨gb, 0, none⟩) LM c1
                              | 4 => u = .int .i64 k
                              | 5 => u = .pointer (some ⟨gb, k * 10, none⟩)
                              | 6 => u = .pointer (some ⟨gb, k * 10, none⟩)
                              | 7 => u = .pointer (some ⟨gb, k * 10 + 3, none⟩)
                              | 8 => u = .slice (some ⟨b3, o3, none⟩) nv c3
                              | 9 => u = .pointer (some ⟨wr.heap.size, 0, none⟩)
                              | 10 => u = .int .i64 vv
                              | 11 => u = .pointer (some ⟨b3, o3 + vv, none⟩)
                              | 12 => u = .bool op1
                              | 13 => u = .pointer (some ⟨wr.heap.size, 1, none⟩)
                              | 14 => u = .bool o
                              | 15 => u = .bool (op1 != o)
                              | _ => u = .bool (op1 != o)) (Below.refl _ _).drew (fun _ _ _ _ _ _ _ _ h _ _ => h) ?_ ?_
                          · refine ⟨?_, ?_, ?_, ?_, ?_, ?_, ?_, ?_, ?_, ?_, ?_, ?_, ?_, ?_, ?_, ?_, ?_, trivial⟩
                            · intro a w1 vs K HJ HK HD HN kk
                              have e15 := HK 15 (by decide)
                              go_simp; exact kk _ _ (by simp) HJ trivial rfl
                            · intro a w1 vs K HJ HK HD HN kk
                              have e82 := (HD 0 _ 82 rfl rfl rfl).1.trans (HD 0 _ 82 rfl rfl rfl).2
                              go_simp; exact kk _ _ (by simp) HJ trivial rfl
                            · intro a w1 vs K HJ HK HD HN kk
                              have e83 := (HD 1 _ 83 rfl rfl rfl).1.trans (HD 1 _ 83 rfl rfl rfl).2
                              go_simp; exact kk _ _ (by simp) HJ trivial rfl
                            · intro a w1 vs K HJ HK HD HN kk
                              have e84 := (HD 2 _ 84 rfl rfl rfl).1.trans (HD 2 _ 84 rfl rfl rfl).2
                              rw [if_pos (wanted_yes 2 true rfl rfl rfl e84)]
                              have e9 := HK 9 (by decide)
                              go_simp; exact kk _ _ (by simp) HJ trivial rfl
                            · intro a w1 vs K HJ HK HD HN kk
                              have e84 := (HD 2 _ 84 rfl rfl rfl).1.trans (HD 2 _ 84 rfl rfl rfl).2
                              rw [if_pos (wanted_yes 2 true rfl rfl rfl e84)]
                              have e11 := HK 11 (by decide)
                              go_simp; exact kk _ _ (by simp) HJ trivial rfl
                            · intro a w1 vs K HJ HK HD HN kk
                              have e84 := (HD 2 _ 84 rfl rfl rfl).1.trans (HD 2 _ 84 rfl rfl rfl).2
                              rw [if_pos (wanted_yes 2 true rfl rfl rfl e84)]
                              have e85 := (HD 3 _ 85 rfl rfl rfl).1.trans (HD 3 _ 85 rfl rfl rfl).2
                              have e86 := (HD 4 _ 86 rfl rfl rfl).1.trans (HD 4 _ 86 rfl rfl rfl).2
                              go_simp; exact kk _ _ (by simp) HJ trivial rfl
                            · intro a w1 vs K HJ HK HD HN kk
                              have e84 := (HD 2 _ 84 rfl rfl rfl).1.trans (HD 2 _ 84 rfl rfl rfl).2
                              rw [if_pos (wanted_yes 2 true rfl rfl rfl e84)]
                              have e87 := (HD 5 _ 87 rfl rfl rfl).1.trans (HD 5 _ 87 rfl rfl rfl).2
                              go_simp; exact kk _ _ (by simp) HJ trivial rfl
                            · intro a w1 vs K HJ HK HD HN kk
                              have e84 := (HD 2 _ 84 rfl rfl rfl).1.trans (HD 2 _ 84 rfl rfl rfl).2
                              rw [if_pos (wanted_yes 2 true rfl rfl rfl e84)]
                              have e88 := (HD 6 _ 88 rfl rfl rfl).1.trans (HD 6 _ 88 rfl rfl rfl).2
                              go_simp; exact kk _ _ (by simp) HJ trivial rfl
                            · intro a w1 vs K HJ HK HD HN kk
                              have e84 := (HD 2 _ 84 rfl rfl rfl).1.trans (HD 2 _ 84 rfl rfl rfl).2
                              rw [if_pos (wanted_yes 2 true rfl rfl rfl e84)]
                              have e89 := (HD 7 _ 89 rfl rfl rfl).1.trans (HD 7 _ 89 rfl rfl rfl).2
                              have ca := (HC5.out w1 HJ).1
                              go_simp; exact kk _ _ (by simp) HJ trivial rfl
                            · intro a w1 vs K HJ HK HD HN kk
                              have e84 := (HD 2 _ 84 rfl rfl rfl).1.trans (HD 2 _ 84 rfl rfl rfl).2
                              rw [if_pos (wanted_yes 2 true rfl rfl rfl e84)]
                              have e13 := HK 13 (by decide)
                              go_simp; exact kk _ _ (by simp) HJ trivial rfl
                            · intro a w1 vs K HJ HK HD HN kk
                              have e84 := (HD 2 _ 84 rfl rfl rfl).1.trans (HD 2 _ 84 rfl rfl rfl).2
                              rw [if_pos (wanted_yes 2 true rfl rfl rfl e84)]
                              have e91 := (HD 9 _ 91 rfl rfl rfl).1.trans (HD 9 _ 91 rfl rfl rfl).2
                              have ca := (HC5.out w1 HJ).2.2.1
                              go_simp; exact kk _ _ (by simp) HJ trivial rfl
                            · intro a w1 vs K HJ HK HD HN kk
                              have e84 := (HD 2 _ 84 rfl rfl rfl).1.trans (HD 2 _ 84 rfl rfl rfl).2
                              rw [if_pos (wanted_yes 2 true rfl rfl rfl e84)]
                              have e90 := (HD 8 _ 90 rfl rfl rfl).1.trans (HD 8 _ 90 rfl rfl rfl).2
                              have e92 := (HD 10 _ 92 rfl rfl rfl).1.trans (HD 10 _ 92 rfl rfl rfl).2
                              go_simp; exact kk _ _ (by simp) HJ trivial rfl
                            · intro a w1 vs K HJ HK HD HN kk
                              have e84 := (HD 2 _ 84 rfl rfl rfl).1.trans (HD 2 _ 84 rfl rfl rfl).2
                              rw [if_pos (wanted_yes 2 true rfl rfl rfl e84)]
                              have e93 := (HD 11 _ 93 rfl rfl rfl).1.trans (HD 11 _ 93 rfl rfl rfl).2
                              have ca := (HC5.out w1 HJ).2.1
                              go_simp; exact kk _ _ (by simp) HJ trivial rfl
                            · intro a w1 vs K HJ HK HD HN kk
                              have e84 := (HD 2 _ 84 rfl rfl rfl).1.trans (HD 2 _ 84 rfl rfl rfl).2
                              rw [if_pos (wanted_yes 2 true rfl rfl rfl e84)]
                              have e13 := HK 13 (by decide)
                              go_simp; exact kk _ _ (by simp) HJ trivial rfl
                            · intro a w1 vs K HJ HK HD HN kk
                              have e84 := (HD 2 _ 84 rfl rfl rfl).1.trans (HD 2 _ 84 rfl rfl rfl).2
                              rw [if_pos (wanted_yes 2 true rfl rfl rfl e84)]
                              have e95 := (HD 13 _ 95 rfl rfl rfl).1.trans (HD 13 _ 95 rfl rfl rfl).2
                              have ca := (HC5.out w1 HJ).2.2.2
                              go_simp; exact kk _ _ (by simp) HJ trivial rfl
                            · intro a w1 vs K HJ HK HD HN kk
                              have e84 := (HD 2 _ 84 rfl rfl rfl).1.trans (HD 2 _ 84 rfl rfl rfl).2
                              rw [if_pos (wanted_yes 2 true rfl rfl rfl e84)]
                              have e94 := (HD 12 _ 94 rfl rfl rfl).1.trans (HD 12 _ 94 rfl rfl rfl).2
                              have e96 := (HD 14 _ 96 rfl rfl rfl).1.trans (HD 14 _ 96 rfl rfl rfl).2
                              go_simp; exact kk _ _ (by simp) HJ trivial rfl
                            · intro a w1 vs K HJ HK HD HN kk
                              have e84 := (HD 2 _ 84 rfl rfl rfl).1.trans (HD 2 _ 84 rfl rfl rfl).2
                              have e97 := (HD 15 _ 97 rfl rfl rfl).1.trans (HD 15 _ 97 rfl rfl rfl).2
                              go_simp; exact kk _ _ (by simp) HJ trivial rfl
                          · intro vs w6 hw6 hrr
                            have e16 : vs 16 = .bool (op1 != o) := hrr 16 _ rfl
                            have HB6 := Lib.hid hw6
                            clear hrr hw6
                            simp only [putAll, Act.put, List.setIfInBounds_toArray, List.set_cons_zero, List.set_cons_succ]
                            rw [e16]
                            clear e16
                            obtain ⟨bq, hbq⟩ : ∃ bq, (op1 != o) = bq := ⟨_, rfl⟩
                            rw [hbq]
                            cases bq with
                            | false =>
                              have HLM2 : Hid (tryD p r q lm = lm) := Lib.hid (by
                                have he : op1 = o := by simpa using hbq
                                rw [HTR.out, HSF.out, HOP.out, he]; simp)
                              have HQ6 := Lib.hid (HQ5.out.later HB6.out)
                              clear hbq HBX HX4 HC5
                              go_wp2_with fail
                              go_roundw
                              case rel =>
                                have hx : Hid (PathQ E0 W p w6 lm (some ⟨gb, 0, none⟩) c1 A2 c2 ∧ Ahead l lm ∧ lm.length ≤ great + (q + 1) ∧ trysD p r (2 * nv - (q + 1)) (q + 1) lm = trysD p r (2 * nv) 0 l) := Lib.hid (by
                                  have h1 := HAHD.out; have h2 := HLEN.out; have h3 := HNEXT.out
                                  rw [HLM2.out] at h1 h2 h3
                                  exact ⟨HQ6.out, h1, h2, h3⟩)
                                first | exact ⟨q + 1, lm, some ⟨gb, 0, none⟩, c1, A2, c2, by omega, by rw [HLM.out], by rw [HLM.out], by go_num, hx⟩ | ((repeat apply Exists.intro); exact ⟨⟨q + 1, lm, some ⟨gb, 0, none⟩, c1, A2, c2, by omega, by rw [HLM.out], by rw [HLM.out], by go_num, hx⟩, rfl⟩)
                              case measure => simp [intOf]; omega
                            | true =>
                              have HLM2 : Hid (tryD p r q lm = addD lm ⟨wantB r.at_ vv o, r.ords ++ [⟨(vv : Int), o⟩]⟩) := Lib.hid (by
                                have he : op1 ≠ o := by simpa using hbq
                                rw [HTR.out, HSF.out, HOP.out, decide_eq_false he]; simp)
                              obtain ⟨iO, hiO, hzO, hsO, hbO⟩ := info_parts info_ordC
                              have HORI : Hid (Tryz.prog.info? 38 = some iO ∧ iO.zero = some (.agg #[.int .i64 0, .bool false]) ∧ iO.size = 2 ∧ iO.bytes ≤ 1024 ∧ iO.bytes = 16) := Lib.hid ⟨hiO, hzO, hsO, by omega, hbO⟩
                              have HBX5 : Hid (∀ w1, Below w6.heap.size w6 w1 → Bk w1 wr.heap.size 38 #[.int .i64 vv, .bool o]) := Lib.hid fun w1 h1 => HBX.out w1 (HB45.out.trans ((HB6.out.trans (h1.mono HB6.out.size)).mono HB45.out.size))
                              have HB56 : Hid (Below wr.heap.size wr w6) := Lib.hid (HB5.out.trans (HB6.out.mono HB5.out.size))
                              have HRO5 : Hid (∀ w1, Below w6.heap.size w6 w1 → w1.cell? ⟨gb, k * 10 + 9, none⟩ = some (.slice (OA k) r.ords.length (oc k))) := Lib.hid fun w1 h1 => HCL.out w1 (HB56.out.trans (h1.mono HB56.out.size)) 9 (by omega)
                              have HOS : Hid (∀ w1, Below w6.heap.size w6 w1 → Sl w1 w1.heap.size 2 (OA k) r.ords.length fun i => litC (r.ords.getD i lit0)) := Lib.hid fun w1 h1 => (HOD.out.below (HB56.out.trans (h1.mono HB56.out.size))).sl
                              have HN6 := Lib.hid (HN5.out.below HB6.out HN5.out.lt)
                              have HR6 : Hid (@RefAt EE w6 w6.heap.size R1 (spS p s')) := Lib.hid (by
                                letI : Exc := EE
                                exact (RefAt.below HR5.out HB6.out).mono HB6.out.size)
                              clear hbq HBX HX4 HC5 hiO hzO hsO hbO
                              clear HN5 HR5 HB45
                              go_wp2_with fail
                              refine wp_region_stepsJ (by kernel_rfl) (by kernel_rfl) (fun dn vs w1 => OrdJ w6 r.ords ⟨vv, o⟩ (dn 0) (dn 6) (dn 8) (dn 9) (vs 0) (vs 6) (vs 8) (vs 9) w1) (fun _ _ _ => True)
                                (fun ix u d w1 => (match ix with
                                  | 0 => True
                                  | 1 => u = .slice (some ⟨gb, 0, none⟩) LM c1
                                  | 2 => u = .int .i64 k
                                  | 3 => u = .pointer (some ⟨gb, k * 10, none⟩)
                                  | 4 => u = .pointer (some ⟨gb, k * 10 + 9, none⟩)
                                  | 5 => u = .slice (OA k) r.ords.length (oc k)
                                  | 6 => True
                                  | 7 => u = .agg #[.int .i64 vv, .bool o]
                                  | 8 => True
                                  | 9 => True
                                  | _ => True) ∧ (ix = 10 → u = d 9)) (fun vs => OrdJ.start _ _ _ _) (fun _ _ _ _ _ _ _ _ hr _ => hr) ?_ ?_
                              · refine ⟨?_, ?_, ?_, ?_, ?_, ?_, ?_, ?_, ?_, ?_, ?_, trivial⟩
                                · intro a w1 vs K dn Hd Hb HJ HK HD HN kk
                                  go_simp; exact kk _ _ (by simp) (OrdJ.set0 HJ ((Below.refl _ _).alloc (Nat.le_refl _) _) (World.ownsRow_made w1 #[] 0 HJ.1.size (by simp [maxLen]) rfl)) trivial ⟨trivial, (fun e => by omega)⟩
                                · intro a w1 vs K dn Hd Hb HJ HK HD HN kk
                                  have e9 := HK 9 (by decide)
                                  go_simp; exact kk _ _ (by simp) HJ trivial ⟨rfl, (fun e => by omega)⟩
                                · intro a w1 vs K dn Hd Hb HJ HK HD HN kk
                                  have e11 := HK 11 (by decide)
                                  go_simp; exact kk _ _ (by simp) HJ trivial ⟨rfl, (fun e => by omega)⟩
                                · intro a w1 vs K dn Hd Hb HJ HK HD HN kk
                                  have e100 := (HD 1 _ 100 rfl rfl rfl).1.trans (HD 1 _ 100 rfl rfl rfl).2.1
                                  have e101 := (HD 2 _ 101 rfl rfl rfl).1.trans (HD 2 _ 101 rfl rfl rfl).2.1
                                  go_simp; exact kk _ _ (by simp) HJ trivial ⟨rfl, (fun e => by omega)⟩
                                · intro a w1 vs K dn Hd Hb HJ HK HD HN kk
                                  have e102 := (HD 3 _ 102 rfl rfl rfl).1.trans (HD 3 _ 102 rfl rfl rfl).2.1
                                  go_simp; exact kk _ _ (by simp) HJ trivial ⟨rfl, (fun e => by omega)⟩
                                · intro a w1 vs K dn Hd Hb HJ HK HD HN kk
                                  have e103 := (HD 4 _ 103 rfl rfl rfl).1.trans (HD 4 _ 103 rfl rfl rfl).2.1
                                  have ca := HRO5.out w1 HJ.1
                                  go_simp; exact kk _ _ (by simp) HJ trivial ⟨rfl, (fun e => by omega)⟩
                                · intro a w1 vs K dn Hd Hb HJ HK HD HN kk
                                  have e104 := (HD 5 _ 104 rfl rfl rfl).1.trans (HD 5 _ 104 rfl rfl rfl).2.1
                                  have d9 : dn 9 = false := by cases hq : dn 9 with | false => rfl | true => exact absurd (Hd 9 hq).2 (by decide)
                                  obtain ⟨q, y1, y2⟩ := (HJ.2.1 d9).1 (Hb 0 (by decide))
                                  have e99 := (HD 0 _ 99 rfl rfl rfl).1.trans y1
                                  exact wpo_copy_own 31 (.tmp 99) (.tmp 104) rfl 38 iO (.agg #[.int .i64 0, .bool false]) Tryz.underlying31 HORI.out.1 HORI.out.2.1 2 HORI.out.2.2.1 HORI.out.2.2.2.1 rfl (by omega) q w6.heap.size (by simpa [Act.eval] using e99) y2 (OA k) r.ords.length (oc k) (by simpa [Act.eval] using e104) (fun i => litC (r.ords.getD i lit0)) (HOS.out w1 HJ.1) (litRows_one _) (by have := HRF.out; omega) HJ.1.size fun A' c' w' h1 h2 => kk _ _ (by simp) (OrdJ.set6 HJ h2 h1) trivial ⟨trivial, (fun e => by omega)⟩
                                · intro a w1 vs K dn Hd Hb HJ HK HD HN kk
                                  have e13 := HK 13 (by decide)
                                  exact wpo_loadS 38 (.tmp 13) rfl wr.heap.size 0 (by simpa [Act.eval] using e13) #[.int .i64 vv, .bool o] _ (fun j u hj => by rw [Nat.zero_add]; exact ((HBX5.out w1 HJ.1).cell j).trans hj) und_order rfl info_order (kk _ _ (by simp) HJ trivial ⟨rfl, (fun e => by omega)⟩)
                                · intro a w1 vs K dn Hd Hb HJ HK HD HN kk
                                  have e106 := (HD 7 _ 106 rfl rfl rfl).1.trans (HD 7 _ 106 rfl rfl rfl).2.1
                                  go_simp; exact kk _ _ (by simp) (OrdJ.set8 (o := ⟨vv, o⟩) HJ ((Below.refl _ _).alloc (Nat.le_refl _) _) (Bk.new _ _ _)) trivial ⟨trivial, (fun e => by omega)⟩
                                · intro a w1 vs K dn Hd Hb HJ HK HD HN kk
                                  have d9 : dn 9 = false := by cases hq : dn 9 with | false => rfl | true => exact absurd rfl (Hd 9 hq).1
                                  obtain ⟨A6, c6, y1, y2⟩ := (HJ.2.1 d9).2.1 (Hb 6 (by decide))
                                  have e105 := (HD 6 _ 105 rfl rfl rfl).1.trans y1
                                  obtain ⟨g8, z1, z2⟩ := (HJ.2.1 d9).2.2 (Hb 8 (by decide))
                                  have e107 := (HD 8 _ 107 rfl rfl rfl).1.trans z1
                                  exact wpo_append2 (.tmp 105) (.tmp 107) 31 rfl w6.heap.size 38 iO (.agg #[.int .i64 0, .bool false]) 2 16 Tryz.underlying31 HORI.out.1 HORI.out.2.1 HORI.out.2.2.1 HORI.out.2.2.2.2 rfl (by omega) (.slice A6 r.ords.length c6) r.ords.length _ (by simpa [Act.eval] using e105) y2 ⟨g8, 0, none⟩ 1 1 [.int .i64 vv, .bool o] (by simpa [Act.eval] using e107) rfl (fun j u hj => by rw [Addr.add_lit, Nat.zero_add]; refine (z2.cell j).trans ?_; rw [← Array.getElem?_toList]; exact hj) (by simp [Value.oneCell']) (by have := HRF.out; simp only [maxLen]; omega) (by have := HRF.out; omega) HJ.1.size (by omega) fun A9 c9 w' h1 h2 _ => kk _ _ (by simp) (OrdJ.set9 (HJ.1.grown h2 HJ.1.size fun j hj => (y2.lt j hj).1) (by have := HRF.out; simp; omega) h1) trivial ⟨trivial, (fun e => by omega)⟩
                                · intro a w1 vs K dn Hd Hb HJ HK HD HN kk
                                  obtain ⟨q, _⟩ := HD 9 _ 108 rfl rfl rfl
                                  exact wpo_move (.tmp 108) (vs 9) (Or.inr rfl) (by simpa [Act.eval] using q) (kk _ _ (by simp) HJ trivial ⟨trivial, fun _ => rfl⟩)
                              · intro vs dn w7 hdn hj hrr
                                rw [hdn 9 (by decide)] at hj
                                obtain ⟨A9, c9, y1, y2⟩ := hj.2.2 rfl
                                have e10 : vs 10 = vs 9 := (hrr 10 _ rfl).2 rfl
                                have HB67 := Lib.hid hj.1
                                have HCO := Lib.hid y2
                                have HN7 := Lib.hid (HN6.out.below hj.1 HN6.out.lt)
                                have HB7 : Hid (Below wr.heap.size wr w7) := Lib.hid (HB56.out.trans (hj.1.mono HB56.out.size))
                                have HR7 : Hid (@RefAt EE w7 w7.heap.size R1 (spS p s')) := Lib.hid (by
                                  letI : Exc := EE
                                  exact (RefAt.below HR6.out hj.1).mono hj.1.size)
                                have HQ7 : Hid (RowsQ E0 w7 W.heap.size p lm (.slice (some ⟨gb, 0, none⟩) lm.length c1) (.slice A2 lm.length c2) Rs OA oc) := Lib.hid (HQQ.out.later HB7.out)
                                have HADD : Hid (Calls Tryz.prog 43 #[.agg (plantA x p), .slice (some ⟨gb, 0, none⟩) LM c1, .slice A2 LM c2, .agg (rowArr p R1 A9 (r.ords.length + 1) c9)] w7 (AddPost E0 w7 W.heap.size p (tryD p r q lm))) := Lib.hid (by
                                  have hel : (r.ords ++ [(⟨(vv : Int), o⟩ : LitD)]).length = r.ords.length + 1 := by simp
                                  have h := refAdd_any (E := E0) w7 W.heap.size x p (HPW.out w7 HB7.out) HVV.out lm (some ⟨gb, 0, none⟩) A2 c1 c2 Rs OA oc HQ7.out (by have := hi.out.2.2.1; omega) ⟨wantB r.at_ vv o, r.ords ++ [⟨(vv : Int), o⟩]⟩ R1 A9 c9 (wantB_ok HSO.out HVL.out o) (by rw [HEE.out, ← HS'.out]; exact HR7.out) (HCO.out.mono (by have := HB56.out.size; have := HBW.out; omega))
                                  rw [HLM.out, ← HLM2.out] at h
                                  simp only [hel] at h
                                  exact h)
                                have HPK7 := Lib.hid (HB0.out w7 (hi.out.1.below.trans (HB7.out.mono HBW.out)))
                                simp only [putAll, Act.put, List.setIfInBounds_toArray, List.set_cons_zero, List.set_cons_succ]
                                rw [e10, y1]
                                simp only [plantA] at HADD
                                clear hdn hrr hj y1 y2 e10 HORI HBX5 HRO5 HOS HN6 HR6 HB56 HB67
                                go_wp2_with (first
                                  | (refine wpLoadAt rfl 27 _ rfl w.heap.size 0 rfl (plantA x p) _ (fun j u hj => by rw [Nat.zero_add]; exact (HPK7.out.cell j).trans hj) und_plant rfl info_plant ?_)
                                  | (refine wpLoadAt rfl 53 _ rfl nb 0 rfl (RA p R1) _ (fun j u hj => by rw [Nat.zero_add]; exact (HN7.out.cell j).trans hj) und_state rfl info_state ?_)
                                  | (refine wpBuildL rfl 125 _ rfl [(0, .agg (RA p R1)), (1, .slice A9 (r.ords.length + 1) c9)] (rowArr p R1 A9 (r.ords.length + 1) c9) (by simp [Act.eval]) (built_rowD p R1 A9 _ c9) ?_))
                                refine HADD.out.mono ?_
                                rintro e w8 ⟨Aa, ca, Ab, cb, Rx, Ox, ox, rfl, hq8, hb8⟩
                                have HQ8 : Hid (PathQ E0 W p w8 (tryD p r q lm) Aa ca Ab cb) := Lib.hid ⟨⟨Rx, Ox, ox, hq8⟩, (hi.out.1.below.trans (HB7.out.mono HBW.out)).trans hb8, by
                                  rw [HLM2.out]; exact hi.out.1.few.add (by have := HRK.out; have := HKL.out; simp; omega)⟩
                                clear hq8 hb8 HADD HPK7 HN7 HR7 HQ7
                                go_wp2_with fail
                                go_roundw
                                case rel => first | exact ⟨q + 1, tryD p r q lm, Aa, ca, Ab, cb, by omega, rfl, rfl, by go_num, Lib.hid ⟨HQ8.out, HAHD.out, HLEN.out, HNEXT.out⟩⟩ | ((repeat apply Exists.intro); exact ⟨⟨q + 1, tryD p r q lm, Aa, ca, Ab, cb, by omega, rfl, rfl, by go_num, Lib.hid ⟨HQ8.out, HAHD.out, HLEN.out, HNEXT.out⟩⟩, rfl⟩)
                                case measure => simp [intOf]; omega
                    · obtain ⟨Rs, OA, oc, hq⟩ := hi.out.1.rows
                      obtain ⟨gb, rfl, hcell⟩ := hq.cell (by have := hi.out.2.2.1; omega) HKL.out
                      have hst := hq.st k HKL.out
                      have hod := hq.od k HKL.out
                      rw [HKR.out] at hcell hst hod
                      obtain ⟨EE, hEE⟩ : ∃ EE, exV E0 (.slice (some ⟨gb, 0, none⟩) lm.length c1) (.slice A2 lm.length c2) = EE := ⟨_, rfl⟩
                      have HEE := Lib.hid hEE
                      rw [hEE] at hst
                      have HST := Lib.hid hst
                      have HOD := Lib.hid hod
                      have HQQ := Lib.hid hq
                      have HBW : Hid (W.heap.size ≤ wr.heap.size) := Lib.hid hi.out.1.below.size
                      have HSO : Hid (SpotsOk p r.at_) := Lib.hid (by have := hq.ok k HKL.out; rw [HKR.out] at this; exact this)
                      have HRF : Hid (r.ords.length ≤ 900) := Lib.hid (by have h1 := hi.out.1.few k HKL.out; have h2 := hi.out.2.2.1; have h3 := HKL.out; rw [HKR.out] at h1; omega)
                      have HRK : Hid (r.ords.length ≤ k) := Lib.hid (by have h1 := hi.out.1.few k HKL.out; rw [HKR.out] at h1; exact h1)
                      have HPK : Hid (∀ w3, Below wr.heap.size wr w3 → Bk w3 w.heap.size 27 (plantA x p)) := Lib.hid fun w3 h3 => HB0.out w3 (hi.out.1.below.trans (h3.mono HBW.out))
                      have HPW : Hid (∀ w3, Below wr.heap.size wr w3 → PlantAt w3 w3.heap.size x p) := Lib.hid fun w3 h3 => HP.out w3 (hi.out.1.below.trans (h3.mono HBW.out))
                      have HCL : Hid (∀ w3, Below wr.heap.size wr w3 → ∀ j, j < 10 → w3.cell? ⟨gb, k * 10 + j, none⟩ = some (rowF p (Rs k) (OA k) r.ords.length (oc k) j)) := Lib.hid fun w3 h3 j hj => by
                        have hq3 := HQQ.out.later h3
                        obtain ⟨gb', e', hc'⟩ := hq3.cell (by have := hi.out.2.2.1; omega) HKL.out
                        have eg : gb = gb' := by simpa using e'
                        subst eg
                        rw [HKR.out] at hc'
                        exact hc' j hj
                      clear hq hcell hst hod hEE
                      have HRC : Hid (∀ w3, Below wr.heap.size wr w3 → ∀ j u, (RA p (Rs k))[j]? = some u → w3.cell? ⟨gb, k * 10 + j, none⟩ = some u) := Lib.hid fun w3 h3 j u hj => by
                        have hj9 : j < 9 := by have := (Array.getElem?_eq_some_iff.1 hj).1; rw [RA_size] at this; exact this
                        refine (HCL.out w3 h3 j (by omega)).trans ?_
                        rw [← hj]
                        match j, hj9 with
                        | 0, _ => rfl
                        | 1, _ => rfl
                        | 2, _ => rfl
                        | 3, _ => rfl
                        | 4, _ => rfl
                        | 5, _ => rfl
                        | 6, _ => rfl
                        | 7, _ => rfl
                        | 8, _ => rfl
                      have HRO : Hid (∀ w1, Below wr.heap.size wr w1 → w1.cell? ⟨gb, k * 10 + 9, none⟩ = some (.slice (OA k) r.ords.length (oc k))) := Lib.hid fun w1 h1 => HCL.out w1 h1 9 (by omega)
                      have hq2e : q = 2 * nv := by omega
                      have HXP : Hid (addD lm ⟨movedB p r.at_ fun _ => false, r.ords⟩ = expandD p r l) := Lib.hid (by
                        have h := hi.out.2.2.2
                        rw [hq2e, Nat.sub_self] at h
                        unfold expandD
                        rw [HNV2.out, ← h]; rfl)
                      have HMV : Hid (∀ w3, Below wr.heap.size wr w3 → Calls Tryz.prog 46 #[.agg (plantA x p), .agg (RA p (Rs k))] w3 fun e w' => ∃ R', e = .returned (.agg (RA p R')) ∧ @RefAt (exV E0 (.slice (some ⟨gb, 0, none⟩) lm.length c1) (.slice A2 lm.length c2)) w' w'.heap.size R' (spS p (movedB p r.at_ fun _ => false)) ∧ Below w3.heap.size w3 w') := Lib.hid fun w3 h3 => by
                        rw [HEE.out]
                        letI : Exc := EE
                        exact refMoved_any w3 x (Rs k) (spS p r.at_) (HPW.out w3 h3) ((RefAt.below HST.out h3).mono h3.size) HVV.out HSO.out
                      have HADD : Hid (∀ w3, Below wr.heap.size wr w3 → ∀ R', @RefAt (exV E0 (.slice (some ⟨gb, 0, none⟩) lm.length c1) (.slice A2 lm.length c2)) w3 w3.heap.size R' (spS p (movedB p r.at_ fun _ => false)) → Calls Tryz.prog 43 #[.agg (plantA x p), .slice (some ⟨gb, 0, none⟩) LM c1, .slice A2 LM c2, .agg (rowArr p R' (OA k) r.ords.length (oc k))] w3 (AddPost E0 w3 W.heap.size p (addD lm ⟨movedB p r.at_ fun _ => false, r.ords⟩))) := Lib.hid fun w3 h3 R' hr => by
                        have h := refAdd_any (E := E0) w3 W.heap.size x p (HPW.out w3 h3) HVV.out lm (some ⟨gb, 0, none⟩) A2 c1 c2 Rs OA oc (HQQ.out.later h3) (by have := hi.out.2.2.1; omega) ⟨movedB p r.at_ fun _ => false, r.ords⟩ R' (OA k) (oc k) (movedB_ok HSO.out _) hr (HOD.out.below h3)
                        rw [HLM.out] at h
                        exact h
                      have hqi : ¬ ((q : Int) < 2 * (nv : Int)) := by omega
                      go_wp2_with fail
                      refine wp_region_stepsJ (by kernel_rfl) (by kernel_rfl) (fun dn vs w1 => AddJ E0 (.slice (some ⟨gb, 0, none⟩) lm.length c1) (.slice A2 lm.length c2) wr W.heap.size p (addD lm ⟨movedB p r.at_ fun _ => false, r.ords⟩) (spS p (movedB p r.at_ fun _ => false)) (dn 9) (dn 16) (vs 9) (vs 16) w1) (fun _ _ _ => True)
                        (fun ix u d w1 => (match ix with
                          | 0 => u = .agg (plantA x p)
                          | 1 => u = .slice (some ⟨gb, 0, none⟩) LM c1
                          | 2 => u = .slice A2 LM c2
                          | 3 => u = .agg (plantA x p)
                          | 4 => u = .slice (some ⟨gb, 0, none⟩) LM c1
                          | 5 => u = .int .i64 k
                          | 6 => u = .pointer (some ⟨gb, k * 10, none⟩)
                          | 7 => u = .pointer (some ⟨gb, k * 10, none⟩)
                          | 8 => u = .agg (RA p (Rs k))
                          | 9 => True
                          | 10 => u = .slice (some ⟨gb, 0, none⟩) LM c1
                          | 11 => u = .int .i64 k
                          | 12 => u = .pointer (some ⟨gb, k * 10, none⟩)
                          | 13 => u = .pointer (some ⟨gb, k * 10 + 9, none⟩)
                          | 14 => u = .slice (OA k) r.ords.length (oc k)
                          | 15 => True
                          | 16 => True
                          | 17 => True
                          | 18 => True
                          | 19 => True
                          | 20 => True
                          | _ => True) ∧ AddR p (addD lm ⟨movedB p r.at_ fun _ => false, r.ords⟩).length 9 15 16 (fun R => .agg (rowArr p R (OA k) r.ords.length (oc k))) ix u d) (fun _ => AddJ.start) (fun _ _ _ _ _ _ _ _ hr _ => hr) ?_ ?_
                      · refine ⟨?_, ?_, ?_, ?_, ?_, ?_, ?_, ?_, ?_, ?_, ?_, ?_, ?_, ?_, ?_, ?_, ?_, ?_, ?_, ?_, ?_, ?_, trivial⟩
                        · intro a w1 vs K dn Hd Hb HJ HK HD HN kk
                          have e3 := HK 3 (by decide)
                          have d16 : dn 16 = false := by cases hq : dn 16 with | false => rfl | true => exact absurd (Hd 16 hq).2 (by decide)
                          have HJ' := AddJ.off HJ d16
                          exact wpo_loadS 27 (.tmp 3) rfl w.heap.size 0 (by simpa [Act.eval] using e3) (plantA x p) _ (fun j u hj => by rw [Nat.zero_add]; exact ((HPK.out w1 HJ'.1).cell j).trans hj) und_plant rfl info_plant (kk _ _ (by simp) HJ trivial ⟨rfl, ⟨fun e => by omega, fun e => by omega, fun e => by omega, fun e => by omega, fun e => by omega, fun e => by omega⟩⟩)
                        · intro a w1 vs K dn Hd Hb HJ HK HD HN kk
                          have e9 := HK 9 (by decide)
                          go_simp; exact kk _ _ (by simp) HJ trivial ⟨rfl, ⟨fun e => by omega, fun e => by omega, fun e => by omega, fun e => by omega, fun e => by omega, fun e => by omega⟩⟩
                        · intro a w1 vs K dn Hd Hb HJ HK HD HN kk
                          have e10 := HK 10 (by decide)
                          go_simp; exact kk _ _ (by simp) HJ trivial ⟨rfl, ⟨fun e => by omega, fun e => by omega, fun e => by omega, fun e => by omega, fun e => by omega, fun e => by omega⟩⟩
                        · intro a w1 vs K dn Hd Hb HJ HK HD HN kk
                          have e3 := HK 3 (by decide)
                          have d16 : dn 16 = false := by cases hq : dn 16 with | false => rfl | true => exact absurd (Hd 16 hq).2 (by decide)
                          have HJ' := AddJ.off HJ d16
                          exact wpo_loadS 27 (.tmp 3) rfl w.heap.size 0 (by simpa [Act.eval] using e3) (plantA x p) _ (fun j u hj => by rw [Nat.zero_add]; exact ((HPK.out w1 HJ'.1).cell j).trans hj) und_plant rfl info_plant (kk _ _ (by simp) HJ trivial ⟨rfl, ⟨fun e => by omega, fun e => by omega, fun e => by omega, fun e => by omega, fun e => by omega, fun e => by omega⟩⟩)
                        · intro a w1 vs K dn Hd Hb HJ HK HD HN kk
                          have e9 := HK 9 (by decide)
                          go_simp; exact kk _ _ (by simp) HJ trivial ⟨rfl, ⟨fun e => by omega, fun e => by omega, fun e => by omega, fun e => by omega, fun e => by omega, fun e => by omega⟩⟩
                        · intro a w1 vs K dn Hd Hb HJ HK HD HN kk
                          have e11 := HK 11 (by decide)
                          go_simp; exact kk _ _ (by simp) HJ trivial ⟨rfl, ⟨fun e => by omega, fun e => by omega, fun e => by omega, fun e => by omega, fun e => by omega, fun e => by omega⟩⟩
                        · intro a w1 vs K dn Hd Hb HJ HK HD HN kk
                          have e124 := (HD 4 _ 124 rfl rfl rfl).1.trans (HD 4 _ 124 rfl rfl rfl).2.1
                          have e125 := (HD 5 _ 125 rfl rfl rfl).1.trans (HD 5 _ 125 rfl rfl rfl).2.1
                          go_simp; exact kk _ _ (by simp) HJ trivial ⟨rfl, ⟨fun e => by omega, fun e => by omega, fun e => by omega, fun e => by omega, fun e => by omega, fun e => by omega⟩⟩
                        · intro a w1 vs K dn Hd Hb HJ HK HD HN kk
                          have e126 := (HD 6 _ 126 rfl rfl rfl).1.trans (HD 6 _ 126 rfl rfl rfl).2.1
                          go_simp; exact kk _ _ (by simp) HJ trivial ⟨rfl, ⟨fun e => by omega, fun e => by omega, fun e => by omega, fun e => by omega, fun e => by omega, fun e => by omega⟩⟩
                        · intro a w1 vs K dn Hd Hb HJ HK HD HN kk
                          have e127 := (HD 7 _ 127 rfl rfl rfl).1.trans (HD 7 _ 127 rfl rfl rfl).2.1
                          have d16 : dn 16 = false := by cases hq : dn 16 with | false => rfl | true => exact absurd (Hd 16 hq).2 (by decide)
                          have HJ' := AddJ.off HJ d16
                          exact wpo_loadS 53 (.tmp 127) rfl gb (k * 10) (by simpa [Act.eval] using e127) (RA p (Rs k)) _ (HRC.out w1 HJ'.1) und_state rfl info_state (kk _ _ (by simp) HJ trivial ⟨rfl, ⟨fun e => by omega, fun e => by omega, fun e => by omega, fun e => by omega, fun e => by omega, fun e => by omega⟩⟩)
                        · intro a w1 vs K dn Hd Hb HJ HK HD HN kk
                          have e123 := (HD 3 _ 123 rfl rfl rfl).1.trans (HD 3 _ 123 rfl rfl rfl).2.1
                          have e128 := (HD 8 _ 128 rfl rfl rfl).1.trans (HD 8 _ 128 rfl rfl rfl).2.1
                          have d16 : dn 16 = false := by cases hq : dn 16 with | false => rfl | true => exact absurd (Hd 16 hq).2 (by decide)
                          have HJ' := AddJ.off HJ d16
                          exact wpo_call 46 _ _ rfl #[.agg (plantA x p), .agg (RA p (Rs k))] (by simp [Act.eval, e123, e128]) (fun args w => by kernel_rfl)
                            ((HMV.out w1 HJ'.1).mono fun e w' ⟨R', he, hr, hb⟩ => ⟨_, he, kk _ _ (by simp) (AddJ.call d16 HJ'.1 hb hr) trivial ⟨trivial, ⟨fun e => by omega, fun e => by omega, fun e => by omega, fun e => by omega, fun e => by omega, fun e => by omega⟩⟩⟩)
                        · intro a w1 vs K dn Hd Hb HJ HK HD HN kk
                          have e9 := HK 9 (by decide)
                          go_simp; exact kk _ _ (by simp) HJ trivial ⟨rfl, ⟨fun e => by omega, fun e => by omega, fun e => by omega, fun e => by omega, fun e => by omega, fun e => by omega⟩⟩
                        · intro a w1 vs K dn Hd Hb HJ HK HD HN kk
                          have e11 := HK 11 (by decide)
                          go_simp; exact kk _ _ (by simp) HJ trivial ⟨rfl, ⟨fun e => by omega, fun e => by omega, fun e => by omega, fun e => by omega, fun e => by omega, fun e => by omega⟩⟩
                        · intro a w1 vs K dn Hd Hb HJ HK HD HN kk
                          have e130 := (HD 10 _ 130 rfl rfl rfl).1.trans (HD 10 _ 130 rfl rfl rfl).2.1
                          have e131 := (HD 11 _ 131 rfl rfl rfl).1.trans (HD 11 _ 131 rfl rfl rfl).2.1
                          go_simp; exact kk _ _ (by simp) HJ trivial ⟨rfl, ⟨fun e => by omega, fun e => by omega, fun e => by omega, fun e => by omega, fun e => by omega, fun e => by omega⟩⟩
                        · intro a w1 vs K dn Hd Hb HJ HK HD HN kk
                          have e132 := (HD 12 _ 132 rfl rfl rfl).1.trans (HD 12 _ 132 rfl rfl rfl).2.1
                          go_simp; exact kk _ _ (by simp) HJ trivial ⟨rfl, ⟨fun e => by omega, fun e => by omega, fun e => by omega, fun e => by omega, fun e => by omega, fun e => by omega⟩⟩
                        · intro a w1 vs K dn Hd Hb HJ HK HD HN kk
                          have e133 := (HD 13 _ 133 rfl rfl rfl).1.trans (HD 13 _ 133 rfl rfl rfl).2.1
                          have d16 : dn 16 = false := by cases hq : dn 16 with | false => rfl | true => exact absurd (Hd 16 hq).2 (by decide)
                          have HJ' := AddJ.off HJ d16
                          have ca := HRO.out w1 HJ'.1
                          go_simp; exact kk _ _ (by simp) HJ trivial ⟨rfl, ⟨fun e => by omega, fun e => by omega, fun e => by omega, fun e => by omega, fun e => by omega, fun e => by omega⟩⟩
                        · intro a w1 vs K dn Hd Hb HJ HK HD HN kk
                          have e134 := (HD 14 _ 134 rfl rfl rfl).1.trans (HD 14 _ 134 rfl rfl rfl).2.1
                          have d16 : dn 16 = false := by cases hq : dn 16 with | false => rfl | true => exact absurd (Hd 16 hq).2 (by decide)
                          have HJ' := AddJ.off HJ d16
                          obtain ⟨R', x1, x2⟩ := HJ'.2 (Hb 9 (by decide))
                          have e129 := (HD 9 _ 129 rfl rfl rfl).1.trans x1
                          exact wpo_buildL 125 _ rfl [(0, .agg (RA p R')), (1, .slice (OA k) r.ords.length (oc k))] (rowArr p R' (OA k) r.ords.length (oc k)) (by simp [Act.eval, e129, e134]) (built_rowD p R' _ _ _) (kk _ _ (by simp) HJ trivial ⟨trivial, ⟨fun _ => ⟨R', x1, rfl⟩, fun e => by omega, fun e => by omega, fun e => by omega, fun e => by omega, fun e => by omega⟩⟩)
                        · intro a w1 vs K dn Hd Hb HJ HK HD HN kk
                          have e120 := (HD 0 _ 120 rfl rfl rfl).1.trans (HD 0 _ 120 rfl rfl rfl).2.1
                          have e121 := (HD 1 _ 121 rfl rfl rfl).1.trans (HD 1 _ 121 rfl rfl rfl).2.1
                          have e122 := (HD 2 _ 122 rfl rfl rfl).1.trans (HD 2 _ 122 rfl rfl rfl).2.1
                          have d16 : dn 16 = false := by cases hq : dn 16 with | false => rfl | true => exact absurd rfl (Hd 16 hq).1
                          have HJ' := AddJ.off HJ d16
                          obtain ⟨_, r15⟩ := HD 15 _ 135 rfl rfl rfl
                          obtain ⟨R1, y1, y2⟩ := r15.2.1 rfl
                          obtain ⟨R', x1, x2⟩ := HJ'.2 (Hb 9 (by decide))
                          have y1' : vs 9 = .agg (RA p R1) := y1
                          have hra : RA p R1 = RA p R' := by have := y1'.symm.trans x1; injection this
                          have y2' : vs 15 = .agg (rowArr p R1 (OA k) r.ords.length (oc k)) := y2
                          rw [rowArr_congr hra] at y2'
                          have e135 := (HD 15 _ 135 rfl rfl rfl).1.trans y2'
                          exact wpo_call 43 _ _ rfl #[.agg (plantA x p), .slice (some ⟨gb, 0, none⟩) LM c1, .slice A2 LM c2, .agg (rowArr p R' (OA k) r.ords.length (oc k))] (by simp [Act.eval, e120, e121, e122, e135]) (fun args w => by kernel_rfl)
                            ((HADD.out w1 HJ'.1 R' x2).mono fun e w' h => by
                              obtain ⟨Aa, ca, Ab, cb, Rx, Ox, ox, he, hq, hb⟩ := h
                              exact ⟨_, he, kk _ _ (by simp) (AddJ.done HBW.out HJ'.1 ⟨Aa, ca, Ab, cb, Rx, Ox, ox, rfl, hq, hb⟩) trivial ⟨trivial, ⟨fun e => by omega, fun e => by omega, fun e => by omega, fun e => by omega, fun e => by omega, fun e => by omega⟩⟩⟩)
                        · intro a w1 vs K dn Hd Hb HJ HK HD HN kk
                          obtain ⟨q, _⟩ := HD 16 _ 136 rfl rfl rfl
                          obtain ⟨Aa, ca, Ab, cb, x⟩ := AddPost.form (AddJ.on HJ (Hb 16 (by decide)))
                          exact wpo_move (.tmp 136) (vs 16) (Or.inl rfl) (by simpa [Act.eval] using q) (kk _ _ (by simp) HJ trivial ⟨trivial, ⟨fun e => by omega, fun _ => ⟨rfl, Aa, ca, Ab, cb, x⟩, fun e => by omega, fun e => by omega, fun e => by omega, fun e => by omega⟩⟩)
                        · intro a w1 vs K dn Hd Hb HJ HK HD HN kk
                          obtain ⟨q, r⟩ := HD 17 _ 119 rfl rfl rfl
                          obtain ⟨_, Aa, ca, Ab, cb, x⟩ := r.2.2.1 rfl
                          have e119 := q.trans x
                          clear q r
                          go_simp; exact kk _ _ (by simp) HJ trivial ⟨trivial, ⟨fun e => by omega, fun e => by omega, fun _ => ⟨Aa, ca, Ab, cb, x, rfl⟩, fun e => by omega, fun e => by omega, fun e => by omega⟩⟩
                        · intro a w1 vs K dn Hd Hb HJ HK HD HN kk
                          obtain ⟨q, r⟩ := HD 17 _ 119 rfl rfl rfl
                          obtain ⟨_, Aa, ca, Ab, cb, x⟩ := r.2.2.1 rfl
                          have e119 := q.trans x
                          clear q r
                          go_simp; exact kk _ _ (by simp) HJ trivial ⟨trivial, ⟨fun e => by omega, fun e => by omega, fun e => by omega, fun _ => ⟨Aa, ca, Ab, cb, x, rfl⟩, fun e => by omega, fun e => by omega⟩⟩
                        · intro a w1 vs K dn Hd Hb HJ HK HD HN kk
                          obtain ⟨q, _⟩ := HD 18 _ 137 rfl rfl rfl
                          exact wpo_move (.tmp 137) (vs 18) (Or.inr rfl) (by simpa [Act.eval] using q) (kk _ _ (by simp) HJ trivial ⟨trivial, ⟨fun e => by omega, fun e => by omega, fun e => by omega, fun e => by omega, fun _ => rfl, fun e => by omega⟩⟩)
                        · intro a w1 vs K dn Hd Hb HJ HK HD HN kk
                          obtain ⟨q, _⟩ := HD 19 _ 138 rfl rfl rfl
                          exact wpo_move (.tmp 138) (vs 19) (Or.inr rfl) (by simpa [Act.eval] using q) (kk _ _ (by simp) HJ trivial ⟨trivial, ⟨fun e => by omega, fun e => by omega, fun e => by omega, fun e => by omega, fun e => by omega, fun _ => rfl⟩⟩)
                      · intro vs dn w5 hdn hj hrr
                        rw [hdn 16 (by decide)] at hj
                        obtain ⟨Aa, ca, Ab, cb, Rx, Ox, ox, f8, f9, hq5, hb5⟩ := AddJ.fin hj ((hrr 17 _ rfl).2.2.1 rfl).1 rfl ((hrr 18 _ rfl).2.2.2.1 rfl) ((hrr 19 _ rfl).2.2.2.2.1 rfl) ((hrr 20 _ rfl).2.2.2.2.2.1 rfl) ((hrr 21 _ rfl).2.2.2.2.2.2 rfl)
                        rw [HXP.out] at f8 f9 hq5
                        have HQ8 : Hid (PathQ E0 W p w5 (expandD p r l) Aa ca Ab cb) := Lib.hid ⟨⟨Rx, Ox, ox, hq5⟩, hi.out.1.below.trans hb5, by
                          rw [← HXP.out]; exact hi.out.1.few.add (by have := HRK.out; have := HKL.out; simp only; omega)⟩
                        have HLE : Hid ((expandD p r l).length ≤ 900) := Lib.hid (by
                          rw [← HXP.out]
                          have := addD_len lm ⟨movedB p r.at_ fun _ => false, r.ords⟩
                          have := hi.out.2.2.1; omega)
                        have hkg : k + 1 ≤ great := by have := HLG.out; have := HTY.out.2; omega
                        simp only [putAll, Act.put, List.setIfInBounds_toArray, List.set_cons_zero, List.set_cons_succ]
                        rw [f8, f9]
                        clear hdn hrr hj f8 f9 hq5 hb5 HADD HMV HRC HRO
                        go_wp2_with fail
                        go_roundw
                        case rel =>
                          have hx : Hid (PathQ E0 W p w5 (expandD p r l) Aa ca Ab cb ∧ (expandD p r l).length ≤ 900 ∧ searchD p g great (great + 2 - (k + 1)) (k + 1) (expandD p r l) = (m, e, is)) := Lib.hid ⟨HQ8.out, HLE.out, by rw [show great + 2 - (k + 1) = great + 1 - k from by omega]; exact HSD.out⟩
                          first | exact ⟨k + 1, expandD p r l, Aa, ca, Ab, cb, hkg, rfl, rfl, by go_num, hx⟩ | ((repeat apply Exists.intro); exact ⟨⟨k + 1, expandD p r l, Aa, ca, Ab, cb, hkg, rfl, rfl, by go_num, hx⟩, rfl⟩)
                        case measure => simp [intOf]; omega
          · have HGG : Hid ((m, e, is) = ([], 7, true)) := Lib.hid (by
              have h := hs.out.2.2
              rw [show great + 2 - k = (great + 1 - k) + 1 from by omega, searchD_none (by rw [HLN.out]; exact hlt)] at h
              exact h.symm)
            have hki : ¬ ((k : Int) < (L : Int)) := by omega
            go_wp2_with fail
            go_ret3
            have hgg := HGG.out
            simp only [Prod.mk.injEq] at hgg
            obtain ⟨rfl, rfl, rfl⟩ := hgg
            exact ⟨none, ⟨0, rfl⟩, ⟨by simp, fun h => absurd h (by simp)⟩, HB.out.trans (hs.out.1.below.mono HB.out.size)⟩
end Go.Proofs.YtogobjmmgjfjjaaGreat
/- What is proved: the law EnginePaths answers true. Conditions: the plant and the goal lie in memory. -/
namespace Go.Proofs.YtogobjmmgjfjjaaGreat
open Go.RowKit

theorem ordSl_cl {w : World} {B : Nat} {v : Value} {l : List LitD} (h : OrdSl w B v l) (hn : l.length ≤ 100000) : ∃ A c, v = .slice A l.length c ∧ LitsAt w w.heap.size A l := by
  rcases h with ⟨rfl, rfl⟩ | ⟨g, cap, rfl, ⟨cs, hb, hs, hc⟩, hB, hcap⟩
  · exact ⟨none, 0, rfl, by simp, fun h => absurd h (by simp)⟩
  · refine ⟨_, _, rfl, by omega, fun _ => ⟨g, 0, rfl, hb.lt, fun i hi j hj => ?_⟩⟩
    rw [Nat.zero_add, hb.cell]
    have h1 := hc i hi
    have : j = 0 ∨ j = 1 := by omega
    rcases this with rfl | rfl
    · have h2 := h1.1
      simp only [Nat.add_zero] at h2 ⊢
      exact h2
    · exact h1.2
theorem searchD_len {p : PlantD} {g : List LitD} {great : Nat} : ∀ (f i : Nat) (l : List RowD) (m : List LitD) (e : Int), RowsFew l → l.length ≤ 900 → great ≤ 300 → p.valves.length ≤ 12 → searchD p g great f i l = (m, e, true) → m.length ≤ 900 := by
  intro f
  induction f with
  | zero => intro i l m e _ _ _ _ h; simp [searchD] at h
  | succ f ih =>
    intro i l m e hf hl hg hn h
    by_cases hi : i < l.length
    · cases hr : reachedB p (l.getD i row0).at_ g with
      | true =>
        rw [searchD_goal hi hr] at h
        simp only [Prod.mk.injEq] at h
        rw [← h.1]
        have := hf i hi
        omega
      | false =>
        by_cases hgl : great < l.length
        · rw [searchD_great hi hr hgl] at h
          simp at h
        · rw [searchD_on hi hr hgl] at h
          refine ih _ _ _ _ ?_ ?_ hg hn h
          · unfold expandD
            refine RowsFew.add ?_ ?_
            · have key : ∀ (n q : Nat) (l' : List RowD), RowsFew l' → l.length ≤ l'.length → RowsFew (trysD p (l.getD i row0) n q l') := by
                intro n
                induction n with
                | zero => intro q l' h _; exact h
                | succ n ihn =>
                  intro q l' h hle
                  refine ihn (q + 1) _ ?_ ?_
                  · unfold tryD
                    split
                    · refine h.add ?_
                      have := hf i hi
                      simp only [List.length_append, List.length_cons, List.length_nil]; omega
                    · exact h
                  · obtain ⟨t, ht⟩ := tryD_ahead p (l.getD i row0) q l'
                    rw [ht]; simp; omega
              exact key _ _ _ hf (Nat.le_refl _)
            · have := hf i hi
              obtain ⟨t, ht⟩ := trysD_ahead p (l.getD i row0) (2 * p.valves.length) 0 l
              rw [ht]; simp only [List.length_append]; omega
          · have h1 := trysD_len p (l.getD i row0) (2 * p.valves.length) 0 l
            have h2 := addD_len (trysD p (l.getD i row0) (2 * p.valves.length) 0 l) ⟨movedB p (l.getD i row0).at_ fun _ => false, (l.getD i row0).ords⟩
            unfold expandD
            omega
    · have e0 : l[i]? = none := List.getElem?_eq_none (by omega)
      unfold searchD at h
      rw [e0] at h
      simp only [Prod.mk.injEq] at h
      rw [← h.1]; simp
theorem pathD_len {p : PlantD} {g : List LitD} {great : Nat} (hg : great ≤ 300) {m : List LitD} {e : Int} (h : pathD p g great = (m, e, true)) : m.length ≤ 900 := by
  unfold pathD at h
  by_cases hv : (plantB p && litsOk p.valves.length g 16) = true
  · rw [if_pos hv] at h
    rw [Bool.and_eq_true] at hv
    refine searchD_len _ _ _ _ _ (fun k hk => ?_) (by simp) hg (plantOk_valves hv.1).1 h
    have : k = 0 := by simp at hk; omega
    subst this; exact Nat.zero_le _
  · rw [if_neg hv] at h
    simp only [Prod.mk.injEq] at h
    rw [← h.1]; simp

set_option maxRecDepth 100000 in
set_option maxHeartbeats 16000000 in
theorem paths_any (w : World) (x : PV) (p : PlantD) (hp : PlantAt w w.heap.size x p) (A : Option Addr) (c : Nat) (g : List LitD) (hg : LitsAt w w.heap.size A g) :
    Calls Tryz.prog 3 #[.agg (plantA x p), .slice A g.length c] w fun e w' => e = .returned (.bool true) ∧ Below w.heap.size w w' := by
  obtain ⟨W, hW⟩ : ∃ W, W = w.alloc (.cells (plantA x p) 27) := ⟨_, rfl⟩
  have hbW : Below w.heap.size w W := by rw [hW]; exact (Below.refl _ _).alloc (Nat.le_refl _) _
  have hb0 : Bk W w.heap.size 27 (plantA x p) := by rw [hW]; exact Bk.new _ _ _
  have HC : Hid (∀ wx, Below W.heap.size W wx → Bk wx w.heap.size 27 (plantA x p)) := Lib.hid fun wx hx => hb0.below hx hb0.lt
  have HC4 : Hid (∀ wx, Below W.heap.size W wx → wx.cell? ⟨w.heap.size, 0, none⟩ = some (.slice x.tA p.tanks.length x.tc) ∧ wx.cell? ⟨w.heap.size, 1, none⟩ = some (.slice x.vA p.valves.length x.vc) ∧
      wx.cell? ⟨w.heap.size, 2, none⟩ = some (.slice x.lA p.lines.length x.lc) ∧ wx.cell? ⟨w.heap.size, 3, none⟩ = some (.slice x.nA p.never.length x.nc)) := Lib.hid fun wx hx =>
    have h0 := HC.out wx hx
    ⟨h0.cell 0, h0.cell 1, h0.cell 2, h0.cell 3⟩
  have HP : Hid (∀ wx, Below W.heap.size W wx → PlantAt wx wx.heap.size x p) := Lib.hid fun wx hx => ((hp.below hbW).below (hx.mono hbW.size)).mono (Nat.le_trans hbW.size hx.size)
  have HL : Hid (∀ wx, Below W.heap.size W wx → LitsAt wx wx.heap.size A g) := Lib.hid fun wx hx => Sl.mono (Sl.below (Sl.below hg hbW) (hx.mono hbW.size)) (Nat.le_trans hbW.size hx.size)
  have HB := Lib.hid hbW
  have HW := Lib.hid hW
  have HA := Lib.hid awake_any
  simp only [plantA] at HW
  clear hp hg hbW hb0 hW
  have HG := Lib.hid fun wx hx => great_any wx x p (HP.out wx hx)
  have HRP := Lib.hid fun wx hx => refPath_any wx x p (HP.out wx hx) A c g (HL.out wx hx) 300 (Nat.le_refl _)
  have HPA := Lib.hid fun wx hx => path_any wx x p (HP.out wx hx) A c g (HL.out wx hx)
  simp only [plantA] at HG HRP HPA
  have END : Hid (∀ wx, Below W.heap.size W wx → Calls Tryz.prog 14 #[] wx fun e w' => e = .returned (.bool true) ∧ Below W.heap.size W w') := Lib.hid fun wx hx =>
    (HA.out wx).mono fun e w' ⟨he, hb⟩ => ⟨he, hx.trans (hb.mono hx.size)⟩
  have FIN : Hid (∀ wx, Below W.heap.size W wx → Below w.heap.size w wx) := Lib.hid fun wx hx => HB.out.trans (hx.mono HB.out.size)
  dsimp only [plantA]
  obtain ⟨gl, hgl⟩ : ∃ n, g.length = n := ⟨_, rfl⟩
  rw [hgl] at HRP HPA ⊢
  clear hgl
  obtain ⟨c0, c1, c2, c3⟩ := HC4.out W (Below.refl _ _)
  go_enter Tryz.func3, Tryz.ntmps3
  go_wp2_with fail
  rw [← HW.out]
  refine (HG.out W (Below.refl _ _)).mono ?_
  rintro e w1 ⟨b1, rfl, _, hb1⟩
  have HB1 : Hid (Below W.heap.size W w1) := Lib.hid hb1
  clear hb1 c0 c1 c2 c3
  obtain ⟨c0, c1, c2, c3⟩ := HC4.out w1 HB1.out
  cases b1 with
  | true =>
    go_wp2_with fail
    refine (END.out w1 HB1.out).mono ?_
    rintro e w3 ⟨rfl, hb3⟩
    go_wp2_with fail
    go_ret
    exact ⟨rfl, FIN.out _ hb3⟩
  | false =>
    by_cases h40 : (40 : Int) < (gl : Int)
    · go_wp2_with fail
      refine (END.out w1 HB1.out).mono ?_
      rintro e w3 ⟨rfl, hb3⟩
      go_wp2_with fail
      go_ret
      exact ⟨rfl, FIN.out _ hb3⟩
    go_wp2_with fail
    obtain ⟨⟨m, f, is⟩, hG⟩ : ∃ G, pathD p g 300 = G := ⟨_, rfl⟩
    have HG0 := Lib.hid hG
    rw [hG] at HRP
    clear hG c0 c1 c2 c3
    refine (HRP.out w1 HB1.out).mono ?_
    rintro e w2 ⟨A2, c2, rfl, hl2, hb2⟩
    have HB2 : Hid (Below W.heap.size W w2) := Lib.hid (HB1.out.trans (hb2.mono HB1.out.size))
    have HL2 := Lib.hid hl2
    clear hb2 hl2
    obtain ⟨c0, c1, c2', c3⟩ := HC4.out w2 HB2.out
    cases is with
    | false =>
      go_wp2_with fail
      refine (END.out w2 HB2.out).mono ?_
      rintro e w3 ⟨rfl, hb3⟩
      go_wp2_with fail
      go_ret
      exact ⟨rfl, FIN.out _ hb3⟩
    | true =>
      have hpp := pathD_path (Nat.le_refl _) (by omega) HG0.out
      rw [hpp] at HPA
      have HML : Hid (m.length ≤ 900) := Lib.hid (pathD_len (Nat.le_refl _) HG0.out)
      clear hpp
      go_wp2_with fail
      refine (HPA.out w2 HB2.out).mono ?_
      rintro e w3 ⟨v, rfl, hv, hb3⟩
      obtain ⟨A3, c3', rfl, hl3⟩ := ordSl_cl hv (by have := HML.out; omega)
      have HB3 : Hid (Below W.heap.size W w3) := Lib.hid (HB2.out.trans (hb3.mono HB2.out.size))
      have HL3 := Lib.hid hl3
      have HL23 : Hid (LitsAt w3 w3.heap.size A2 m) := Lib.hid (Sl.mono (Sl.below HL2.out hb3) hb3.size)
      clear hb3 hl3 hv c0 c1 c2' c3 HL2
      obtain ⟨n, hn⟩ : ∃ n, m.length = n := ⟨_, rfl⟩
      have HN := Lib.hid hn
      have hn9 : n ≤ 900 := by rw [← hn]; exact HML.out
      simp only
      rw [hn]
      clear hn
      go_wp2_with fail
      go_loopw [10] (fun i wr => ∃ k : Nat, k ≤ n ∧ i = .int .i64 k ∧ Hid (Below w3.heap.size w3 wr)) (fun i _ => n - (intOf i).toNat)
      case atStart => exact ⟨0, Nat.zero_le _, rfl, Lib.hid (Below.refl _ _)⟩
      case round =>
        obtain ⟨k, hk, rfl, hbr⟩ := hrel
        by_cases hlt : k < n
        · have hki : (k : Int) < (n : Int) := by omega
          have h0k : (0 : Int) ≤ (k : Int) := by omega
          have hlt' : k < m.length := by rw [HN.out]; exact hlt
          obtain ⟨b2, o2, rfl, _, d20, d21⟩ := Sl.at2 (Sl.below HL23.out hbr.out) hlt'
          obtain ⟨b3, o3, rfl, _, d30, d31⟩ := Sl.at2 (Sl.below HL3.out hbr.out) hlt'
          obtain ⟨⟨dv, dop⟩, hd⟩ : ∃ d, m.getD k lit0 = d := ⟨_, rfl⟩
          rw [hd] at d20 d21 d30 d31
          simp only [litC] at d20 d21 d30 d31
          clear hd
          go_wp2_with fail
          go_quiet (fail)
          have hbn : Hid (Below w3.heap.size w3 (wr.drewN nq)) := Lib.hid (hbr.out.trans ⟨rfl, rfl, rfl, Nat.le_refl _, fun _ _ => rfl⟩)
          go_wp2_with fail
          go_roundw
          case rel => exact ⟨k + 1, by omega, by go_num, hbn⟩
          case measure => simp [intOf]; omega
        · obtain rfl : k = n := by omega
          go_wp2_with fail
          refine (END.out wr (HB3.out.trans (hbr.out.mono HB3.out.size))).mono ?_
          rintro e w4 ⟨rfl, hb4⟩
          go_wp2_with fail
          go_ret
          exact ⟨rfl, FIN.out _ hb4⟩
end Go.Proofs.YtogobjmmgjfjjaaGreat
