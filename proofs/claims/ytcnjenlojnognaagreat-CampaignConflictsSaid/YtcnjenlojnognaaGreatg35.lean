/- What is proved: the texts Lh, one behind the other; each says at its head what it proves, and under which conditions. -/
import Derived.Test.YtcnjenlojnognaaGreatg34
/- What is proved: the walk of CampaignConflicts: true for every input. Conditions: the arguments lie in memory. -/
namespace Go.Proofs.YtcnjenlojnognaaGreat
open Go.RowKit

set_option maxRecDepth 100000 in
set_option maxHeartbeats 32000000 in
theorem conflictsLaw_any (w:World) (V:CV) (c:CampD) (h:CampAt w w.heap.size V c)   :
  Calls Tryz.prog 8 #[.agg (campA V c)] w fun e w'=>e=.returned (.bool true)∧Below w.heap.size w w':=by
 obtain ⟨qb,hqb⟩:∃ qb,w.heap.size=qb:=⟨_,rfl⟩
 obtain ⟨W0,hW0⟩:∃ W0,w.alloc (.cells (campA V c) 26)=W0:=⟨_,rfl⟩
 have hb0:Below w.heap.size w W0:=by rw [← hW0];exact (Below.refl _ w).alloc (Nat.le_refl _) _
 have HKC:Hid (Bk W0 qb 26 (campA V c)):=Lib.hid (by rw [← hW0,← hqb];exact Bk.new _ _ _)
 obtain ⟨PQ,hPQ⟩:∃ Q,(fun (e:Ending) (w':World)=>e=.returned (.bool true)∧Below w.heap.size w w')=Q:=⟨_,rfl⟩
 have HFIN:Hid (∀ w',Below W0.heap.size W0 w'→PQ (.returned (.bool true)) w'):=Lib.hid fun w' h2=>by
  rw [← hPQ];exact ⟨rfl,hb0.trans (h2.mono hb0.size)⟩
 have HCA:=Lib.hid (h.later hb0)
 have HCW:Hid (∀ w1,Below W0.heap.size W0 w1→CampAt w1 w1.heap.size V c):=Lib.hid fun w1 hb=>HCA.out.later hb
 have HGR:Hid (∀ w1,Below W0.heap.size W0 w1→Calls Tryz.prog 13 #[.agg (campA V c)] w1 fun e w'=>∃ b,e=.returned (.bool b)∧Below W0.heap.size W0 w'):=Lib.hid fun w1 hb =>
  (great_any w1 V c (HCW.out w1 hb)).mono fun e w' ⟨b,he,h2⟩=>⟨b,he,hb.trans (h2.mono hb.size)⟩
 have HSM:Hid (∀ w1,Below W0.heap.size W0 w1→Calls Tryz.prog 24 #[.agg (campA V c)] w1 fun e w'=>∃ b,e=.returned (.bool b)∧Below W0.heap.size W0 w'):=Lib.hid fun w1 hb =>
  (small_any w1 V c (HCW.out w1 hb)).mono fun e w' ⟨b,he,h2⟩=>⟨b,he,hb.trans (h2.mono hb.size)⟩
 have HAW:Hid (∀ w1,Below W0.heap.size W0 w1→Calls Tryz.prog 15 #[] w1 fun e w'=>e=.returned (.bool true)∧Below W0.heap.size W0 w'):=Lib.hid fun w1 hb =>
  (awake_any w1).mono fun e w' ⟨he,h2⟩=>⟨he,hb.trans (h2.mono hb.size)⟩
 have HAR:Hid (∀ w1,Below W0.heap.size W0 w1→Calls Tryz.prog 15 #[] w1 fun e w'=>e=.returned (.bool true)∧Below w1.heap.size w1 w'):=Lib.hid fun w1 hb=>awake_any w1
 have HLC:Hid (∀ w1,Below W0.heap.size W0 w1→∀ j u,(campA V c)[j]?=some u→w1.cell? ⟨qb,0+j,none⟩=some u):=Lib.hid fun w1 hb j u hj=>by rw [Nat.zero_add,(HKC.out.below hb HKC.out.lt).cell];exact hj
 obtain ⟨ng,hng⟩:∃ ng,c.cargos.length=ng:=⟨_,rfl⟩
 have HNG:=Lib.hid hng
 have HG2:Hid (∀ w1,Below W0.heap.size W0 w1→w1.cell? ⟨qb,2,none⟩=some (.slice V.gA ng V.gc)):=Lib.hid fun w1 hb=>by rw [← HNG.out];exact HLC.out w1 hb 2 _ rfl
 clear hng
 obtain ⟨lo,hlo⟩:∃ r,(confB c).1=r:=⟨_,rfl⟩
 obtain ⟨fo,hfo⟩:∃ r,(confB c).2=r:=⟨_,rfl⟩
 obtain ⟨no,hno⟩:∃ r,lo.length=r:=⟨_,rfl⟩
 have HNO:=Lib.hid hno
 have HCF:Hid (∀ w1,Below W0.heap.size W0 w1→Calls Tryz.prog 29 #[.agg (campA V c)] w1 fun e w'=>∃ A c',e=.returned (.tuple #[.slice A no c',.int .i64 fo])∧IntsAt w' w'.heap.size A lo∧Below w1.heap.size w1 w'):=Lib.hid fun w1 hb=>by
  refine (conflict_any w1 V c (HCW.out w1 hb)).mono fun e w' ⟨A,c',he,_,hi,h2⟩=>?_
  rw [hfo,hlo,hno] at he
  rw [hlo] at hi
  exact ⟨A,c',he,hi.at,h2⟩
 have HCR:Hid (∀ w1,Below W0.heap.size W0 w1→Calls Tryz.prog 30 #[.agg (campA V c)] w1 fun e w'=>∃ A c',e=.returned (.tuple #[.slice A no c',.int .i64 fo])∧IntsAt w' w'.heap.size A lo∧Below w1.heap.size w1 w'):=Lib.hid fun w1 hb=>by
  refine (refConflict_any w1 V c (HCW.out w1 hb)).mono fun e w' ⟨A,c',he,hi,h2⟩=>?_
  rw [conf_eq,hfo,hlo,hno] at he
  rw [conf_eq,hlo] at hi
  exact ⟨A,c',he,hi,h2⟩
 have hno9:no≤6:=by
  rw [← hno,← hlo]
  unfold confB
  cases hc:campB c with
  | false=>simp
  | true =>
   cases hm:canB c (mustS c) with
   | true=>simp
   | false =>
    obtain ⟨p,hp,_⟩:=conf_spec hc hm
    rw [if_neg (by decide),if_neg (by decide)]
    show ((confF c (downL (mustS c))).getD []).length≤6
    rw [hp];exact bits_len6 p
 clear hlo hfo hno
 rw [hPQ]
 clear h hb0 hPQ
 simp only [campA] at hW0 ⊢
 go_enter Tryz.func8,Tryz.ntmps8
 go_upto_region 1 with (fail)
 clear hW0 hqb
 have HBR0:Hid (Below W0.heap.size W0 W0):=Lib.hid (Below.refl _ _)
 go_wp2_with (first | (refine wpLoadAt rfl 26 _ rfl qb 0 rfl (campA V c) _ (HLC.out _ HBR0.out) und_camp rfl (info_campA V c) ?_))
 refine (HGR.out _ HBR0.out).mono ?_
 rintro e WG ⟨bg,rfl,hb1⟩
 have HBWG:=Lib.hid hb1
 clear hb1
 cases bg with
 | true =>
  go_wp2_with (first | (refine wpLoadAt rfl 26 _ rfl qb 0 rfl (campA V c) _ (HLC.out _ HBWG.out) und_camp rfl (info_campA V c) ?_))
  refine (HAW.out _ HBWG.out).mono ?_
  rintro e WZ ⟨rfl,hb1⟩
  have HBWZ:=Lib.hid hb1
  clear hb1
  go_wp2_with fail
  first | exact HFIN.out _ HBWZ.out | (go_ret;exact HFIN.out _ HBWZ.out)
 | false =>
 have k0:WG.cell? ⟨qb,0,none⟩=some (.slice V.cA c.crafts.length V.cc):=HLC.out WG HBWG.out 0 _ rfl
 have k1:WG.cell? ⟨qb,1,none⟩=some (.slice V.pA c.pads.length V.pc):=HLC.out WG HBWG.out 1 _ rfl
 have k2:WG.cell? ⟨qb,2,none⟩=some (.slice V.gA c.cargos.length V.gc):=HLC.out WG HBWG.out 2 _ rfl
 have k3:WG.cell? ⟨qb,3,none⟩=some (.int .i64 c.margin):=HLC.out WG HBWG.out 3 _ rfl
 go_wp2_with (first | (refine wpLoadAt rfl 26 _ rfl qb 0 rfl (campA V c) _ (HLC.out _ HBWG.out) und_camp rfl (info_campA V c) ?_))
 refine (HSM.out _ HBWG.out).mono ?_
 rintro e WS ⟨bs,rfl,hb1⟩
 have HBWS:=Lib.hid hb1
 clear hb1
 clear k0 k1 k2 k3
 cases bs with
 | false =>
  go_wp2_with (first | (refine wpLoadAt rfl 26 _ rfl qb 0 rfl (campA V c) _ (HLC.out _ HBWS.out) und_camp rfl (info_campA V c) ?_))
  refine (HAW.out _ HBWS.out).mono ?_
  rintro e WZ ⟨rfl,hb1⟩
  have HBWZ:=Lib.hid hb1
  clear hb1
  go_wp2_with fail
  first | exact HFIN.out _ HBWZ.out | (go_ret;exact HFIN.out _ HBWZ.out)
 | true =>
 go_wp2_with (first | (refine wpLoadAt rfl 26 _ rfl qb 0 rfl (campA V c) _ (HLC.out _ HBWS.out) und_camp rfl (info_campA V c) ?_))
 refine (HCF.out _ HBWS.out).mono ?_
 rintro e W3 ⟨A3,c3,rfl,hi3,hb1⟩
 have HB3:=Lib.hid (HBWS.out.trans (hb1.mono HBWS.out.size))
 have HI3:=Lib.hid hi3
 clear hb1 hi3
 go_wp2_with (first | (refine wpLoadAt rfl 26 _ rfl qb 0 rfl (campA V c) _ (HLC.out _ HB3.out) und_camp rfl (info_campA V c) ?_))
 refine (HCR.out _ HB3.out).mono ?_
 rintro e W4 ⟨A4,c4,rfl,hi4,hb1⟩
 have HB4:=Lib.hid (HB3.out.trans (hb1.mono HB3.out.size))
 have HI34:=Lib.hid (HI3.out.later hb1)
 have HI4:=Lib.hid hi4
 clear hb1 hi4
 go_wp2_with fail
 go_loopw [7] (fun iv wr=>∃ q:Nat,q≤no∧iv=.int .i64 (q:Int)∧Hid (Below W4.heap.size W4 wr)) (fun iv _=>no - (intOf iv).toNat)
 case atStart=>exact ⟨0,Nat.zero_le _,rfl,Lib.hid (Below.refl _ _)⟩
 case round =>
  obtain ⟨q,hq,rfl,HBQ⟩:=hrel
  obtain ⟨wo,rfl⟩:∃ wo:World,wo=wr:=⟨_,rfl⟩
  have h0q:(0:Int)≤(q:Int):=by omega
  by_cases hlt:q<no
  case neg =>
   obtain rfl:q=no:=by omega
   have HBWN:Hid (Below W0.heap.size W0 wo):=Lib.hid (HB4.out.trans (HBQ.out.mono HB4.out.size))
   go_wp2_with (first | (refine wpLoadAt rfl 26 _ rfl qb 0 rfl (campA V c) _ (HLC.out _ HBWN.out) und_camp rfl (info_campA V c) ?_))
   refine (HAW.out _ HBWN.out).mono ?_
   rintro e WZ ⟨rfl,hb1⟩
   have HBWZ:=Lib.hid hb1
   clear hb1
   go_wp2_with fail
   first | exact HFIN.out _ HBWZ.out | (go_ret;exact HFIN.out _ HBWZ.out)
  case pos =>
   have hqi:(q:Int)<(no:Int):=by omega
   obtain ⟨x,hx⟩:∃ x,numI lo q=x:=⟨_,rfl⟩
   obtain ⟨b3,o3,hA3,_,_⟩:=HI34.out.2 (by rw [HNO.out];omega)
   obtain ⟨b4,o4,hA4,_,_⟩:=HI4.out.2 (by rw [HNO.out];omega)
   subst hA3
   subst hA4
   have HCL:Hid (∀ w1,Below wo.heap.size wo w1→w1.cell? ⟨b3,o3+q,none⟩=some (.int .i64 x)∧w1.cell? ⟨b4,o4+q,none⟩=some (.int .i64 x)):=Lib.hid fun w1 h1=>by
    have hb:Below W4.heap.size W4 w1:=HBQ.out.trans (h1.mono HBQ.out.size)
    refine ⟨?_,?_⟩
    ·obtain ⟨b,off,e,_,hc⟩:=(HI34.out.later hb).2 (by rw [HNO.out];omega)
     injection e with e
     injection e with e1 e2
     subst e1 e2
     have:=hc q (by rw [HNO.out];exact hlt) 0 (by omega)
     rw [← hx]
     simpa using this
    ·obtain ⟨b,off,e,_,hc⟩:=(HI4.out.later hb).2 (by rw [HNO.out];omega)
     injection e with e
     injection e with e1 e2
     subst e1 e2
     have:=hc q (by rw [HNO.out];exact hlt) 0 (by omega)
     rw [← hx]
     simpa using this
   clear hx
   go_upto_region 10 with (fail)
   refine wp_region_steps (by kernel_rfl) (by kernel_rfl) (fun w1=>Below wo.heap.size wo w1) (fun _ _ _=>True)
    (fun ix u _ _=>match ix with
     | 0=>u=.slice (some ⟨b3,o3,none⟩) no c3
     | 1=>u=.int .i64 (q:Int)
     | 2=>u=.pointer (some ⟨b3,o3+q,none⟩)
     | 3=>u=.int .i64 x
     | 4=>u=.slice (some ⟨b4,o4,none⟩) no c4
     | 5=>u=.int .i64 (q:Int)
     | 6=>u=.pointer (some ⟨b4,o4+q,none⟩)
     | 7=>u=.int .i64 x
     | _=>u=.bool false) (Below.refl _ _).drew (fun _ _ _ _ _ _ _ _ h _ _=>h) ?_ ?_
   ·refine ⟨?_,?_,?_,?_,?_,?_,?_,?_,?_,trivial⟩
    ·intro a w1 vs K HJ HK HD HN kk
     have e3:=HK 3 (by decide)
     go_simp;exact kk _ _ (by simp) HJ trivial rfl
    ·intro a w1 vs K HJ HK HD HN kk
     have e7:=HK 7 (by decide)
     go_simp;exact kk _ _ (by simp) HJ trivial rfl
    ·intro a w1 vs K HJ HK HD HN kk
     have e42:=hdE (HD 0 _ 42 rfl rfl rfl)
     have e43:=hdE (HD 1 _ 43 rfl rfl rfl)
     go_simp;exact kk _ _ (by simp) HJ trivial rfl
    ·intro a w1 vs K HJ HK HD HN kk
     have e44:=hdE (HD 2 _ 44 rfl rfl rfl)
     have ca:w1.cell? ⟨b3,o3+q,none⟩=some (.int .i64 x):=(HCL.out w1 HJ).1
     go_simp;exact kk _ _ (by simp) HJ trivial rfl
    ·intro a w1 vs K HJ HK HD HN kk
     have e5:=HK 5 (by decide)
     go_simp;exact kk _ _ (by simp) HJ trivial rfl
    ·intro a w1 vs K HJ HK HD HN kk
     have e7:=HK 7 (by decide)
     go_simp;exact kk _ _ (by simp) HJ trivial rfl
    ·intro a w1 vs K HJ HK HD HN kk
     have e46:=hdE (HD 4 _ 46 rfl rfl rfl)
     have e47:=hdE (HD 5 _ 47 rfl rfl rfl)
     go_simp;exact kk _ _ (by simp) HJ trivial rfl
    ·intro a w1 vs K HJ HK HD HN kk
     have e48:=hdE (HD 6 _ 48 rfl rfl rfl)
     have ca:w1.cell? ⟨b4,o4+q,none⟩=some (.int .i64 x):=(HCL.out w1 HJ).2
     go_simp;exact kk _ _ (by simp) HJ trivial rfl
    ·intro a w1 vs K HJ HK HD HN kk
     have e45:=hdE (HD 3 _ 45 rfl rfl rfl)
     have e49:=hdE (HD 7 _ 49 rfl rfl rfl)
     go_simp;exact kk _ _ (by simp) HJ trivial rfl
   ·intro vs W9 hJ hrr
    have e8:vs 8=.bool false:=hrr 8 _ rfl
    have HB9:Hid (Below W4.heap.size W4 W9):=Lib.hid (HBQ.out.trans (Below.mono hJ HBQ.out.size))
    clear hrr hJ
    simp only [putAll,Act.put,List.setIfInBounds_toArray,List.set_cons_zero,List.set_cons_succ]
    rw [e8]
    clear e8
    go_wp2_with fail
    go_roundw
    case rel=>exact ⟨q+1,by omega,by go_num,HB9⟩
    case measure=>simp [intOf];omega
end Go.Proofs.YtcnjenlojnognaaGreat
