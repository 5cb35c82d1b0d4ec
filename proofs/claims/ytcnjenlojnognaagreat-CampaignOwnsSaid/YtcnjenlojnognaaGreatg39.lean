/- What is proved: the texts Lj, one behind the other; each says at its head what it proves, and under which conditions. -/
import Derived.Test.YtcnjenlojnognaaGreatg38
/- What is proved: the walk of CampaignOwns: true for every input. Conditions: the arguments lie in memory. -/
namespace Go.Proofs.YtcnjenlojnognaaGreat
open Go.RowKit

theorem cargoC_get (y:CargoD) {j:Nat} (hj:j<6):(#[.string y.name,.int .i64 y.mass,.int .i64 y.value,.int .i64 y.frm,.int .i64 y.to,.bool y.must]:Array Value)[j]?=some (cargoC y j):=by
 match j,hj with
 | 0,_=>rfl
 | 1,_=>rfl
 | 2,_=>rfl
 | 3,_=>rfl
 | 4,_=>rfl
 | 5,_=>rfl
set_option maxRecDepth 100000 in
set_option maxHeartbeats 32000000 in
theorem ownsLaw_any (w:World) (V:CV) (c:CampD) (h:CampAt w w.heap.size V c) (l:List LaunchD) (AL:Option Addr) (cL:Nat) (hp:PlanAt w w.heap.size AL l) (hcap:l.length≤cL) (hxl:∀ x ∈ l,x.cargos.length≤1125899906842624) :
  Calls Tryz.prog 12 #[.agg (campA V c),.slice AL l.length cL] w fun e w'=>e=.returned (.bool true)∧Below w.heap.size w w':=by
 obtain ⟨qb,hqb⟩:∃ qb,w.heap.size=qb:=⟨_,rfl⟩
 obtain ⟨W0,hW0⟩:∃ W0,w.alloc (.cells (campA V c) 26)=W0:=⟨_,rfl⟩
 have hb0:Below w.heap.size w W0:=by rw [← hW0];exact (Below.refl _ w).alloc (Nat.le_refl _) _
 have HKC:Hid (Bk W0 qb 26 (campA V c)):=Lib.hid (by rw [← hW0,← hqb];exact Bk.new _ _ _)
 obtain ⟨PQ,hPQ⟩:∃ Q,(fun (e:Ending) (w':World)=>e=.returned (.bool true)∧Below w.heap.size w w')=Q:=⟨_,rfl⟩
 have HFIN:Hid (∀ w',Below W0.heap.size W0 w'→PQ (.returned (.bool true)) w'):=Lib.hid fun w' h2=>by
  rw [← hPQ];exact ⟨rfl,hb0.trans (h2.mono hb0.size)⟩
 have HCA:=Lib.hid (h.later hb0)
 have HCW:Hid (∀ w1,Below W0.heap.size W0 w1→CampAt w1 w1.heap.size V c):=Lib.hid fun w1 hb=>HCA.out.later hb
 have HPA:=Lib.hid (hp.later hb0)
 have HPW:Hid (∀ w1,Below W0.heap.size W0 w1→PlanAt w1 w1.heap.size AL l):=Lib.hid fun w1 hb=>HPA.out.later hb
 have HCAP:=Lib.hid hcap
 have hll:=hp.len
 obtain ⟨nl,hnl⟩:∃ nl,l.length=nl:=⟨_,rfl⟩
 have HNL:=Lib.hid hnl
 have HGR:Hid (∀ w1,Below W0.heap.size W0 w1→Calls Tryz.prog 13 #[.agg (campA V c)] w1 fun e w'=>∃ b,e=.returned (.bool b)∧Below W0.heap.size W0 w'):=Lib.hid fun w1 hb =>
  (great_any w1 V c (HCW.out w1 hb)).mono fun e w' ⟨b,he,h2⟩=>⟨b,he,hb.trans (h2.mono hb.size)⟩
 have HLG:Hid (∀ w1,Below W0.heap.size W0 w1→Calls Tryz.prog 14 #[.slice AL nl cL] w1 fun e w'=>∃ b,e=.returned (.bool b)∧Below W0.heap.size W0 w'∧(b=false→nl≤20)):=Lib.hid fun w1 hb=>by
  rw [← HNL.out]
  exact (long_any w1 AL cL l (HPW.out w1 hb)).mono fun e w' ⟨b,he,h2,h3⟩=>⟨b,he,hb.trans (h2.mono hb.size),h3⟩
 have HAW:Hid (∀ w1,Below W0.heap.size W0 w1→Calls Tryz.prog 15 #[] w1 fun e w'=>e=.returned (.bool true)∧Below W0.heap.size W0 w'):=Lib.hid fun w1 hb =>
  (awake_any w1).mono fun e w' ⟨he,h2⟩=>⟨he,hb.trans (h2.mono hb.size)⟩
 have HAR:Hid (∀ w1,Below W0.heap.size W0 w1→Calls Tryz.prog 15 #[] w1 fun e w'=>e=.returned (.bool true)∧Below w1.heap.size w1 w'):=Lib.hid fun w1 hb=>awake_any w1
 have HLC:Hid (∀ w1,Below W0.heap.size W0 w1→∀ j u,(campA V c)[j]?=some u→w1.cell? ⟨qb,0+j,none⟩=some u):=Lib.hid fun w1 hb j u hj=>by rw [Nat.zero_add,(HKC.out.below hb HKC.out.lt).cell];exact hj
 obtain ⟨ng,hng⟩:∃ ng,c.cargos.length=ng:=⟨_,rfl⟩
 have HNG:=Lib.hid hng
 have HG2:Hid (∀ w1,Below W0.heap.size W0 w1→w1.cell? ⟨qb,2,none⟩=some (.slice V.gA ng V.gc)):=Lib.hid fun w1 hb=>by rw [← HNG.out];exact HLC.out w1 hb 2 _ rfl
 clear hng
 have HXL:=Lib.hid hxl
 clear hxl
 have HL2:Hid (∀ w1,Below W0.heap.size W0 w1→Calls Tryz.prog 14 #[.slice AL nl cL] w1 fun e w'=>∃ b,e=.returned (.bool b)∧Below W0.heap.size W0 w'∧(b=false→nl≤20∧∀ x ∈ l,x.cargos.length≤100)):=Lib.hid fun w1 hb=>by
  rw [← HNL.out]
  exact (long2_any w1 AL cL l (HPW.out w1 hb) HXL.out).mono fun e w' ⟨b,he,h2,h3⟩=>⟨b,he,hb.trans (h2.mono hb.size),h3⟩
 obtain ⟨Dl,hDl⟩:∃ r,(delayB c l 0 0).1=r:=⟨_,rfl⟩
 obtain ⟨fd,hfd⟩:∃ r,(delayB c l 0 0).2=r:=⟨_,rfl⟩
 have HDE:Hid (∀ w1,Below W0.heap.size W0 w1→nl≤2000→Calls Tryz.prog 32 #[.agg (campA V c),.slice AL nl cL,.int .i64 0,.int .i64 0] w1 fun e w'=>∃ A n c',e=.returned (.tuple #[.slice A n c',.int .i64 fd])∧n=Dl.length∧PlanO w' w1.heap.size A Dl∧Below w1.heap.size w1 w'):=Lib.hid fun w1 hb h20=>by
  rw [← HNL.out] at h20 ⊢
  refine (delay_any w1 V c (HCW.out w1 hb) l AL cL (HPW.out w1 hb) HCAP.out h20 0 0).mono fun e w' ⟨A,c',he,_,hp,h2⟩=>?_
  rw [hfd,hDl] at he
  rw [hDl] at hp
  exact ⟨A,_,c',he,rfl,hp,h2⟩
 obtain ⟨Bp,hBp⟩:∃ r,(bstB c).1=r:=⟨_,rfl⟩
 obtain ⟨fb,hfb⟩:∃ r,(bstB c).2=r:=⟨_,rfl⟩
 have HBE:Hid (∀ w1,Below W0.heap.size W0 w1→Calls Tryz.prog 25 #[.agg (campA V c)] w1 fun e w'=>∃ A n c',e=.returned (.tuple #[.slice A n c',.int .i64 fb])∧n=Bp.length∧PlanO w' w1.heap.size A Bp∧Below w1.heap.size w1 w'):=Lib.hid fun w1 hb=>by
  refine (Best_any w1 V c (HCW.out w1 hb)).mono fun e w' ⟨A,n,c',he,hn,_,hp,h2⟩=>?_
  rw [hfb] at he;rw [hBp] at hn hp
  exact ⟨A,n,c',he,hn,hp,h2⟩
 have HSA:Hid (∀ w1 L A n c' A' n' d',n=L.length→n'=L.length→PlanAt w1 w1.heap.size A L→PlanAt w1 w1.heap.size A' L→Calls Tryz.prog 27 #[.slice A n c',.slice A' n' d'] w1 fun e w'=>e=.returned (.bool true)∧Below w1.heap.size w1 w'):=Lib.hid fun w1 L A n c' A' n' d' h1 h2 h3 h4=>by
  subst h1
  subst h2
  rw [← sameB_iff.2 (rfl:L=L)]
  exact same_any w1 L L A A' c' d' h3 h4
 clear hDl hfd hBp hfb
 rw [hnl,hPQ]
 clear h hp hcap hb0 hPQ hnl
 simp only [campA] at hW0 ⊢
 go_enter Tryz.func12,Tryz.ntmps12
 go_upto_region 1 with (fail)
 clear hW0 hqb
 have HBR0:Hid (Below W0.heap.size W0 W0):=Lib.hid (Below.refl _ _)
 go_wp2_with (first | (refine wpLoadAt rfl 26 _ rfl qb 0 rfl (campA V c) _ (HLC.out _ HBR0.out) und_camp rfl (info_campA V c) ?_))
 refine (HGR.out _ HBR0.out).mono ?_
 rintro e WG ⟨bg,rfl,hb1⟩
 have HBWG:=Lib.hid hb1
 clear hb1
 cases bg with
 | true =>
  go_wp2_with (first | (refine wpLoadAt rfl 26 _ rfl qb 0 rfl (campA V c) _ (HLC.out _ HBWG.out) und_camp rfl (info_campA V c) ?_))
  refine (HAW.out _ HBWG.out).mono ?_
  rintro e WZ ⟨rfl,hb1⟩
  have HBWZ:=Lib.hid hb1
  clear hb1
  go_wp2_with fail
  first | exact HFIN.out _ HBWZ.out | (go_ret;exact HFIN.out _ HBWZ.out)
 | false =>
 go_wp2_with (first | (refine wpLoadAt rfl 26 _ rfl qb 0 rfl (campA V c) _ (HLC.out _ HBWG.out) und_camp rfl (info_campA V c) ?_))
 refine (HL2.out _ HBWG.out).mono ?_
 rintro e WL ⟨bl,rfl,hb1,hl20⟩
 have HBWL:=Lib.hid hb1
 clear hb1
 cases bl with
 | true =>
  clear hl20
  go_wp2_with (first | (refine wpLoadAt rfl 26 _ rfl qb 0 rfl (campA V c) _ (HLC.out _ HBWL.out) und_camp rfl (info_campA V c) ?_))
  refine (HAW.out _ HBWL.out).mono ?_
  rintro e WZ ⟨rfl,hb1⟩
  have HBWZ:=Lib.hid hb1
  clear hb1
  go_wp2_with fail
  first | exact HFIN.out _ HBWZ.out | (go_ret;exact HFIN.out _ HBWZ.out)
 | false =>
 obtain ⟨hn20,hx100⟩:=hl20 rfl
 have HX100:=Lib.hid hx100
 clear hl20 hx100
 have hc2:=HG2.out _ HBWL.out
 by_cases hg:5<ng
 ·have hgi:(5:Int)<(ng:Int):=by omega
  have hgd:decide ((5:Int)<(ng:Int))=true:=decide_eq_true hgi
  go_wp2_with (first | (refine wpLoadAt rfl 26 _ rfl qb 0 rfl (campA V c) _ (HLC.out _ HBWL.out) und_camp rfl (info_campA V c) ?_))
  refine (HAW.out _ HBWL.out).mono ?_
  rintro e WZ ⟨rfl,hb1⟩
  have HBWZ:=Lib.hid hb1
  clear hb1
  go_wp2_with fail
  first | exact HFIN.out _ HBWZ.out | (go_ret;exact HFIN.out _ HBWZ.out)
 have hgi:¬ (5:Int)<(ng:Int):=by omega
 have hgd:decide ((5:Int)<(ng:Int))=false:=decide_eq_false hgi
 have hgn:decide (5<ng)=false:=decide_eq_false hg
 have hng5:ng≤5:=by omega
 go_wp2_with fail
 clear hc2 hgd hgi hgn hg
 go_loopw [5,6] (fun v iv wr=>∃ (q:Nat) (v1:Value) (P:Nat→Option Addr) (Q:Nat→Nat),q≤nl∧v=v1∧iv=.int .i64 (q:Int)∧Hid (OwnL wr W0.heap.size v1 (l.take q) P Q)∧Hid (Below W0.heap.size W0 wr)) (fun _ iv _=>nl - (intOf iv).toNat)
 case atStart=>exact ⟨0,_,fun _=>none,fun _=>0,Nat.zero_le _,rfl,rfl,Lib.hid (OwnL.nil _ _ _ _),HBWL⟩
 case round =>
  obtain ⟨q,v1,PA,QA,hq,hov,rfl,HOW,HBW⟩:=hrel
  have hov2:=hov.symm
  clear hov
  subst hov2
  obtain ⟨W1,rfl⟩:∃ W:World,W=wr:=⟨_,rfl⟩
  have h0q:(0:Int)≤(q:Int):=by omega
  by_cases hqt:q<nl
  case pos =>
   have hqi:(q:Int)<(nl:Int):=by omega
   have hql:q<l.length:=by rw [HNL.out];exact hqt
   obtain ⟨X,hX⟩:∃ x,l.getD q launch0=x:=⟨_,rfl⟩
   obtain ⟨lb,lof,LP,LQ,hAL,_,lc,hli⟩:=(HPW.out W1 HBW.out).at hql
   subst hAL
   rw [hX] at lc hli
   obtain ⟨nx,hnx⟩:∃ n,X.cargos.length=n:=⟨_,rfl⟩
   have HNX:=Lib.hid hnx
   have hnx100:nx≤100:=by
    rw [← hnx,← hX];exact HX100.out _ (by rw [List.getD_eq_getElem?_getD,List.getElem?_eq_getElem hql];exact List.getElem_mem hql)
   obtain ⟨xd,hxd⟩:∃ x,X.day=x:=⟨_,rfl⟩
   obtain ⟨xc,hxc⟩:∃ x,X.craft=x:=⟨_,rfl⟩
   obtain ⟨xp,hxp⟩:∃ x,X.pad=x:=⟨_,rfl⟩
   have y0:W1.cell? ⟨lb,lof+q * 4,none⟩=some (.int .i64 xd):=by rw [← hxd];exact lc 0 _ rfl
   have y1:W1.cell? ⟨lb,lof+q * 4+1,none⟩=some (.int .i64 xc):=by rw [← hxc];exact lc 1 _ rfl
   have y2:W1.cell? ⟨lb,lof+q * 4+2,none⟩=some (.int .i64 xp):=by rw [← hxp];exact lc 2 _ rfl
   have y3:W1.cell? ⟨lb,lof+q * 4+3,none⟩=some (.slice LP nx LQ):=by rw [← hnx];exact lc 3 _ rfl
   have HLI:=Lib.hid hli
   have HTK:Hid (l.take q ++ [X]=l.take (q+1)):=Lib.hid (by rw [take_snocL l q hql,hX])
   obtain ⟨X2,hX2⟩:∃ x:LaunchD,(⟨xd,xc,xp,X.cargos⟩:LaunchD)=x:=⟨_,rfl⟩
   have HX2:Hid (X=X2):=Lib.hid (by rw [← hX2,← hxd,← hxc,← hxp])
   have HXD:Hid (X.day=xd∧X.craft=xc∧X.pad=xp):=Lib.hid ⟨hxd,hxc,hxp⟩
   clear lc hli hnx hX hxd hxc hxp hX2 hql
   obtain ⟨qx,hqx⟩:∃ x,W1.heap.size=x:=⟨_,rfl⟩
   go_upto_region 8 with (fail)
   clear y0 y1 y2 y3
   obtain ⟨W2,hW2⟩:∃ W,W1.alloc (.cells #[.int .i64 xd,.int .i64 xc,.int .i64 xp,.slice LP nx LQ] 52)=W:=⟨_,rfl⟩
   have hb2:Below W1.heap.size W1 W2:=by rw [← hW2];exact (Below.refl _ _).alloc (Nat.le_refl _) _
   have HK2:Hid (Bk W2 qx 52 #[.int .i64 xd,.int .i64 xc,.int .i64 xp,.slice LP nx LQ]):=Lib.hid (by rw [← hW2,← hqx];exact Bk.new _ _ _)
   have HB2:=Lib.hid hb2
   have HQX:=Lib.hid hqx
   have HS2:Hid (W2.heap.size=qx+1):=Lib.hid (by rw [← hW2,← hqx,World.size_alloc])
   rw [hW2]
   clear hW2 hb2 hqx
   have z3:W2.cell? ⟨qx,3,none⟩=some (.slice LP nx LQ):=HK2.out.cell 3
   have z3':(W2.alloc (.cells #[] 3)).cell? ⟨qx,3,none⟩=some (.slice LP nx LQ):=(HK2.out.alloc _).cell 3
   obtain ⟨iI,zI,hiI,hzI,hsI,hyI⟩:=info_ex info_intx
   have HSI:Hid (Sl (W2.alloc (.cells #[] 3)) (W2.alloc (.cells #[] 3)).heap.size 1 LP nx fun i _=>.int .i64 (numI X.cargos i)):=Lib.hid (by
    have:=HLI.out.later (HB2.out.alloc HB2.out.size (.cells #[] 3))
    rw [← HNX.out];exact this)
   go_wp2_with (at_builtin;refine wpList_copyAll rfl 48 _ _ rfl 3 iI zI Tryz.underlying48 hiI hzI 1 hsI hyI ⟨W2.heap.size,0,none⟩ rfl LP nx LQ rfl (fun i _=>.int .i64 (numI X.cargos i)) HSI.out (by omega) ?_)
   intro A3 c3 W3 hcl3 hb3
   have HB3:Hid (Below W2.heap.size W2 W3):=Lib.hid (((Below.refl _ W2).alloc (Nat.le_refl _) _).trans (hb3.mono (by first | omega | (rw [World.size_alloc];omega) | (simp;omega))))
   have HK3:=Lib.hid (HK2.out.below HB3.out HK2.out.lt)
   have HB13:Hid (Below W1.heap.size W1 W3):=Lib.hid (HB2.out.trans (HB3.out.mono HB2.out.size))
   have HI3:Hid (IntsO W3 W0.heap.size A3 X.cargos):=Lib.hid (by
    have h1:IntsO W3 (W2.heap.size+1) A3 X.cargos:=by unfold IntsO;rw [HNX.out];exact hcl3
    exact h1.mono (by have:=HB2.out.size;have:=HBW.out.size;first | omega | (rw [World.size_alloc];omega) | (simp;omega)))
   have z4:W3.cell? ⟨qx,3,none⟩=some (.slice LP nx LQ):=HK3.out.cell 3
   have f4:W3.frozen? ⟨qx,3,none⟩=false:=HK3.out.free 3
   clear hcl3 hb3 z3 z3' hiI hzI hsI hyI
   go_upto_region 9 with (fail)
   obtain ⟨W4,hW4⟩:∃ W,W3.setCell ⟨qx,3,none⟩ (.slice A3 nx c3)=W:=⟨_,rfl⟩
   have HB14:Hid (Below W1.heap.size W1 W4):=Lib.hid (by rw [← hW4];exact HB13.out.setCell (p:=⟨qx,3,none⟩) (by show W1.heap.size≤qx;have:=HQX.out;omega) _)
   have HK4:Hid (Bk W4 qx 52 #[.int .i64 xd,.int .i64 xc,.int .i64 xp,.slice A3 nx c3]):=Lib.hid (by rw [← hW4];exact HK3.out.set 3 (.slice A3 nx c3))
   have HI4:Hid (IntsO W4 W0.heap.size A3 X.cargos):=Lib.hid (by rw [← hW4];exact HI3.out.other HK3.out (by decide) fun k _ hne=>(Only.setCell W3 qx 3 _).block k hne)
   rw [hW4]
   clear hW4 z4 f4
   have HL4:Hid (∀ j u,(#[.int .i64 xd,.int .i64 xc,.int .i64 xp,.slice A3 nx c3]:Array Value)[j]?=some u→W4.cell? ⟨qx,0+j,none⟩=some u):=Lib.hid fun j u hj=>by rw [Nat.zero_add,HK4.out.cell];exact hj
   obtain ⟨WA,hWA⟩:∃ W,W4.alloc (.cells #[.int .i64 xd,.int .i64 xc,.int .i64 xp,.slice A3 nx c3] 52)=W:=⟨_,rfl⟩
   have HBA:Hid (Below W1.heap.size W1 WA):=Lib.hid (by rw [← hWA];exact HB14.out.alloc HB14.out.size _)
   have HOA:Hid (OwnL WA W0.heap.size v1 (l.take q) PA QA):=Lib.hid (HOW.out.later HBA.out)
   have HKA:Hid (Bk WA W4.heap.size 52 (launchA X2 A3 c3)):=Lib.hid (by
    have e:launchA X2 A3 c3=#[.int .i64 xd,.int .i64 xc,.int .i64 xp,.slice A3 nx c3]:=by
     rw [← HX2.out]
     unfold launchA
     rw [HNX.out]
     rw [HXD.out.1,HXD.out.2.1,HXD.out.2.2]
    rw [e,← hWA];exact Bk.new _ _ _)
   have HIA:Hid (IntsO WA W0.heap.size A3 X2.cargos):=Lib.hid (by
    rw [← HX2.out,← hWA];exact HI4.out.later ((Below.refl _ _).alloc (Nat.le_refl _) _))
   have HSA2:Hid (W0.heap.size≤WA.heap.size):=Lib.hid (by have:=HBA.out.size;have:=HBW.out.size;omega)
   have HTL:Hid ((l.take q).length≤4096):=Lib.hid (by rw [List.length_take];omega)
   go_wp2_with (first | (refine wpLoadAt rfl 52 _ rfl qx 0 rfl #[.int .i64 xd,.int .i64 xc,.int .i64 xp,.slice A3 nx c3] _ HL4.out und_launch rfl info_launch ?_) | (at_builtin;refine wpList_pushL (w:=WA) rfl (.tmp 50) (.tmp 52) rfl (B:=W0.heap.size) (v:=v1) (l:=l.take q) (P:=PA) (Q:=QA) rfl HOA.out W4.heap.size 1 X2 A3 c3 rfl HKA.out HIA.out HTL.out HSA2.out ?_))
   intro v5 W5 P5 Q5 hv5 hb5
   have HV5:Hid (OwnL W5 W0.heap.size v5 (l.take (q+1)) P5 Q5):=Lib.hid (by rw [← HTK.out,HX2.out];exact hv5)
   have HB5:Hid (Below W0.heap.size W0 W5):=Lib.hid ((HBW.out.trans (HBA.out.mono HBW.out.size)).trans hb5)
   clear hv5 hb5 hWA
   go_wp2_with fail
   go_roundw
   case rel=>first | exact ⟨q+1,_,P5,Q5,by omega,rfl,by go_num,HV5,HB5⟩ | ((repeat apply Exists.intro);exact ⟨⟨q+1,_,P5,Q5,by omega,rfl,by go_num,HV5,HB5⟩,rfl⟩)
   case measure=>simp [intOf];omega
  case neg =>
   obtain rfl:q=nl:=by omega
   have HWAS:Hid (OwnL W1 W0.heap.size v1 l PA QA):=Lib.hid (by
    have h1:=HOW.out
    rw [List.take_of_length_le (by rw [HNL.out];exact Nat.le_refl q)] at h1;exact h1)
   obtain ⟨Aw,cw,hvw,_,_⟩:=HWAS.out.form
   rw [HNL.out] at hvw
   subst hvw
   have HPWS:Hid (PlanO W1 W0.heap.size Aw l):=Lib.hid (HWAS.out.planO (by rw [HNL.out];omega))
   clear HOW HWAS
   -- the cargos' copy
   have k2:=HG2.out _ HBW.out
   have k2':=HG2.out (W1.alloc (.cells #[] 54)) (HBW.out.alloc HBW.out.size _)
   obtain ⟨iC,zC,hiC,hzC,hsC,hyC⟩:=info_ex info_cargox
   have HSL:Hid (∀ w1,Below W0.heap.size W0 w1→Sl w1 w1.heap.size 6 V.gA ng fun i=>cargoC (c.cargoN i)):=Lib.hid fun w1 hb=>by rw [← HNG.out];exact (HCW.out w1 hb).cargos
   have hng4:ng≤4096:=by omega
   go_wp2_with (at_builtin;refine wpList_copyAll rfl 24 _ _ rfl 54 iC zC Tryz.underlying24 hiC hzC 6 hsC hyC ⟨W1.heap.size,0,none⟩ rfl V.gA ng V.gc rfl (fun i=>cargoC (c.cargoN i)) (HSL.out _ (HBW.out.alloc HBW.out.size _)) hng4 ?_)
   intro A8 c8 WB hcl8 hb8
   have HB1B:Hid (Below W1.heap.size W1 WB):=Lib.hid (((Below.refl _ W1).alloc (Nat.le_refl _) _).trans (hb8.mono (by first | omega | (rw [World.size_alloc];omega) | (simp;omega))))
   have HBWB:Hid (Below W0.heap.size W0 WB):=Lib.hid (HBW.out.trans (HB1B.out.mono HBW.out.size))
   have HCP8:=Lib.hid hcl8.sl
   clear hcl8 hb8 k2 k2' hiC hzC hsC hyC
   go_wp2_with (first | (refine wpLoadAt rfl 26 _ rfl qb 0 rfl (campA V c) _ (HLC.out _ HBWB.out) und_camp rfl (info_campA V c) ?_))
   refine (HDE.out _ HBWB.out (by omega)).mono ?_
   rintro e WD ⟨A9,n9,c9,rfl,hn9,hp9,hb9⟩
   obtain ⟨g9,P9,Q9,hg9,hmu⟩:=hp9.mut (Nat.le_refl _) hb9
   have hsh:n9≤4096:=by rw [hn9];exact hp9.short
   have hsm:∀ i,i<n9→(Dl.getD i launch0).cargos.length≤4096:=fun i hi=>by
    obtain ⟨g,cur,P,Q,_,hr⟩:=hp9.rows (by omega)
    exact (hr.ints i (by omega)).1
   rw [← hn9] at hg9 hmu
   obtain ⟨ln,hln⟩:∃ f,(fun i=>(Dl.getD i launch0).cargos.length)=f:=⟨_,rfl⟩
   rw [hln] at hmu
   have HLM:Hid (∀ i,i<n9→ln i≤4096):=Lib.hid fun i hi=>by rw [← hln];exact hsm i hi
   have HGA:=Lib.hid hg9
   have HMU:=Lib.hid hmu
   clear hg9 hmu hsm hln hp9 hb9 hn9
   go_wp2_with fail
   go_loopw [11] (fun iv wr=>∃ i:Nat,i≤n9∧iv=.int .i64 (i:Int)∧Hid (MutR WB g9 n9 P9 ln Q9 wr)) (fun iv _=>n9 - (intOf iv).toNat)
   case atStart=>exact ⟨0,Nat.zero_le _,rfl,HMU⟩
   case round =>
    obtain ⟨i,hi,rfl,HMI⟩:=hrel
    obtain ⟨Wx,rfl⟩:∃ W:World,W=wr:=⟨_,rfl⟩
    have h0i:(0:Int)≤(i:Int):=by omega
    by_cases hit:i<n9
    case pos =>
     have hii:(i:Int)<(n9:Int):=by omega
     obtain rfl:=HGA.out (by omega)
     obtain ⟨li,hli⟩:∃ x,ln i=x:=⟨_,rfl⟩
     have HLI:=Lib.hid hli
     have hli4:li≤4096:=by rw [← hli];exact HLM.out i hit
     obtain ⟨Pi,hPi⟩:∃ x,P9 i=x:=⟨_,rfl⟩
     obtain ⟨Qi,hQi⟩:∃ x,Q9 i=x:=⟨_,rfl⟩
     have HPI:=Lib.hid hPi
     have HSL9:Hid (∀ w1,MutR WB g9 n9 P9 ln Q9 w1→w1.cell? ⟨g9,i * 4+3,none⟩=some (.slice Pi li Qi)):=Lib.hid fun w1 h1=>by
      rw [← hPi,← hQi,← hli];exact h1.slice hit
     clear hli hPi hQi
     obtain ⟨⟨du,dcell⟩,dfree⟩:=HMI.out.day hit
     go_upto_region 16 with (fail)
     obtain ⟨Wy,hWy⟩:∃ W,Wx.setCell ⟨g9,i * 4,none⟩ (.int .i64 (-1))=W:=⟨_,rfl⟩
     have HMY:Hid (MutR WB g9 n9 P9 ln Q9 Wy):=Lib.hid (by rw [← hWy];exact HMI.out.setDay hit _)
     rw [hWy]
     clear hWy dcell dfree
     go_wp2_with fail
     go_loopw [12] (fun kv wr=>∃ k:Nat,k≤li∧kv=.int .i64 (k:Int)∧Hid (MutR WB g9 n9 P9 ln Q9 wr)) (fun kv _=>li - (intOf kv).toNat)
     case atStart=>exact ⟨0,Nat.zero_le _,rfl,HMY⟩
     case round =>
      obtain ⟨k,hk,rfl,HMK⟩:=hrel
      obtain ⟨Wz,rfl⟩:∃ W:World,W=wr:=⟨_,rfl⟩
      have h0k:(0:Int)≤(k:Int):=by omega
      have s3:=HSL9.out Wz HMK.out
      by_cases hkt:k<li
      case pos =>
       have hki:(k:Int)<(li:Int):=by omega
       have HKL:Hid (k<ln i):=Lib.hid (by rw [HLI.out];exact hkt)
       obtain ⟨gi,hgi,⟨iu,icell⟩,ifree⟩:=HMK.out.int hit HKL.out
       have HGI:=Lib.hid hgi
       have hpp:Pi=some ⟨gi,0,none⟩:=by rw [← HPI.out];exact hgi
       subst hpp
       clear hgi
       have HMN:Hid (MutR WB g9 n9 P9 ln Q9 (Wz.setCell ⟨gi,k,none⟩ (.int .i64 (-1)))):=Lib.hid (HMK.out.setInt hit HKL.out HGI.out _)
       go_wp2_with fail
       go_roundw
       case rel=>first | exact ⟨k+1,by omega,by go_num,HMN⟩ | ((repeat apply Exists.intro);exact ⟨⟨k+1,by omega,by go_num,HMN⟩,rfl⟩)
       case measure=>simp [intOf];omega
      case neg =>
       obtain rfl:k=li:=by omega
       go_wp2_with fail
       go_roundw
       case rel=>first | exact ⟨i+1,by omega,by go_num,HMK⟩ | ((repeat apply Exists.intro);exact ⟨⟨i+1,by omega,by go_num,HMK⟩,rfl⟩)
       case measure=>simp [intOf];omega
    case neg =>
     obtain rfl:i=n9:=by omega
     obtain ⟨WE,rfl⟩:∃ W:World,W=Wx:=⟨_,rfl⟩
     have HBBE:Hid (Below WB.heap.size WB WE):=Lib.hid HMI.out.bel
     clear HMI HMU HGA HLM
     have HBWE:Hid (Below W0.heap.size W0 WE):=Lib.hid (HBWB.out.trans (HBBE.out.mono HBWB.out.size))
     go_wp2_with (first | (refine wpLoadAt rfl 26 _ rfl qb 0 rfl (campA V c) _ (HLC.out _ HBWE.out) und_camp rfl (info_campA V c) ?_))
     refine (HBE.out _ HBWE.out).mono ?_
     rintro e WF ⟨A13,n13,c13,rfl,hn13,hp13,hb13⟩
     obtain ⟨g13,P13,Q13,hg13,hmu⟩:=hp13.mut (Nat.le_refl _) hb13
     have hsh:n13≤4096:=by rw [hn13];exact hp13.short
     have hsm:∀ i,i<n13→(Bp.getD i launch0).cargos.length≤4096:=fun i hi=>by
      obtain ⟨g,cur,P,Q,_,hr⟩:=hp13.rows (by omega)
      exact (hr.ints i (by omega)).1
     rw [← hn13] at hg13 hmu
     obtain ⟨ln,hln⟩:∃ f,(fun i=>(Bp.getD i launch0).cargos.length)=f:=⟨_,rfl⟩
     rw [hln] at hmu
     have HLM:Hid (∀ i,i<n13→ln i≤4096):=Lib.hid fun i hi=>by rw [← hln];exact hsm i hi
     have HGA:=Lib.hid hg13
     have HMU:=Lib.hid hmu
     clear hg13 hmu hsm hln hp13 hb13 hn13
     go_wp2_with fail
     go_loopw [15] (fun iv wr=>∃ i:Nat,i≤n13∧iv=.int .i64 (i:Int)∧Hid (MutR WE g13 n13 P13 ln Q13 wr)) (fun iv _=>n13 - (intOf iv).toNat)
     case atStart=>exact ⟨0,Nat.zero_le _,rfl,HMU⟩
     case round =>
      obtain ⟨i,hi,rfl,HMI⟩:=hrel
      obtain ⟨Wx,rfl⟩:∃ W:World,W=wr:=⟨_,rfl⟩
      have h0i:(0:Int)≤(i:Int):=by omega
      by_cases hit:i<n13
      case pos =>
       have hii:(i:Int)<(n13:Int):=by omega
       obtain rfl:=HGA.out (by omega)
       obtain ⟨li,hli⟩:∃ x,ln i=x:=⟨_,rfl⟩
       have HLI:=Lib.hid hli
       have hli4:li≤4096:=by rw [← hli];exact HLM.out i hit
       obtain ⟨Pi,hPi⟩:∃ x,P13 i=x:=⟨_,rfl⟩
       obtain ⟨Qi,hQi⟩:∃ x,Q13 i=x:=⟨_,rfl⟩
       have HPI:=Lib.hid hPi
       have HSL9:Hid (∀ w1,MutR WE g13 n13 P13 ln Q13 w1→w1.cell? ⟨g13,i * 4+3,none⟩=some (.slice Pi li Qi)):=Lib.hid fun w1 h1=>by
        rw [← hPi,← hQi,← hli];exact h1.slice hit
       clear hli hPi hQi
       have HMY:=HMI
       go_wp2_with fail
       go_loopw [16] (fun kv wr=>∃ k:Nat,k≤li∧kv=.int .i64 (k:Int)∧Hid (MutR WE g13 n13 P13 ln Q13 wr)) (fun kv _=>li - (intOf kv).toNat)
       case atStart=>exact ⟨0,Nat.zero_le _,rfl,HMY⟩
       case round =>
        obtain ⟨k,hk,rfl,HMK⟩:=hrel
        obtain ⟨Wz,rfl⟩:∃ W:World,W=wr:=⟨_,rfl⟩
        have h0k:(0:Int)≤(k:Int):=by omega
        have s3:=HSL9.out Wz HMK.out
        by_cases hkt:k<li
        case pos =>
         have hki:(k:Int)<(li:Int):=by omega
         have HKL:Hid (k<ln i):=Lib.hid (by rw [HLI.out];exact hkt)
         obtain ⟨gi,hgi,⟨iu,icell⟩,ifree⟩:=HMK.out.int hit HKL.out
         have HGI:=Lib.hid hgi
         have hpp:Pi=some ⟨gi,0,none⟩:=by rw [← HPI.out];exact hgi
         subst hpp
         clear hgi
         have HMN:Hid (MutR WE g13 n13 P13 ln Q13 (Wz.setCell ⟨gi,k,none⟩ (.int .i64 (-1)))):=Lib.hid (HMK.out.setInt hit HKL.out HGI.out _)
         go_wp2_with fail
         go_roundw
         case rel=>first | exact ⟨k+1,by omega,by go_num,HMN⟩ | ((repeat apply Exists.intro);exact ⟨⟨k+1,by omega,by go_num,HMN⟩,rfl⟩)
         case measure=>simp [intOf];omega
        case neg =>
         obtain rfl:k=li:=by omega
         go_wp2_with fail
         go_roundw
         case rel=>first | exact ⟨i+1,by omega,by go_num,HMK⟩ | ((repeat apply Exists.intro);exact ⟨⟨i+1,by omega,by go_num,HMK⟩,rfl⟩)
         case measure=>simp [intOf];omega
      case neg =>
       obtain rfl:i=n13:=by omega
       obtain ⟨WG,rfl⟩:∃ W:World,W=Wx:=⟨_,rfl⟩
       have HBEG:Hid (Below WE.heap.size WE WG):=Lib.hid HMI.out.bel
       clear HMI HMU HGA HLM
       have HBWG:Hid (Below W0.heap.size W0 WG):=Lib.hid (HBWE.out.trans (HBEG.out.mono HBWE.out.size))
       go_wp2_with (first | (refine wpLoadAt rfl 26 _ rfl qb 0 rfl (campA V c) _ (HLC.out _ HBWG.out) und_camp rfl (info_campA V c) ?_))
       refine (HBE.out _ HBWG.out).mono ?_
       rintro e WH ⟨A17,n17,c17,rfl,hn17,hp17,hb17⟩
       have HBWH:Hid (Below W0.heap.size W0 WH):=Lib.hid (HBWG.out.trans (hb17.mono HBWG.out.size))
       have HBGH:=Lib.hid hb17
       have HN17:=Lib.hid hn17
       have HP17:=Lib.hid hp17
       clear hn17 hp17 hb17
       go_wp2_with (first | (refine wpLoadAt rfl 26 _ rfl qb 0 rfl (campA V c) _ (HLC.out _ HBWH.out) und_camp rfl (info_campA V c) ?_))
       refine (HBE.out _ HBWH.out).mono ?_
       rintro e WI ⟨A19,n19,c19,rfl,hn19,hp19,hb19⟩
       have HBWI:Hid (Below W0.heap.size W0 WI):=Lib.hid (HBWH.out.trans (hb19.mono HBWH.out.size))
       have HN19:=Lib.hid hn19
       have HP19:=Lib.hid hp19
       have HP17I:=Lib.hid (HP17.out.later hb19)
       have HBBI:Hid (Below WB.heap.size WB WI):=Lib.hid (HBBE.out.trans ((HBEG.out.trans ((HBGH.out.trans (hb19.mono HBGH.out.size)).mono HBEG.out.size)).mono HBBE.out.size))
       clear hn19 hp19 hb19
       go_wp2_with fail
       go_loopw [21] (fun iv wr=>∃ r:Nat,r≤ng∧iv=.int .i64 (r:Int)∧Hid (Below WI.heap.size WI wr)) (fun iv _=>ng - (intOf iv).toNat)
       case atStart=>exact ⟨0,Nat.zero_le _,rfl,Lib.hid (Below.refl _ _)⟩
       case round =>
        obtain ⟨r,hr,rfl,HBR⟩:=hrel
        obtain ⟨WJ,rfl⟩:∃ W:World,W=wr:=⟨_,rfl⟩
        have h0r:(0:Int)≤(r:Int):=by omega
        by_cases hrt:r<ng
        case pos =>
         have hri:(r:Int)<(ng:Int):=by omega
         obtain ⟨y,hy⟩:∃ y,c.cargoN r=y:=⟨_,rfl⟩
         obtain ⟨g8,o8,hA8,_,_⟩:=HCP8.out.2 (by omega)
         subst hA8
         obtain ⟨gb,go,hgA,_⟩:=HCA.out.cargos.2 (by rw [HNG.out];omega)
         have HCL:Hid (∀ w1,Below WJ.heap.size WJ w1→(∀ j u,(#[.string y.name,.int .i64 y.mass,.int .i64 y.value,.int .i64 y.frm,.int .i64 y.to,.bool y.must]:Array Value)[j]?=some u→w1.cell? ⟨g8,o8+r * 6+j,none⟩=some u)∧w1.cell? ⟨qb,2,none⟩=some (.slice (some ⟨gb,go,none⟩) ng V.gc)∧(∀ j u,(#[.string y.name,.int .i64 y.mass,.int .i64 y.value,.int .i64 y.frm,.int .i64 y.to,.bool y.must]:Array Value)[j]?=some u→w1.cell? ⟨gb,go+r * 6+j,none⟩=some u)):=Lib.hid fun w1 h1=>by
          have hbi:Below WI.heap.size WI w1:=HBR.out.trans (h1.mono HBR.out.size)
          have hb0:Below W0.heap.size W0 w1:=HBWI.out.trans (hbi.mono HBWI.out.size)
          have hbb:Below WB.heap.size WB w1:=HBBI.out.trans (hbi.mono HBBI.out.size)
          refine ⟨fun j u hj=>?_,by rw [← hgA];exact HG2.out w1 hb0,fun j u hj=>?_⟩
          ·obtain ⟨b',o',e,_,hc'⟩:=(HCP8.out.below hbb).2 (by omega)
           injection e with e
           injection e with e1 e2
           subst e1 e2
           have hj6:j<6:=(Array.getElem?_eq_some_iff.1 hj).1
           have hca:=cargoC_get (c.cargoN r) hj6
           rw [hy] at hca
           have h2:=hc' r hrt j hj6
           dsimp only at h2
           rw [hy] at h2
           rw [h2,← hj]
           exact hca.symm
          ·obtain ⟨b',o',e,_,hc'⟩:=(HCW.out w1 hb0).cargos.2 (by rw [HNG.out];omega)
           rw [hgA] at e
           injection e with e
           injection e with e1 e2
           subst e1 e2
           have hj6:j<6:=(Array.getElem?_eq_some_iff.1 hj).1
           have hca:=cargoC_get (c.cargoN r) hj6
           rw [hy] at hca
           have h2:=hc' r (by rw [HNG.out];exact hrt) j hj6
           dsimp only at h2
           rw [hy] at h2
           rw [h2,← hj]
           exact hca.symm
         clear hy hgA
         go_upto_region 33 with (fail)
         refine wp_region_steps (by kernel_rfl) (by kernel_rfl) (fun w1=>Below WJ.heap.size WJ w1) (fun _ _ _=>True)
          (fun ix u _ _=>match ix with
           | 0=>u=.slice (some ⟨g8,o8,none⟩) ng c8
           | 1=>u=.int .i64 (r:Int)
           | 2=>u=.pointer (some ⟨g8,o8+r * 6,none⟩)
           | 3=>u=.agg #[.string y.name,.int .i64 y.mass,.int .i64 y.value,.int .i64 y.frm,.int .i64 y.to,.bool y.must]
           | 4=>u=.pointer (some ⟨qb,2,none⟩)
           | 5=>u=.slice (some ⟨gb,go,none⟩) ng V.gc
           | 6=>u=.int .i64 (r:Int)
           | 7=>u=.pointer (some ⟨gb,go+r * 6,none⟩)
           | 8=>u=.agg #[.string y.name,.int .i64 y.mass,.int .i64 y.value,.int .i64 y.frm,.int .i64 y.to,.bool y.must]
           | _=>u=.bool false) (Below.refl _ _).drew (fun _ _ _ _ _ _ _ _ h _ _=>h) ?_ ?_
         ·refine ⟨?_,?_,?_,?_,?_,?_,?_,?_,?_,?_,trivial⟩
          ·intro a w1 vs K HJ HK HD HN kk
           have e8:=HK 8 (by decide)
           go_simp;exact kk _ _ (by simp) HJ trivial rfl
          ·intro a w1 vs K HJ HK HD HN kk
           have e21:=HK 21 (by decide)
           go_simp;exact kk _ _ (by simp) HJ trivial rfl
          ·intro a w1 vs K HJ HK HD HN kk
           have e135:=hdE (HD 0 _ 135 rfl rfl rfl)
           have e136:=hdE (HD 1 _ 136 rfl rfl rfl)
           go_simp;exact kk _ _ (by simp) HJ trivial rfl
          ·intro a w1 vs K HJ HK HD HN kk
           have e137:=hdE (HD 2 _ 137 rfl rfl rfl)
           exact wpo_loadS 54 (.tmp 137) rfl g8 (o8+r * 6) (by simpa [Act.eval] using e137) #[.string y.name,.int .i64 y.mass,.int .i64 y.value,.int .i64 y.frm,.int .i64 y.to,.bool y.must] _ (HCL.out w1 HJ).1 und_cargo rfl info_cargo (kk _ _ (by simp) HJ trivial rfl)
          ·intro a w1 vs K HJ HK HD HN kk
           have e2:=HK 2 (by decide)
           go_simp;exact kk _ _ (by simp) HJ trivial rfl
          ·intro a w1 vs K HJ HK HD HN kk
           have e139:=hdE (HD 4 _ 139 rfl rfl rfl)
           have ca:w1.cell? ⟨qb,2,none⟩=some (.slice (some ⟨gb,go,none⟩) ng V.gc):=(HCL.out w1 HJ).2.1
           go_simp;exact kk _ _ (by simp) HJ trivial rfl
          ·intro a w1 vs K HJ HK HD HN kk
           have e21:=HK 21 (by decide)
           go_simp;exact kk _ _ (by simp) HJ trivial rfl
          ·intro a w1 vs K HJ HK HD HN kk
           have e140:=hdE (HD 5 _ 140 rfl rfl rfl)
           have e141:=hdE (HD 6 _ 141 rfl rfl rfl)
           go_simp;exact kk _ _ (by simp) HJ trivial rfl
          ·intro a w1 vs K HJ HK HD HN kk
           have e142:=hdE (HD 7 _ 142 rfl rfl rfl)
           exact wpo_loadS 54 (.tmp 142) rfl gb (go+r * 6) (by simpa [Act.eval] using e142) #[.string y.name,.int .i64 y.mass,.int .i64 y.value,.int .i64 y.frm,.int .i64 y.to,.bool y.must] _ (HCL.out w1 HJ).2.2 und_cargo rfl info_cargo (kk _ _ (by simp) HJ trivial rfl)
          ·intro a w1 vs K HJ HK HD HN kk
           have e138:=hdE (HD 3 _ 138 rfl rfl rfl)
           have e143:=hdE (HD 8 _ 143 rfl rfl rfl)
           have hq:=eqCg y.name y.mass y.value y.frm y.to y.must w1
           go_simp;exact kk _ _ (by simp) HJ trivial rfl
         ·intro vs WK hJ hrr
          have e9:vs 9=.bool false:=hrr 9 _ rfl
          have HBK:Hid (Below WI.heap.size WI WK):=Lib.hid (HBR.out.trans (Below.mono hJ HBR.out.size))
          clear hrr hJ
          simp only [putAll,Act.put,List.setIfInBounds_toArray,List.set_cons_zero,List.set_cons_succ]
          rw [e9]
          clear e9
          go_wp2_with fail
          go_roundw
          case rel=>first | exact ⟨r+1,by omega,by go_num,HBK⟩ | ((repeat apply Exists.intro);exact ⟨⟨r+1,by omega,by go_num,HBK⟩,rfl⟩)
          case measure=>simp [intOf];omega
        case neg =>
         obtain rfl:r=ng:=by omega
         have HBWJ:Hid (Below W0.heap.size W0 WJ):=Lib.hid (HBWI.out.trans (HBR.out.mono HBWI.out.size))
         have HBBJ:Hid (Below WB.heap.size WB WJ):=Lib.hid (HBBI.out.trans (HBR.out.mono HBBI.out.size))
         have HB1J:Hid (Below W1.heap.size W1 WJ):=Lib.hid (HB1B.out.trans (HBBJ.out.mono HB1B.out.size))
         have HS1:=Lib.hid (HSA.out WJ l AL q cL Aw q cw HNL.out.symm HNL.out.symm (HPW.out WJ HBWJ.out) (HPWS.out.later HB1J.out).at)
         go_wp2_with fail
         refine HS1.out.mono ?_
         rintro e WK ⟨rfl,hbk⟩
         have HBWK:Hid (Below W0.heap.size W0 WK):=Lib.hid (HBWJ.out.trans (hbk.mono HBWJ.out.size))
         have hik:Below WI.heap.size WI WK:=HBR.out.trans (hbk.mono HBR.out.size)
         have HS2:=Lib.hid (HSA.out WK Bp A17 n17 c17 A19 n19 c19 HN17.out HN19.out (HP17I.out.later hik).at (HP19.out.later hik).at)
         clear hbk hik
         go_wp2_with fail
         refine HS2.out.mono ?_
         rintro e WM ⟨rfl,hbm⟩
         have HBWM:Hid (Below W0.heap.size W0 WM):=Lib.hid (HBWK.out.trans (hbm.mono HBWK.out.size))
         clear hbm
         go_wp2_with (first | (refine wpLoadAt rfl 26 _ rfl qb 0 rfl (campA V c) _ (HLC.out _ HBWM.out) und_camp rfl (info_campA V c) ?_))
         refine (HAW.out _ HBWM.out).mono ?_
         rintro e WZ ⟨rfl,hb1⟩
         have HBWZ:=Lib.hid hb1
         clear hb1
         go_wp2_with fail
         first | exact HFIN.out _ HBWZ.out | (go_ret;exact HFIN.out _ HBWZ.out)
end Go.Proofs.YtcnjenlojnognaaGreat
