/- What is proved: the texts Fg Fh, one behind the other; each says at its head what it proves, and under which conditions. -/
import Derived.ChangeKeysEq
import Derived.Test.YtmkoegljnebdiaaGreatdPAborts4
namespace Go.Proofs.YtmkoegljnebdiaaGreat
open Go.RowKit
set_option maxRecDepth 100000
set_option maxHeartbeats 16000000

def sixA (f:Nat→SpanD):Array Value:=iC [(f 0).lo,(f 0).hi,(f 1).lo,(f 1).hi,(f 2).lo,(f 2).hi,(f 3).lo,(f 3).hi,(f 4).lo,(f 4).hi,(f 5).lo,(f 5).hi]
def sixF (x:SixD):Nat→SpanD
 | 0=>x.p.x
 | 1=>x.p.y
 | 2=>x.p.z
 | 3=>x.v.x
 | 4=>x.v.y
 | _=>x.v.z
def updS (f:Nat→SpanD) (i:Nat) (x:SpanD):Nat→SpanD:=fun j=>if j=i then x else f j
def ofF (f:Nat→SpanD):SixD:=⟨⟨f 0,f 1,f 2⟩,⟨f 3,f 4,f 5⟩⟩
def widen1M (b m:SpanD):CM SpanD:=fun e=>if withinB m b=true then (b,e) else
 doM addB (doM hullB b m e).1 ⟨-((wideB (doM hullB b m e).1).1 / 8+65536),(wideB (doM hullB b m e).1).1 / 8+65536⟩ (if (doM hullB b m e).2=0 then (wideB (doM hullB b m e).1).2 else (doM hullB b m e).2)
def widK (b m:Nat→SpanD) (e:Int):Nat→(Nat→SpanD) × Int
 | 0=>(b,e)
 | i+1=>(updS (widK b m e i).1 i (widen1M ((widK b m e i).1 i) (m i) (widK b m e i).2).1,(widen1M ((widK b m e i).1 i) (m i) (widK b m e i).2).2)
def widenedM (b m:SixD):CM SixD:=fun e=>(ofF (widK (sixF b) (sixF m) e 6).1,(widK (sixF b) (sixF m) e 6).2)
theorem six_seg (f:Nat→SpanD) {i:Nat} (hi:i<6):((sixA f).toList.drop (i * 2)).take 2=[.int .i64 (f i).lo,.int .i64 (f i).hi]:=by
 match i,hi with
 | 0,_=>rfl
 | 1,_=>rfl
 | 2,_=>rfl
 | 3,_=>rfl
 | 4,_=>rfl
 | 5,_=>rfl
theorem six_upd (f:Nat→SpanD) {i:Nat} (hi:i<6) (x:SpanD):(sixA f).toList.take (i * 2) ++ [.int .i64 x.lo,.int .i64 x.hi] ++ (sixA f).toList.drop (i * 2+2)=(sixA (updS f i x)).toList:=by
 match i,hi with
 | 0,_=>rfl
 | 1,_=>rfl
 | 2,_=>rfl
 | 3,_=>rfl
 | 4,_=>rfl
 | 5,_=>rfl
theorem wide_range {a:SpanD} (ha:WdS a):0≤(wideB a).1∧(wideB a).1≤9223372036854775807:=by
 unfold wideB;split
 ·rename_i hc
  have h3:=chk_iff.1 hc;unfold WdS at ha;split <;> dsimp only <;> omega
 ·dsimp only;omega
theorem wd_widen1 {b:SpanD} (hb:WdS b) (m:SpanD) (e:Int):WdS (widen1M b m e).1:=by
 unfold widen1M;split
 ·exact hb
 ·exact wd_do wd_add _ _ _
theorem wd_widK {b m:Nat→SpanD} {e:Int} (hb:∀ i,WdS (b i)):∀ k i,WdS ((widK b m e k).1 i)
 | 0,i=>hb i
 | k+1,i=>by
  show WdS (updS _ k _ i)
  unfold updS;split
  ·exact wd_widen1 (wd_widK hb k k) _ _
  ·exact wd_widK hb k i
theorem wd_sixF {x:SixD} (h:WdX x) (i:Nat):WdS (sixF x i):=by
 obtain ⟨⟨h1,h2,h3⟩,h4,h5,h6⟩:=h;match i with
 | 0=>exact h1
 | 1=>exact h2
 | 2=>exact h3
 | 3=>exact h4
 | 4=>exact h5
 | _+5=>exact h6
theorem wd_ofF {f:Nat→SpanD} (h:∀ i,WdS (f i)):WdX (ofF f):=⟨⟨h 0,h 1,h 2⟩,h 3,h 4,h 5⟩
theorem wd_hullB {a b:SpanD} (ha:WdS a) (hb:WdS b) (e:Int):WdS (doM hullB a b e).1:=by
 unfold doM;split
 ·exact wd_hull ha hb
 ·exact wd_zero
theorem quo8 {n:Int} (h0:0≤n):n.tdiv 8=n / 8:=Int.tdiv_eq_ediv_of_nonneg h0
theorem widened_any (cb:Nat) (e:Int) (b m:SixD) (hb:WdX b) (hm:WdX m) (w:World) (hk:Bk w cb 153 #[.int .i64 e]) :
  Calls Tryz.prog 164 #[.pointer (some ⟨cb,0,none⟩),sixV b,sixV m] w (CkSix cb (widenedM b m e) w):=by
 have HKC:=hZ hk;obtain ⟨fb,hfb⟩:=eX (sixF b);obtain ⟨fm,hfm⟩:=eX (sixF m);have HVB:Hid (sixV b=.agg (sixA fb)):=hZ (by rw [← hfb];rfl)
 have HVM:Hid (sixV m=.agg (sixA fm)):=hZ (by rw [← hfm];rfl)
 have hwb:∀ i,WdS (fb i):=by rw [← hfb];exact wd_sixF hb
 have hwm:∀ i,WdS (fm i):=by rw [← hfm];exact wd_sixF hm
 have HWK:Hid (∀ k i,WdS ((widK fb fm e k).1 i)):=hZ (wd_widK hwb);have HWM:=hZ hwm;have hr:widenedM b m e=(ofF (widK fb fm e 6).1,(widK fb fm e 6).2):=by unfold widenedM;rw [hfb,hfm]
 rw [hr];refine pQ fun PQ hPQ=>?_
 have HFIN:Hid (∀ w' f e',f=(widK fb fm e 6).1→e'=(widK fb fm e 6).2→Fr w [(cb,153,iC [e'])] [] w'→PQ (.returned (.agg (sixA f))) w'):=hZ fun w' f e' hf he h=>by
  rw [← hPQ];subst hf he;exact ⟨rfl,h⟩
 rw [HVB.out,HVM.out];clear hPQ hr hfb hfm hwb hwm hb hm HVB HVM;unfold sixA iC;simp only [List.map_cons,List.map_nil];obtain ⟨qb,W0,hqb,hW0,HF0⟩:=fM (Fr.start1 HKC.out) [(#[(fb 0).lo,(fb 0).hi,(fb 1).lo,(fb 1).hi,(fb 2).lo,(fb 2).hi,(fb 3).lo,(fb 3).hi,(fb 4).lo,(fb 4).hi,(fb 5).lo,(fb 5).hi],208),(#[(fm 0).lo,(fm 0).hi,(fm 1).lo,(fm 1).hi,(fm 2).lo,(fm 2).hi,(fm 3).lo,(fm 3).hi,(fm 4).lo,(fm 4).hi,(fm 5).lo,(fm 5).hi],208),(#[(0:Int),(0:Int),(0:Int),(0:Int),(0:Int),(0:Int),(0:Int),(0:Int),(0:Int),(0:Int),(0:Int),(0:Int)],208)];clear hk;go_enter Tryz.func164,Tryz.ntmps164;go_upto_region 1 with (fail);clear hW0 hqb;have HR0:Hid (Fr w [(cb,153,iC [(widK fb fm e 0).2])] [(qb,208,sixA (widK fb fm e 0).1),(qb+1,208,sixA fm),(qb+1+1,208,iC [0,0,0,0,0,0,0,0,0,0,0,0])] W0):=hZ HF0.out;go_wp2_with fail
 go_loopw [12] (fun iv wr=>∃ i:Nat,i≤6∧iv=.int .i64 i∧Hid (Fr w [(cb,153,iC [(widK fb fm e i).2])] [(qb,208,sixA (widK fb fm e i).1),(qb+1,208,sixA fm),(qb+1+1,208,iC [0,0,0,0,0,0,0,0,0,0,0,0])] wr)) (fun iv _=>6 - (intOf iv).toNat)
 case atStart=>exact ⟨0,Nat.zero_le _,rfl,HR0⟩
 case round =>
  obtain ⟨wo,rfl⟩:∃ wo:World,wo=wr:=⟨_,rfl⟩;obtain ⟨i,hi,rfl,hs⟩:=hrel;have h0i:(0:Int)≤(i:Int):=by omega
  by_cases hlt:i<6
  ·have hki:(i:Int)<6:=by omega
   have hsucc:widK fb fm e (i+1)=(updS (widK fb fm e i).1 i (widen1M ((widK fb fm e i).1 i) (fm i) (widK fb fm e i).2).1,(widen1M ((widK fb fm e i).1 i) (fm i) (widK fb fm e i).2).2):=rfl;have HNEXT:Hid (∀ w' f' e',widK fb fm e (i+1)=(f',e')→Fr w [(cb,153,iC [e'])] [(qb,208,sixA f'),(qb+1,208,sixA fm),(qb+1+1,208,iC [0,0,0,0,0,0,0,0,0,0,0,0])] w'→Hid (Fr w [(cb,153,iC [(widK fb fm e (i+1)).2])] [(qb,208,sixA (widK fb fm e (i+1)).1),(qb+1,208,sixA fm),(qb+1+1,208,iC [0,0,0,0,0,0,0,0,0,0,0,0])] w')):=hZ fun w' f' e' he h=>by rw [he];exact hZ h
   have HSU:=hZ hsucc;have hwf:=HWK.out i;obtain ⟨⟨f,ei⟩,hfe⟩:=eX (widK fb fm e i);rw [hfe] at hs HSU hwf;dsimp only at hs HSU hwf;have HFR:=hZ hs.out;have HSEGB:=six_seg f hlt;have HSEGM:=six_seg fm hlt;have HUPD:=six_upd f hlt;have hwm:=HWM.out i;have HWI:=hZ (fun w=>within_any (fm i) (f i) hwm (hwf i) w);have HHU:=fun w hk=>cdo_any cb ei 188 hullB (fun a b w ha hb=>hullS_any a b ha hb w) (fun args w=>by kernel_rfl) (f i) (fm i) (hwf i) hwm w hk
   have hwh:=wd_hullB (hwf i) hwm ei;obtain ⟨rw',hrw⟩:=eX (withinB (fm i) (f i));unfold widen1M at HSU;rw [hrw] at HWI HSU;obtain ⟨x,hx⟩:=eX (f i);obtain ⟨y,hy⟩:=eX (fm i);rw [hx] at HSEGB HWI HHU hwh HSU;rw [hy] at HSEGM HWI HHU hwh HSU;have HX:=hZ hx;obtain ⟨xl,xh⟩:=x;obtain ⟨yl,yh⟩:=y;unfold spanV at HWI HHU;dsimp only at HWI HHU HSEGB HSEGM;have HSB:=hZ HSEGB;have HSM:=hZ HSEGM;clear hs hsucc hfe hrw hx hy hwf hwm HSEGB HSEGM;go_upto_region 4 with (fail);refine wr0 (rV [.int .i64 (i:Int),.pointer (some ⟨qb+1,i * 2,none⟩),.agg #[yl,yh],.int .i64 (i:Int),.pointer (some ⟨qb,i * 2,none⟩),.agg #[xl,xh],.bool rw']) HFR.out ?_ ?_
   ·refine ⟨?_,?_,?_,?_,?_,?_,?_,trivial⟩
    all_goals intro a w1 vs dn k K S hpre KE DE kk
    ·have e7:=KE 7;go_simp;exact kk _ _
    ·have e5:=KE 5;have e15:=dep (DE 0 15);go_simp;exact kk _ _
    ·have e16:=dep (DE 1 16);exact wpo_loadF 31 (.tmp 16) rfl (qb+1) (i * 2) (by simpa [Act.eval] using e16) _ _ (S.fr.left.get 1 rfl) #[yl,yh] (HSM.out) _ u_span rfl i_span (kk _ _)
    ·have e7:=KE 7;go_simp;exact kk _ _
    ·have e4:=KE 4;have e18:=dep (DE 3 18);go_simp;exact kk _ _
    ·have e19:=dep (DE 4 19);exact wpo_loadF 31 (.tmp 19) rfl qb (i * 2) (by simpa [Act.eval] using e19) _ _ (S.fr.left.get 0 rfl) #[xl,xh] (HSB.out) _ u_span rfl i_span (kk _ _)
    ·have e17:=dep (DE 2 17);have e20:=dep (DE 5 20);exact oE rfl (HWI.out w1) (by simp [Act.eval,e17,e20]) @kk
   ·intro vs w1 HFr HR;have v6:vs 6=.bool rw':=HR 6 _ rfl;have HF1:=hZ HFr;clear HFr HR;simp only [putAll,Act.put,List.setIfInBounds_toArray,List.set_cons_zero,List.set_cons_succ,v6];clear v6;cases rw' with
    | false =>
     rw [if_neg (by decide)] at HSU
     obtain ⟨⟨⟨hl,hh⟩,e1⟩,hh1⟩:=eX (doM hullB ⟨xl,xh⟩ ⟨yl,yh⟩ ei);rw [hh1] at HHU HSU hwh;dsimp only at HHU HSU hwh;have HWD:=fun w=>wide_any ⟨hl,hh⟩ hwh w;have hrg:=wide_range hwh;obtain ⟨⟨wd,we⟩,hwd⟩:=eX (wideB ⟨hl,hh⟩);rw [hwd] at HWD HSU hrg;dsimp only at HWD HSU hrg;have hq:=quo8 hrg.1;obtain ⟨q,hqq⟩:=eX (wd / 8);obtain ⟨by',hby⟩:=eX (q+65536)
     rw [hqq] at hq HSU;rw [hby] at HSU;have m1:IntKind.i64.wrap q=q:=IntWalk.i64_in _ (by omega)
     have m1':wrap64 q=q:=w64_in (by omega) (by omega)
     have m2:IntKind.i64.wrap (q+65536)=by':=by rw [hby];exact IntWalk.i64_in _ (by omega)
     have m2':wrap64 (q+65536)=by':=by rw [hby];exact w64_in (by omega) (by omega)
     have m3:IntKind.i64.wrap (-by')=-by':=IntWalk.i64_in _ (by omega)
     have m3':wrap64 (-by')=-by':=w64_in (by omega) (by omega)
     have hwby:WdS ⟨-by',by'⟩:=by unfold WdS;dsimp only;omega
     have HAD:=fun e2 w hk=>cdo_any cb e2 65 addB (fun a b w ha hb=>add_any a b ha hb w) (fun args w=>by kernel_rfl) ⟨hl,hh⟩ ⟨-by',by'⟩ hwh hwby w hk
     unfold CkPost spanV at HHU HAD;unfold spanV at HWD;dsimp only at HHU HAD HWD;replace HHU:=hZ HHU;replace HAD:=hZ HAD;replace HWD:=hZ HWD;clear hh1 hwh hrg hwd hqq hby hwby;go_upto_region 5 with (fail);refine wrf [.p,.p,.p,.p,.p,.p,.p,.c 0,.a 0,.c 1] [7,9] [(8,31,fun k=>(if k≤1 then iC [0,0] else iC [hl,hh]))] (fun k=>[(cb,153,(if k≤0 then iC [ei] else iC [e1]))]) (fun _=>_) (fun ix u _=>match ix with
         | 0=>u=.pointer (some ⟨cb,0,none⟩)
         | 1=>u=.int .i64 (i:Int)
         | 2=>u=.pointer (some ⟨qb,i * 2,none⟩)
         | 3=>u=.agg #[xl,xh]
         | 4=>u=.int .i64 (i:Int)
         | 5=>u=.pointer (some ⟨qb+1,i * 2,none⟩)
         | 6=>u=.agg #[yl,yh]
         | 7=>u=.agg #[hl,hh]
         | 8=>u=.pointer (some ⟨gOf u,0,none⟩)
         | _=>True) [8] HF1.out ?_ ?_
     ·refine ⟨?_,?_,?_,?_,?_,?_,?_,?_,?_,?_,trivial⟩
      all_goals intro a w1 vs dn k K S hpre KE DE kk
      ·have e0:=KE 0;go_simp;exact kk _ _
      ·have e7:=KE 7;go_simp;exact kk _ _
      ·have e4:=KE 4;have e23:=dep (DE 1 23);go_simp;exact kk _ _
      ·have e24:=dep (DE 2 24);exact wpo_loadF 31 (.tmp 24) rfl qb (i * 2) (by simpa [Act.eval] using e24) _ _ (S.fr.left.get 0 rfl) #[xl,xh] (HSB.out) _ u_span rfl i_span (kk _ _)
      ·have e7:=KE 7;go_simp;exact kk _ _
      ·have e5:=KE 5;have e26:=dep (DE 4 26);go_simp;exact kk _ _
      ·have e27:=dep (DE 5 27);exact wpo_loadF 31 (.tmp 27) rfl (qb+1) (i * 2) (by simpa [Act.eval] using e27) _ _ (S.fr.left.get 1 rfl) #[yl,yh] (HSM.out) _ u_span rfl i_span (kk _ _)
      ·subst hpre;have e22:=dep (DE 0 22);have e25:=dep (DE 3 25);have e28:=dep (DE 6 28);exact oD rfl (HHU.out w1 (S.fr.getO 0 rfl)) (by simp [Act.eval,e22,e25,e28]) fun w' hb=>kk _ _ (by simp) (Fr.stage (S.fr.turnO 0 rfl hb) (by exact ⟨rfl,trivial⟩))
      ·go_simp;exact kk _ _ (by simp) (by have h:=S.fr.alloc rfl 31 #[.int .i64 0,.int .i64 0];show Fr _ _ (_ ++ [(_,31,if k≤1 then _ else _)]) _;rw [if_pos (S.hi 1 9 rfl rfl)];exact h) rfl
      ·subst hpre;have e8:=dep (DE 8 8);have e29:=dep (DE 7 29);have HS:=Fr.done S.fr (by exact ⟨S.done 8 rfl,trivial⟩)
       exact oW (eT e8) (eT e29) (HS.get 3 rfl) i_span fun w' hk ho=>kk _ _ (by simp) (Fr.undone (HS.only 3 rfl ho hk) (by exact ⟨S.done 8 rfl,trivial⟩)) trivial
     ·intro vs wf HFr HR;have HFr':Fr w [(cb,153,iC [e1])] [(qb,208,sixA f),(qb+1,208,sixA fm),(qb+1+1,208,iC [0,0,0,0,0,0,0,0,0,0,0,0]),((gOf (vs 8)),31,iC [hl,hh])] wf:=HFr;have v8:vs 8=.pointer (some ⟨(gOf (vs 8)),0,none⟩):=HR 8 _ rfl;clear HFr HR;obtain ⟨g2_8,hg2_8⟩:=eX (gOf (vs 8));rw [hg2_8] at HFr';rw [hg2_8] at v8;clear hg2_8;have HF2:=hZ HFr';clear HFr';simp only [putAll,Act.put,List.setIfInBounds_toArray,List.set_cons_zero,List.set_cons_succ];simp only [v8];clear v8;obtain ⟨w2,rfl⟩:∃ u:World,u=wf:=⟨_,rfl⟩;go_wp2_with (refine lS (gN HF2 3) hl hh ?_)
      refine mB HF2.out (HWD.out _) fun w3 HF4=>?_;by_cases he:e1=0
      ·subst he;rw [if_pos rfl] at HSU;have c5:=cA (HF4.out.getO 0 rfl) 0;go_wp2_with (first
         | (refine lS (gN HF7 3) hl hh ?_)
         | (refine wpStoreCell rfl rfl 41 _ _ rfl cb 0 rfl (.int .i64 we) rfl _ _ (HF4.out.getO 0 rfl) (by show 0<1;omega) rfl (by kernel_rfl) ?_;intro w6 hk ho;clear c5;have HF7:=fN (HF4.out.onlyO 0 rfl ho hk);clear ho hk))
       obtain ⟨⟨⟨rl,rh⟩,re⟩,hre⟩:=eX (doM addB ⟨hl,hh⟩ ⟨-by',by'⟩ we)
       have HA2:=HAD.out we;rw [hre] at HA2 HSU;dsimp only at HA2 HSU;have HUP2:=hZ (HUPD ⟨rl,rh⟩);clear hre HUPD;refine (HA2 _ (HF7.out.getO 0 rfl)).mono ?_
       rintro e w8 ⟨rfl,hw⟩;have HF9:=fN (HF7.out.turnO 0 rfl hw);clear hw;clear HA2;go_wp2_with (refine wpStoreF rfl rfl 31 _ _ rfl qb (i * 2) rfl #[rl,rh] rfl _ _ (sixA (updS f i ⟨rl,rh⟩)) (HF9.out.get 0 rfl) (HUP2.out) (by show i * 2+2≤12;omega) (one_all rfl) i_span ?_;intro w10 hk ho;have HF11:=fN (HF9.out.only 0 rfl ho hk);clear ho hk)
       go_roundw
       case rel=>exact ⟨i+1,by omega,by go_num,HNEXT.out _ _ _ HSU.out (HF11.out.sub (List.sublist_append_left [_,_,_] _))⟩
       case measure=>simp [intOf];omega
      ·have hb2:(e1 == 0)=false:=by simpa using he
       rw [if_neg he] at HSU;clear he;have c5:=cA (HF4.out.getO 0 rfl) 0;go_wp2_with (refine lS (gN HF4 3) hl hh ?_)
       clear c5;obtain ⟨⟨⟨rl,rh⟩,re⟩,hre⟩:=eX (doM addB ⟨hl,hh⟩ ⟨-by',by'⟩ e1)
       have HA2:=HAD.out e1;rw [hre] at HA2 HSU;dsimp only at HA2 HSU;have HUP2:=hZ (HUPD ⟨rl,rh⟩);clear hre HUPD;refine (HA2 _ (HF4.out.getO 0 rfl)).mono ?_
       rintro e w6 ⟨rfl,hw⟩;have HF7:=fN (HF4.out.turnO 0 rfl hw);clear hw;clear HA2;go_wp2_with (refine wpStoreF rfl rfl 31 _ _ rfl qb (i * 2) rfl #[rl,rh] rfl _ _ (sixA (updS f i ⟨rl,rh⟩)) (HF7.out.get 0 rfl) (HUP2.out) (by show i * 2+2≤12;omega) (one_all rfl) i_span ?_;intro w8 hk ho;have HF9:=fN (HF7.out.only 0 rfl ho hk);clear ho hk)
       go_roundw
       case rel=>exact ⟨i+1,by omega,by go_num,HNEXT.out _ _ _ HSU.out (HF9.out.sub (List.sublist_append_left [_,_,_] _))⟩
       case measure=>simp [intOf];omega
    | true =>
     have hupd:updS f i ⟨xl,xh⟩=f:=by
      funext j
      unfold updS;split
      ·rename_i h;rw [h,HX.out]
      ·rfl
     rw [if_pos rfl] at HSU;dsimp only at HSU;rw [hupd] at HSU;clear hupd HHU hwh HUPD;go_wp2_with fail
     go_roundw
     case rel=>exact ⟨i+1,by omega,by go_num,HNEXT.out _ _ _ HSU.out HF1.out⟩
     case measure=>simp [intOf];omega
  ·obtain rfl:i=6:=by omega
   have hki:¬ (6:Int)<6:=by decide
   obtain ⟨⟨f,ei⟩,hfe⟩:=eX (widK fb fm e 6);rw [hfe] at hs HFIN;dsimp only at hs HFIN;have HFR:=hZ hs.out;clear hs hfe;go_wp2_with (first
     | (refine lF (gN HFR 0) #[(f 0).lo,(f 0).hi,(f 1).lo,(f 1).hi,(f 2).lo,(f 2).hi,(f 3).lo,(f 3).hi,(f 4).lo,(f 4).hi,(f 5).lo,(f 5).hi] u_208 i_208 ?_)
     | (refine sF 2 (iC [(f 0).lo,(f 0).hi,(f 1).lo,(f 1).hi,(f 2).lo,(f 2).hi,(f 3).lo,(f 3).hi,(f 4).lo,(f 4).hi,(f 5).lo,(f 5).hi]) HFR.out i_208 fun w1 HF2=>?_))
   refine ret_agg rfl rfl rfl (HF2.out.get 2 rfl) u_208 rfl i_208 ?_
   exact HFIN.out _ _ _ rfl rfl HF2.out.drop

def tubeK (F:SixD→SpanD→CM BoxD) (x:SixD) (d m:SpanD):Nat→SixD→Int→(SixD × Bool) × Int
 | 0,b,e=>((b,false),e)
 | n+1,b,e =>
  if (reachedM x d b.v (F b m e).1 (F b m e).2).2 ≠ 0 then ((b,false),(reachedM x d b.v (F b m e).1 (F b m e).2).2)
  else if (widenedM b (reachedM x d b.v (F b m e).1 (F b m e).2).1 (reachedM x d b.v (F b m e).1 (F b m e).2).2).1=b then
   (((reachedM x d b.v (F b m e).1 (F b m e).2).1,true),(widenedM b (reachedM x d b.v (F b m e).1 (F b m e).2).1 (reachedM x d b.v (F b m e).1 (F b m e).2).2).2)
  else tubeK F x d m n (widenedM b (reachedM x d b.v (F b m e).1 (F b m e).2).1 (reachedM x d b.v (F b m e).1 (F b m e).2).2).1 (widenedM b (reachedM x d b.v (F b m e).1 (F b m e).2).1 (reachedM x d b.v (F b m e).1 (F b m e).2).2).2
theorem wd_widened {b:SixD} (hb:WdX b) (m:SixD) (e:Int):WdX (widenedM b m e).1:=wd_ofF (wd_widK (wd_sixF hb) 6)
theorem wd_reached (x:SixD) (d:SpanD) (v f:BoxD) (e:Int):WdX (reachedM x d v f e).1:=by
 unfold reachedM CM.bnd CM.ret;exact ⟨wd_each wd_addM _ _ _,wd_each wd_addM _ _ _⟩
theorem eq_sp (a b c d:Int) (w:World):(Op.equalIn 9999 31 (.agg #[.int .i64 a,.int .i64 b]) (.agg #[.int .i64 c,.int .i64 d])).run Tryz.prog w=.ok (decide (a=c∧b=d)) w:=by
 rw [run_equalIn_struct w 9998 _ _ _ (by kernel_rfl) (by kernel_rfl)]
 go_simp;by_cases h1:a=c <;> by_cases h2:b=d <;> simp [h1,h2]
theorem eq_item {is:List Nat} (f g:Nat→SpanD) (w:World) (h:∀ i ∈ is,i<6):(Op.eqItems 9999 31 2 (sixA f) (sixA g) is).run Tryz.prog w=.ok (is.all fun i=>decide (f i=g i)) w:=by
 induction is with
 | nil=>rfl
 | cons i is ih =>
  have hi:=h i (by simp)
  have hp:∀ f:Nat→SpanD,(part 31 (sixA f) (i * 2)).run Tryz.prog w=.ok (.agg #[.int .i64 (f i).lo,.int .i64 (f i).hi]) w:=fun f=>by
   have h6:i=0 ∨ i=1 ∨ i=2 ∨ i=3 ∨ i=4 ∨ i=5:=by omega
   clear ih h hi;rcases h6 with rfl | rfl | rfl | rfl | rfl | rfl <;> exact Eq.refl _
  have hd:decide ((f i).lo=(g i).lo∧(f i).hi=(g i).hi)=decide (f i=g i):=by
   rw [Bool.eq_iff_iff];cases f i;cases g i
   simp
  simp only [Op.eqItems,Sem.run_bind,hp f,hp g,Result.andThen_ok,eq_sp,hd,List.all_cons];by_cases h1:f i=g i
  ·simp only [h1,decide_true,Bool.not_true,Bool.false_eq_true,if_false,Bool.true_and];exact ih fun j hj=>h j (by simp [hj])
  ·simp only [h1,decide_false,Bool.not_false,if_true,Bool.false_and];rfl
theorem eql_six (x y:SixD) (w:World):(binOp .eql 208 (sixV x) (sixV y)).run Tryz.prog w=.ok (.bool (decide (x=y))) w:=by
 have hx:sixV x=.agg (sixA (sixF x)):=rfl;have hy:sixV y=.agg (sixA (sixF y)):=rfl;have e6:([0,1,2,3,4,5].all fun i=>decide (sixF x i=sixF y i))=decide (x=y):=by
  obtain ⟨⟨a,b,c⟩,d,f,g⟩:=x;obtain ⟨⟨a',b',c'⟩,d',f',g'⟩:=y;rw [Bool.eq_iff_iff];simp [sixF,and_assoc]
 obtain ⟨ii,hi,_⟩:=Option.map_eq_some_iff.1 i_span;rw [hx,hy,run_eql_struct,run_equalIn_array w 9999 (t:=208) _ _ (n:=6) (e:=31) (by kernel_rfl) hi]
 have h2:(Tryz.prog).cellsOf 31=2:=by kernel_rfl
 rw [h2,show List.range 6=[0,1,2,3,4,5] from rfl,eq_item _ _ _ (by simp),e6]
 rfl
theorem tube_any (F:SixD→SpanD→CM BoxD) (B:Nat) (p:PlanetD) (a:ArcD) (A:Option Addr) (n c:Nat) (cb:Nat) (hB:B≤cb) (e:Int) (x:SixD) (d m:SpanD) (hx:WdX x) (hd:WdS d) (_:WdS m) (w:World)
  (hF:∀ e x w',Below B w w'→WdX x→Bk w' cb 153 #[.int .i64 e]→Calls Tryz.prog 121 #[modelV p a A n c,.pointer (some ⟨cb,0,none⟩),sixV x,spanV m] w' (CkBox cb (F x m e) w'))
  (hFw:∀ x e,WdB (F x m e).1) (hk:Bk w cb 153 #[.int .i64 e]) :
  Calls Tryz.prog 120 #[modelV p a A n c,.pointer (some ⟨cb,0,none⟩),sixV x,spanV d,spanV m] w fun v w' =>
   v=.returned (.tuple #[sixV (tubeK F x d m 8 x e).1.1,.bool ((tubeK F x d m 8 x e).1.2 && decide ((tubeK F x d m 8 x e).2=0))])∧Fr w [(cb,153,#[.int .i64 (tubeK F x d m 8 x e).2])] [] w':=by
 have HKC:=hZ hk;obtain ⟨K,hK⟩:=eX (tubeK F x d m);obtain ⟨R,hR⟩:=eX (K 8 x e);have HK0:Hid (∀ b e,K 0 b e=((b,false),e)):=hZ fun b e=>by rw [← hK];rfl
 have HKS:Hid (∀ n b e f ef,F b m e=(f,ef)→∀ mo er,reachedM x d b.v f ef=(mo,er)→∀ nx en,widenedM b mo er=(nx,en)→K (n+1) b e=if er ≠ 0 then ((b,false),er) else if nx=b then ((mo,true),en) else K n nx en):=hZ fun n b e f ef h1 mo er h2 nx en h3=>by
  rw [← hK];show tubeK F x d m (n+1) b e=_
  rw [tubeK];simp only [h1,h2,h3]
 have HRE:=hZ (fun e v f hv hf w hk=>reached_any cb e x d v f hx hd hv hf w hk);have HWX:Hid (∀ v f e,WdX (reachedM x d v f e).1):=hZ fun v f e=>wd_reached x d v f e;have HFO:=hZ hF;have HFW:=hZ hFw;have HXX:=hZ hx;obtain ⟨PQ,hPQ⟩:∃ Q:Ending→World→Prop,(fun v w'=>v=.returned (.tuple #[sixV R.1.1,.bool (R.1.2 && decide (R.2=0))])∧Fr w [(cb,153,#[.int .i64 R.2])] [] w')=Q:=⟨_,rfl⟩;have HFIN:Hid (∀ w' b q e' r,R=((b,q),e')→r=(q && decide (e'=0))→Fr w [(cb,153,iC [e'])] [] w'→PQ (.returned (.tuple #[sixV b,.bool r])) w'):=hZ fun w' b q e' r h hr hf=>by
  rw [← hPQ,h,hr];exact ⟨rfl,hf⟩
 rw [hK,hR,hPQ];have HR:=hZ hR;obtain ⟨GF,hGF⟩:∃ G:SixD→Int→BoxD × Int,(fun b e=>F b m e)=G:=⟨_,rfl⟩;have HGF:Hid (∀ b e,F b m e=GF b e):=hZ fun b e=>by rw [← hGF]
 obtain ⟨RM,hRM⟩:∃ G:BoxD→BoxD→Int→SixD × Int,(fun v f e=>reachedM x d v f e)=G:=⟨_,rfl⟩;have HRM:Hid (∀ v f e,reachedM x d v f e=RM v f e):=hZ fun v f e=>by rw [← hRM]
 simp only [HGF.out] at HKS HFO HFW;simp only [HRM.out] at HKS HRE HWX;clear hF hFw hK hR hPQ hx hd hk hGF hRM HGF HRM;obtain ⟨⟨mul,muh⟩,⟨rl,rh⟩,⟨ol,oh⟩,⟨sl,sh⟩,⟨⟨pxl,pxh⟩,⟨pyl,pyh⟩,⟨pzl,pzh⟩⟩⟩:=p;obtain ⟨time,step,⟨tl,th⟩,⟨fl,fh⟩,⟨⟨dxl,dxh⟩,⟨dyl,dyh⟩,⟨dzl,dzh⟩⟩,drag,⟨dl,dh⟩⟩:=a;obtain ⟨ml,mh⟩:=m;obtain ⟨ql,qh⟩:=d;obtain ⟨⟨⟨axl,axh⟩,⟨ayl,ayh⟩,⟨azl,azh⟩⟩,⟨⟨bxl,bxh⟩,⟨byl,byh⟩,⟨bzl,bzh⟩⟩⟩:=x;unfold modelV spanV at HFO;unfold spanV at HRE;unfold modelV sixV spanV;unfold sixV at HRE;dsimp only at HFO HRE ⊢;obtain ⟨qb,W0,hqb,hW0,HF0⟩:=fM (Fr.start1 HKC.out) [(#[mul,muh,rl,rh,ol,oh,sl,sh,pxl,pxh,pyl,pyh,pzl,pzh,time,step,tl,th,fl,fh,dxl,dxh,dyl,dyh,dzl,dzh,.slice A n c,dl,dh],160),(#[axl,axh,ayl,ayh,azl,azh,bxl,bxh,byl,byh,bzl,bzh],208),(#[ql,qh],31),(#[ml,mh],31),(#[(0:Int),(0:Int),(0:Int),(0:Int),(0:Int),(0:Int),(0:Int),(0:Int),(0:Int),(0:Int),(0:Int),(0:Int)],208)];go_enter Tryz.func120,Tryz.ntmps120;go_upto_region 1 with (fail);clear hW0 hqb;go_step3
 obtain ⟨g1,hg1⟩:=eX W0.heap.size;obtain ⟨w1,hw1⟩:=eX (W0.alloc (.cells #[(0:Int),(0:Int),(0:Int),(0:Int),(0:Int),(0:Int),(0:Int),(0:Int),(0:Int),(0:Int),(0:Int),(0:Int)] 208));have HF2:=fE hw1 (HF0.out.alloc hg1.symm 208 #[(0:Int),(0:Int),(0:Int),(0:Int),(0:Int),(0:Int),(0:Int),(0:Int),(0:Int),(0:Int),(0:Int),(0:Int)]);go_wp2_with (first
   | (refine lF (gN HF0 1) #[axl,axh,ayl,ayh,azl,azh,bxl,bxh,byl,byh,bzl,bzh] u_208 i_208 ?_)
   | (refine sW 5 HF2.out i_208 fun w3 HF4=>?_;clear hw1 hg1))
 have HREL:Hid (∃ b e' k,WdX b∧K k b e'=R∧k=8∧Hid (Fr w [(cb,153,iC [e'])] [(qb,160,#[mul,muh,rl,rh,ol,oh,sl,sh,pxl,pxh,pyl,pyh,pzl,pzh,time,step,tl,th,fl,fh,dxl,dxh,dyl,dyh,dzl,dzh,.slice A n c,dl,dh]),(qb+1,208,iC [axl,axh,ayl,ayh,azl,azh,bxl,bxh,byl,byh,bzl,bzh]),(qb+1+1,31,iC [ql,qh]),(qb+1+1+1,31,iC [ml,mh]),(qb+1+1+1+1,208,iC [0,0,0,0,0,0,0,0,0,0,0,0]),(g1,208,iC [b.p.x.lo,b.p.x.hi,b.p.y.lo,b.p.y.hi,b.p.z.lo,b.p.z.hi,b.v.x.lo,b.v.x.hi,b.v.y.lo,b.v.y.hi,b.v.z.lo,b.v.z.hi])] w3)):=hZ ⟨⟨⟨⟨axl,axh⟩,⟨ayl,ayh⟩,⟨azl,azh⟩⟩,⟨bxl,bxh⟩,⟨byl,byh⟩,⟨bzl,bzh⟩⟩,e,8,HXX.out,HR.out,rfl,HF4⟩;clear HXX HR;go_step3
 go_wp2_with fail
 go_loopw [18,13] (fun iv fv wr=>fv=.bool false∧∃ i:Nat,i≤8∧iv=.int .i64 i∧Hid (∃ b e' k,WdX b∧K k b e'=R∧k=8 - i∧Hid (Fr w [(cb,153,iC [e'])] [(qb,160,#[mul,muh,rl,rh,ol,oh,sl,sh,pxl,pxh,pyl,pyh,pzl,pzh,time,step,tl,th,fl,fh,dxl,dxh,dyl,dyh,dzl,dzh,.slice A n c,dl,dh]),(qb+1,208,iC [axl,axh,ayl,ayh,azl,azh,bxl,bxh,byl,byh,bzl,bzh]),(qb+1+1,31,iC [ql,qh]),(qb+1+1+1,31,iC [ml,mh]),(qb+1+1+1+1,208,iC [0,0,0,0,0,0,0,0,0,0,0,0]),(g1,208,iC [b.p.x.lo,b.p.x.hi,b.p.y.lo,b.p.y.hi,b.p.z.lo,b.p.z.hi,b.v.x.lo,b.v.x.hi,b.v.y.lo,b.v.y.hi,b.v.z.lo,b.v.z.hi])] wr))) (fun iv _ _=>8 - (intOf iv).toNat)
 case atStart=>exact ⟨rfl,0,Nat.zero_le _,rfl,HREL⟩
 case round =>
  obtain ⟨wo,rfl⟩:∃ wo:World,wo=wr:=⟨_,rfl⟩;obtain ⟨rfl,i,hi,rfl,hs⟩:=hrel;obtain ⟨b,e1,k,hb,hkr,hk8,hfr⟩:=hs.out;have HB:=hZ hb;have HKR:=hZ hkr;have HFR:=hZ hfr.out;clear hb hkr hfr hs;have h0i:(0:Int)≤(i:Int):=by omega
  by_cases hlt:i<8
  ·have hki:(i:Int)<8:=by omega
   obtain ⟨j,rfl⟩:∃ j,k=j+1:=⟨k - 1,by omega⟩
   obtain ⟨⟨f,ef⟩,hf⟩:=eX (GF b e1);have H121:=fun w' hw=>HFO.out e1 b w' hw HB.out;have wf:=HFW.out b e1;rw [hf] at H121 wf;obtain ⟨⟨mo,er⟩,hm⟩:=eX (RM b.v f ef);have H163:=HRE.out ef b.v f HB.out.2 wf;have wm:=HWX.out b.v f ef;rw [hm] at H163 wm;have H164:=fun w hk=>widened_any cb er b mo HB.out wm w hk;have wn:=wd_widened HB.out mo er;obtain ⟨⟨nx,en⟩,hn⟩:=eX (widenedM b mo er);rw [hn] at H164 wn;have HST:=HKS.out j b e1 f ef hf mo er hm nx en hn;rw [HKR.out] at HST;have H125:=fun w=>speed_any b w;have HEQ:=fun w=>eql_six nx b w;have HWN:=hZ wn;have HBEL:Hid (∀ w' X,Fr w [(cb,153,iC [e1])] X w'→Below B w w'):=hZ fun w' X h=>h.belowAt (by simpa using hB) (Nat.le_trans hB (Nat.le_of_lt HKC.out.lt))
   obtain ⟨q,hq⟩:∃ q,decide (nx=b)=q:=⟨_,rfl⟩;rw [hq] at HEQ;have HQ:=hZ hq;have HS2:=hZ HST;clear hf wf hm wm hn wn HST hq HKR HFO HFW HRE HWX HKS HB;obtain ⟨⟨⟨bpxl,bpxh⟩,⟨bpyl,bpyh⟩,⟨bpzl,bpzh⟩⟩,⟨bvxl,bvxh⟩,⟨bvyl,bvyh⟩,⟨bvzl,bvzh⟩⟩:=b;obtain ⟨⟨⟨mpxl,mpxh⟩,⟨mpyl,mpyh⟩,⟨mpzl,mpzh⟩⟩,⟨mvxl,mvxh⟩,⟨mvyl,mvyh⟩,⟨mvzl,mvzh⟩⟩:=mo;obtain ⟨⟨⟨npxl,npxh⟩,⟨npyl,npyh⟩,⟨npzl,npzh⟩⟩,⟨nvxl,nvxh⟩,⟨nvyl,nvyh⟩,⟨nvzl,nvzh⟩⟩:=nx;obtain ⟨⟨fxl,fxh⟩,⟨fyl,fyh⟩,⟨fzl,fzh⟩⟩:=f;unfold CkBox sixV boxV at H121;unfold CkSix boxV sixV at H163;unfold CkSix sixV at H164;unfold sixV boxV at H125;unfold sixV at HEQ;dsimp only at H121 H163 H164 H125 HEQ;have HEQ2:=hZ HEQ;replace H121:=hZ H121;replace H163:=hZ H163;replace H164:=hZ H164;replace H125:=hZ H125;clear HEQ;go_upto_region 5 with (fail);go_wp2_with (first
     | (refine lF (gN HFR 0) #[mul,muh,rl,rh,ol,oh,sl,sh,pxl,pxh,pyl,pyh,pzl,pzh,time,step,tl,th,fl,fh,dxl,dxh,dyl,dyh,dzl,dzh,.slice A n c,dl,dh] u_160 i_160 ?_)
     | (refine lF (gN HFR 5) #[bpxl,bpxh,bpyl,bpyh,bpzl,bpzh,bvxl,bvxh,bvyl,bvyh,bvzl,bvzh] u_208 i_208 ?_)
     | (refine lS (gN HFR 3) ml mh ?_))
   refine (H121.out _ (HBEL.out _ _ HFR.out) (HFR.out.getO 0 rfl)).mono ?_
   rintro e w5 ⟨rfl,hw⟩;have HF6:=fN (HFR.out.turnO 0 rfl hw);clear hw;obtain ⟨g7,w7,hg7,hw7,HF8⟩:=fA HF6.out #[(0:Int),(0:Int),(0:Int),(0:Int),(0:Int),(0:Int)] 34;go_upto_region 6 with (refine sW 6 HF8.out i_34 fun w9 HF10=>?_;clear hw7 hg7)
   refine wrf [.p,.p,.p,.p,.p,.p,.c 0,.a 0,.c 1] [6,8] [(7,208,fun k=>(if k≤1 then iC [0,0,0,0,0,0,0,0,0,0,0,0] else iC [mpxl,mpxh,mpyl,mpyh,mpzl,mpzh,mvxl,mvxh,mvyl,mvyh,mvzl,mvzh]))] (fun k=>[(cb,153,(if k≤0 then iC [ef] else iC [er]))]) (fun _=>_) (fun ix u _=>match ix with
       | 0=>u=.pointer (some ⟨cb,0,none⟩)
       | 1=>u=.agg #[axl,axh,ayl,ayh,azl,azh,bxl,bxh,byl,byh,bzl,bzh]
       | 2=>u=.agg #[ql,qh]
       | 3=>u=.agg #[bpxl,bpxh,bpyl,bpyh,bpzl,bpzh,bvxl,bvxh,bvyl,bvyh,bvzl,bvzh]
       | 4=>u=.agg #[bvxl,bvxh,bvyl,bvyh,bvzl,bvzh]
       | 5=>u=.agg #[fxl,fxh,fyl,fyh,fzl,fzh]
       | 6=>u=.agg #[mpxl,mpxh,mpyl,mpyh,mpzl,mpzh,mvxl,mvxh,mvyl,mvyh,mvzl,mvzh]
       | 7=>u=.pointer (some ⟨gOf u,0,none⟩)
       | _=>True) [7] HF10.out ?_ ?_
   ·refine ⟨?_,?_,?_,?_,?_,?_,?_,?_,?_,trivial⟩
    all_goals intro a w1 vs dn k K S hpre KE DE kk
    ·have e1:=KE 1;go_simp;exact kk _ _
    ·exact oL (eT (KE 7)) (S.fr.left.get 1 rfl) u_208 (kk _ _) i_208
    ·exact oM (eT (KE 8)) (S.fr.left.get 2 rfl) (kk _ _)
    ·exact oL (eT (KE 12)) (S.fr.left.get 5 rfl) u_208 (kk _ _) i_208
    ·have e28:=dep (DE 3 28);exact oE rfl (H125.out w1) (by simp [Act.eval,e28]) @kk
    ·exact oL (eT (KE 14)) (S.fr.left.get 6 rfl) u_34 (kk _ _) i_34
    ·subst hpre;have e25:=dep (DE 0 25);have e26:=dep (DE 1 26);have e27:=dep (DE 2 27);have e29:=dep (DE 4 29);have e30:=dep (DE 5 30);exact oD rfl (H163.out w1 (S.fr.getO 0 rfl)) (by simp [Act.eval,e25,e26,e27,e29,e30]) fun w' hb=>kk _ _ (by simp) (Fr.stage (S.fr.turnO 0 rfl hb) (by exact ⟨rfl,trivial⟩))
    ·go_simp;exact kk _ _ (by simp) (by have h:=S.fr.alloc rfl 208 #[(0:Int),(0:Int),(0:Int),(0:Int),(0:Int),(0:Int),(0:Int),(0:Int),(0:Int),(0:Int),(0:Int),(0:Int)];show Fr _ _ (_ ++ [(_,208,if k≤1 then _ else _)]) _;rw [if_pos (S.hi 1 8 rfl rfl)];exact h) rfl
    ·subst hpre;have e15:=dep (DE 7 15);have e31:=dep (DE 6 31);have HS:=Fr.done S.fr (by exact ⟨S.done 7 rfl,trivial⟩)
     exact oW (eT e15) (eT e31) (HS.get 7 rfl) i_208 fun w' hk ho=>kk _ _ (by simp) (Fr.undone (HS.only 7 rfl ho hk) (by exact ⟨S.done 7 rfl,trivial⟩)) trivial
   ·intro vs wf HFr HR;have HFr':Fr w [(cb,153,iC [er])] [(qb,160,#[mul,muh,rl,rh,ol,oh,sl,sh,pxl,pxh,pyl,pyh,pzl,pzh,time,step,tl,th,fl,fh,dxl,dxh,dyl,dyh,dzl,dzh,.slice A n c,dl,dh]),(qb+1,208,iC [axl,axh,ayl,ayh,azl,azh,bxl,bxh,byl,byh,bzl,bzh]),(qb+1+1,31,iC [ql,qh]),(qb+1+1+1,31,iC [ml,mh]),(qb+1+1+1+1,208,iC [0,0,0,0,0,0,0,0,0,0,0,0]),(g1,208,iC [bpxl,bpxh,bpyl,bpyh,bpzl,bpzh,bvxl,bvxh,bvyl,bvyh,bvzl,bvzh]),(g7,34,iC [fxl,fxh,fyl,fyh,fzl,fzh]),((gOf (vs 7)),208,iC [mpxl,mpxh,mpyl,mpyh,mpzl,mpzh,mvxl,mvxh,mvyl,mvyh,mvzl,mvzh])] wf:=HFr;have v7:vs 7=.pointer (some ⟨(gOf (vs 7)),0,none⟩):=HR 7 _ rfl;clear HFr HR;obtain ⟨g11_7,hg11_7⟩:=eX (gOf (vs 7));rw [hg11_7] at HFr';rw [hg11_7] at v7;clear hg11_7;have HF11:=hZ HFr';clear HFr';simp only [putAll,Act.put,List.setIfInBounds_toArray,List.set_cons_zero,List.set_cons_succ];simp only [v7];clear v7;obtain ⟨w11,rfl⟩:∃ u:World,u=wf:=⟨_,rfl⟩;by_cases he:er=0
    ·subst he;rw [if_neg (by simp)] at HS2
     have HS3:=hZ HS2.out;clear HS2;have c12:=cA (HF11.out.getO 0 rfl) 0;go_wp2_with (first
       | (refine lF (gN HF11 5) #[bpxl,bpxh,bpyl,bpyh,bpzl,bpzh,bvxl,bvxh,bvyl,bvyh,bvzl,bvzh] u_208 i_208 ?_)
       | (refine lF (gN HF11 7) #[mpxl,mpxh,mpyl,mpyh,mpzl,mpzh,mvxl,mvxh,mvyl,mvyh,mvzl,mvzh] u_208 i_208 ?_))
     clear c12;refine (H164.out _ (HF11.out.getO 0 rfl)).mono ?_
     rintro e w13 ⟨rfl,hw⟩;have HF14:=fN (HF11.out.turnO 0 rfl hw);clear hw;obtain ⟨g15,w15,hg15,hw15,HF16⟩:=fA HF14.out #[(0:Int),(0:Int),(0:Int),(0:Int),(0:Int),(0:Int),(0:Int),(0:Int),(0:Int),(0:Int),(0:Int),(0:Int)] 208;have he9:=HEQ2.out;clear HEQ2;cases q with
     | true =>
      have hne:=of_decide_eq_true HQ.out;rw [if_pos hne] at HS3;clear hne HQ;go_wp2_with (first
        | (refine lF (gN HF18 8) #[npxl,npxh,npyl,npyh,npzl,npzh,nvxl,nvxh,nvyl,nvyh,nvzl,nvzh] u_208 i_208 ?_)
        | (refine lF (gN HF18 5) #[bpxl,bpxh,bpyl,bpyh,bpzl,bpzh,bvxl,bvxh,bvyl,bvyh,bvzl,bvzh] u_208 i_208 ?_)
        | (refine lF (gN HF18 7) #[mpxl,mpxh,mpyl,mpyh,mpzl,mpzh,mvxl,mvxh,mvyl,mvyh,mvzl,mvzh] u_208 i_208 ?_)
        | (refine sW 8 HF16.out i_208 fun w17 HF18=>?_;clear hw15 hg15)
        | (refine sW 5 HF18.out i_208 fun w19 HF20=>?_))
      refine wrf [.p,.p,.p,.p,.p,.p,.p,.p,.p,.c 0,.p] [9] [] (fun _=>_) (fun k=>[(qb,160,#[mul,muh,rl,rh,ol,oh,sl,sh,pxl,pxh,pyl,pyh,pzl,pzh,time,step,tl,th,fl,fh,dxl,dxh,dyl,dyh,dzl,dzh,.slice A n c,dl,dh]),(qb+1,208,iC [axl,axh,ayl,ayh,azl,azh,bxl,bxh,byl,byh,bzl,bzh]),(qb+1+1,31,iC [ql,qh]),(qb+1+1+1,31,iC [ml,mh]),(qb+1+1+1+1,208,(if k≤0 then iC [0,0,0,0,0,0,0,0,0,0,0,0] else iC [mpxl,mpxh,mpyl,mpyh,mpzl,mpzh,mvxl,mvxh,mvyl,mvyh,mvzl,mvzh])),(g1,208,iC [mpxl,mpxh,mpyl,mpyh,mpzl,mpzh,mvxl,mvxh,mvyl,mvyh,mvzl,mvzh]),(g7,34,iC [fxl,fxh,fyl,fyh,fzl,fzh]),(g11_7,208,iC [mpxl,mpxh,mpyl,mpyh,mpzl,mpzh,mvxl,mvxh,mvyl,mvyh,mvzl,mvzh]),(g15,208,iC [npxl,npxh,npyl,npyh,npzl,npzh,nvxl,nvxh,nvyl,nvyh,nvzl,nvzh])]) (rM [(0,.agg #[mpxl,mpxh,mpyl,mpyh,mpzl,mpzh,mvxl,mvxh,mvyl,mvyh,mvzl,mvzh]),(1,.bool true),(2,.bool true),(3,.pointer (some ⟨cb,0,none⟩)),(4,.pointer (some ⟨cb,0,none⟩)),(5,.pointer (some ⟨cb,0,none⟩)),(6,.int .i64 en),(7,.bool (en == 0)),(8,.bool (en == 0)),(10,.bool (en == 0))]) [] HF20.out ?_ ?_
      ·refine ⟨?_,?_,?_,?_,?_,?_,?_,?_,?_,?_,?_,trivial⟩
       all_goals intro a w1 vs dn k K S hpre KE DE kk
       ·exact oL (eT (KE 12)) (S.fr.left.get 5 rfl) u_208 (kk _ _) i_208
       ·have e13:=KE 13;go_simp;exact kk _ _
       ·have e48:=dep (DE 1 48);go_simp;exact kk _ _
       ·have e1:=KE 1;refine wY 2 true (dep (DE 2 49)) ?_
        go_simp;exact kk _ _
       ·have e50:=dep (DE 3 50);refine wY 2 true (dep (DE 2 49)) ?_
        go_simp;exact kk _ _
       ·have e51:=dep (DE 4 51);refine wY 2 true (dep (DE 2 49)) ?_
        go_simp;exact kk _ _
       ·have e52:=dep (DE 5 52);refine wY 2 true (dep (DE 2 49)) ?_
        have ca:w1.cell? ⟨cb,0,none⟩=some (.int .i64 en):=(S.fr.getO 0 rfl).cell 0;go_simp;exact kk _ _
       ·have e53:=dep (DE 6 53);refine wY 2 true (dep (DE 2 49)) ?_
        go_simp;exact kk _ _
       ·have e49:=dep (DE 2 49);have e54:=dep (DE 7 54);go_simp;exact kk _ _
       ·subst hpre;exact oW (eT (KE 10)) (eT (dep (DE 0 47))) (gI (S.hi 0 9 rfl rfl) (S.fr.left.get 4 rfl)) i_208 fun w' hk ho=>kk _ _ (by simp) (Fr.stage (S.fr.only 4 rfl ho hk) (by exact trivial))
       ·have e55:=dep (DE 8 55);go_simp;exact kk _ _
      ·intro vs w21 HFr HR;have v10:vs 10=.bool (en == 0):=HR 10 _ rfl;have HF21:=fW HFr;clear HFr HR;simp only [putAll,Act.put,List.setIfInBounds_toArray,List.set_cons_zero,List.set_cons_succ,v10];clear v10;go_wp2_with fail
       try rw [Exit.noGoto_ret]
       refine ret_agg2 rfl rfl rfl (HF21.out.get 4 rfl) rfl u_208 rfl i_208 ?_
       exact HFIN.out _ ⟨⟨⟨mpxl,mpxh⟩,⟨mpyl,mpyh⟩,⟨mpzl,mpzh⟩⟩,⟨mvxl,mvxh⟩,⟨mvyl,mvyh⟩,⟨mvzl,mvzh⟩⟩ _ _ _ HS3.out (by rw [Bool.true_and];rfl) HF21.out.drop
     | false =>
      have hne:=of_decide_eq_false HQ.out;rw [if_neg hne] at HS3;clear hne HQ;go_wp2_with (first
        | (refine lF (gN HF18 8) #[npxl,npxh,npyl,npyh,npzl,npzh,nvxl,nvxh,nvyl,nvyh,nvzl,nvzh] u_208 i_208 ?_)
        | (refine lF (gN HF18 5) #[bpxl,bpxh,bpyl,bpyh,bpzl,bpzh,bvxl,bvxh,bvyl,bvyh,bvzl,bvzh] u_208 i_208 ?_)
        | (refine sW 8 HF16.out i_208 fun w17 HF18=>?_;clear hw15 hg15)
        | (refine sW 5 HF18.out i_208 fun w19 HF20=>?_))
      go_roundw
      case rel=>exact ⟨rfl,i+1,by omega,by go_num,hZ ⟨⟨⟨⟨npxl,npxh⟩,⟨npyl,npyh⟩,⟨npzl,npzh⟩⟩,⟨nvxl,nvxh⟩,⟨nvyl,nvyh⟩,⟨nvzl,nvzh⟩⟩,_,j,HWN.out,HS3.out.symm,by omega,hZ (HF20.out.sub (List.sublist_append_left [_,_,_,_,_,_] _))⟩⟩
      case measure=>simp [intOf];omega
    ·have hb2:(er != 0)=true:=by simpa using he
     rw [if_pos he] at HS2;have c12:=cA (HF11.out.getO 0 rfl) 0;go_wp2_with fail
     clear c12;refine wrf [.p,.p,.p,.p,.p,.p,.p,.p,.p,.c 0,.p] [9] [] (fun _=>_) (fun k=>[(qb,160,#[mul,muh,rl,rh,ol,oh,sl,sh,pxl,pxh,pyl,pyh,pzl,pzh,time,step,tl,th,fl,fh,dxl,dxh,dyl,dyh,dzl,dzh,.slice A n c,dl,dh]),(qb+1,208,iC [axl,axh,ayl,ayh,azl,azh,bxl,bxh,byl,byh,bzl,bzh]),(qb+1+1,31,iC [ql,qh]),(qb+1+1+1,31,iC [ml,mh]),(qb+1+1+1+1,208,(if k≤0 then iC [0,0,0,0,0,0,0,0,0,0,0,0] else iC [bpxl,bpxh,bpyl,bpyh,bpzl,bpzh,bvxl,bvxh,bvyl,bvyh,bvzl,bvzh])),(g1,208,iC [bpxl,bpxh,bpyl,bpyh,bpzl,bpzh,bvxl,bvxh,bvyl,bvyh,bvzl,bvzh]),(g7,34,iC [fxl,fxh,fyl,fyh,fzl,fzh]),(g11_7,208,iC [mpxl,mpxh,mpyl,mpyh,mpzl,mpzh,mvxl,mvxh,mvyl,mvyh,mvzl,mvzh])]) (rM [(0,.agg #[bpxl,bpxh,bpyl,bpyh,bpzl,bpzh,bvxl,bvxh,bvyl,bvyh,bvzl,bvzh]),(1,.bool false),(2,.bool false),(8,.bool false),(10,.bool false)]) [] HF11.out ?_ ?_
     ·refine ⟨?_,?_,?_,?_,?_,?_,?_,?_,?_,?_,?_,trivial⟩
      all_goals intro a w1 vs dn k K S hpre KE DE kk
      ·exact oL (eT (KE 12)) (S.fr.left.get 5 rfl) u_208 (kk _ _) i_208
      ·have e13:=KE 13;go_simp;exact kk _ _
      ·have e48:=dep (DE 1 48);go_simp;exact kk _ _
      iterate 5 exact wN 2 true (dep (DE 2 49)) (kk undef _)
      ·have e49:=dep (DE 2 49);go_simp;exact kk _ _
      ·subst hpre;exact oW (eT (KE 10)) (eT (dep (DE 0 47))) (gI (S.hi 0 9 rfl rfl) (S.fr.left.get 4 rfl)) i_208 fun w' hk ho=>kk _ _ (by simp) (Fr.stage (S.fr.only 4 rfl ho hk) (by exact trivial))
      ·have e55:=dep (DE 8 55);go_simp;exact kk _ _
     ·intro vs w13 HFr HR;have v10:vs 10=.bool false:=HR 10 _ rfl;have HF13:=fW HFr;clear HFr HR;simp only [putAll,Act.put,List.setIfInBounds_toArray,List.set_cons_zero,List.set_cons_succ,v10];clear v10;go_wp2_with fail
      try rw [Exit.noGoto_ret]
      refine ret_agg2 rfl rfl rfl (HF13.out.get 4 rfl) rfl u_208 rfl i_208 ?_
      exact HFIN.out _ ⟨⟨⟨bpxl,bpxh⟩,⟨bpyl,bpyh⟩,⟨bpzl,bpzh⟩⟩,⟨bvxl,bvxh⟩,⟨bvyl,bvyh⟩,⟨bvzl,bvzh⟩⟩ _ _ _ HS2.out rfl HF13.out.drop
  ·obtain rfl:i=8:=by omega
   have hki:¬ (8:Int)<8:=by decide
   obtain rfl:k=0:=by omega
   have HS2:=HKR.out;rw [HK0.out] at HS2;replace HS2:=hZ HS2;obtain ⟨⟨⟨bpxl,bpxh⟩,⟨bpyl,bpyh⟩,⟨bpzl,bpzh⟩⟩,⟨bvxl,bvxh⟩,⟨bvyl,bvyh⟩,⟨bvzl,bvzh⟩⟩:=b;go_wp2_with fail
   refine wrf [.p,.p,.p,.p,.p,.p,.p,.p,.p,.c 0,.p] [9] [] (fun _=>_) (fun k=>[(qb,160,#[mul,muh,rl,rh,ol,oh,sl,sh,pxl,pxh,pyl,pyh,pzl,pzh,time,step,tl,th,fl,fh,dxl,dxh,dyl,dyh,dzl,dzh,.slice A n c,dl,dh]),(qb+1,208,iC [axl,axh,ayl,ayh,azl,azh,bxl,bxh,byl,byh,bzl,bzh]),(qb+1+1,31,iC [ql,qh]),(qb+1+1+1,31,iC [ml,mh]),(qb+1+1+1+1,208,(if k≤0 then iC [0,0,0,0,0,0,0,0,0,0,0,0] else iC [bpxl,bpxh,bpyl,bpyh,bpzl,bpzh,bvxl,bvxh,bvyl,bvyh,bvzl,bvzh])),(g1,208,iC [bpxl,bpxh,bpyl,bpyh,bpzl,bpzh,bvxl,bvxh,bvyl,bvyh,bvzl,bvzh])]) (rM [(0,.agg #[bpxl,bpxh,bpyl,bpyh,bpzl,bpzh,bvxl,bvxh,bvyl,bvyh,bvzl,bvzh]),(1,.bool false),(2,.bool false),(8,.bool false),(10,.bool false)]) [] HFR.out ?_ ?_
   ·refine ⟨?_,?_,?_,?_,?_,?_,?_,?_,?_,?_,?_,trivial⟩
    all_goals intro a w1 vs dn k K S hpre KE DE kk
    ·exact oL (eT (KE 12)) (S.fr.left.get 5 rfl) u_208 (kk _ _) i_208
    ·have e13:=KE 13;go_simp;exact kk _ _
    ·have e48:=dep (DE 1 48);go_simp;exact kk _ _
    iterate 5 exact wN 2 true (dep (DE 2 49)) (kk undef _)
    ·have e49:=dep (DE 2 49);go_simp;exact kk _ _
    ·subst hpre;exact oW (eT (KE 10)) (eT (dep (DE 0 47))) (gI (S.hi 0 9 rfl rfl) (S.fr.left.get 4 rfl)) i_208 fun w' hk ho=>kk _ _ (by simp) (Fr.stage (S.fr.only 4 rfl ho hk) (by exact trivial))
    ·have e55:=dep (DE 8 55);go_simp;exact kk _ _
   ·intro vs w5 HFr HR;have v10:vs 10=.bool false:=HR 10 _ rfl;have HF5:=fW HFr;clear HFr HR;simp only [putAll,Act.put,List.setIfInBounds_toArray,List.set_cons_zero,List.set_cons_succ,v10];clear v10;go_wp2_with fail
    try rw [Exit.noGoto_ret]
    refine ret_agg2 rfl rfl rfl (HF5.out.get 4 rfl) rfl u_208 rfl i_208 ?_
    exact HFIN.out _ ⟨⟨⟨bpxl,bpxh⟩,⟨bpyl,bpyh⟩,⟨bpzl,bpzh⟩⟩,⟨bvxl,bvxh⟩,⟨bvyl,bvyh⟩,⟨bvzl,bvzh⟩⟩ _ _ _ HS2.out.symm rfl HF5.out.drop
end Go.Proofs.YtmkoegljnebdiaaGreat
