/- What is proved: the texts Fg Fh, one behind the other; each says at its head what it proves, and under which conditions. -/
import Derived.ChangeKeysEq
import Derived.Test.YtmkoegljnebdiaaGreatdPLands4
namespace Go.Proofs.YtmkoegljnebdiaaGreat
open Go.RowKit
set_option maxRecDepth 100000
set_option maxHeartbeats 16000000

def sixA (f:Nat→SpanD):Array Value:=iC [(f 0).lo,(f 0).hi,(f 1).lo,(f 1).hi,(f 2).lo,(f 2).hi,(f 3).lo,(f 3).hi,(f 4).lo,(f 4).hi,(f 5).lo,(f 5).hi]
def sixF (x:SixD):Nat→SpanD
 | 0=>x.p.x
 | 1=>x.p.y
 | 2=>x.p.z
 | 3=>x.v.x
 | 4=>x.v.y
 | _=>x.v.z
def updS (f:Nat→SpanD) (i:Nat) (x:SpanD):Nat→SpanD:=fun j=>if j=i then x else f j
def ofF (f:Nat→SpanD):SixD:=⟨⟨f 0,f 1,f 2⟩,⟨f 3,f 4,f 5⟩⟩
/-- One span of widened. -/
def widen1M (b m:SpanD):CM SpanD:=fun e=>if withinB m b=true then (b,e) else
 doM addB (doM hullB b m e).1 ⟨-((wideB (doM hullB b m e).1).1 / 8+65536),(wideB (doM hullB b m e).1).1 / 8+65536⟩ (if (doM hullB b m e).2=0 then (wideB (doM hullB b m e).1).2 else (doM hullB b m e).2)
def widK (b m:Nat→SpanD) (e:Int):Nat→(Nat→SpanD) × Int
 | 0=>(b,e)
 | i+1=>(updS (widK b m e i).1 i (widen1M ((widK b m e i).1 i) (m i) (widK b m e i).2).1,(widen1M ((widK b m e i).1 i) (m i) (widK b m e i).2).2)
def widenedM (b m:SixD):CM SixD:=fun e=>(ofF (widK (sixF b) (sixF m) e 6).1,(widK (sixF b) (sixF m) e 6).2)
theorem six_seg (f:Nat→SpanD) {i:Nat} (hi:i<6):((sixA f).toList.drop (i * 2)).take 2=[.int .i64 (f i).lo,.int .i64 (f i).hi]:=by
 match i,hi with
 | 0,_=>rfl
 | 1,_=>rfl
 | 2,_=>rfl
 | 3,_=>rfl
 | 4,_=>rfl
 | 5,_=>rfl
theorem six_upd (f:Nat→SpanD) {i:Nat} (hi:i<6) (x:SpanD):(sixA f).toList.take (i * 2) ++ [.int .i64 x.lo,.int .i64 x.hi] ++ (sixA f).toList.drop (i * 2+2)=(sixA (updS f i x)).toList:=by
 match i,hi with
 | 0,_=>rfl
 | 1,_=>rfl
 | 2,_=>rfl
 | 3,_=>rfl
 | 4,_=>rfl
 | 5,_=>rfl
theorem wide_range {a:SpanD} (ha:WdS a):0≤(wideB a).1∧(wideB a).1≤9223372036854775807:=by
 unfold wideB
 split
 ·rename_i hc
  have h3:=chk_iff.1 hc
  unfold WdS at ha
  split <;> dsimp only <;> omega
 ·dsimp only;omega
theorem wd_widen1 {b:SpanD} (hb:WdS b) (m:SpanD) (e:Int):WdS (widen1M b m e).1:=by
 unfold widen1M
 split
 ·exact hb
 ·exact wd_do wd_add _ _ _
theorem wd_widK {b m:Nat→SpanD} {e:Int} (hb:∀ i,WdS (b i)):∀ k i,WdS ((widK b m e k).1 i)
 | 0,i=>hb i
 | k+1,i=>by
  show WdS (updS _ k _ i)
  unfold updS
  split
  ·exact wd_widen1 (wd_widK hb k k) _ _
  ·exact wd_widK hb k i
theorem wd_sixF {x:SixD} (h:WdX x) (i:Nat):WdS (sixF x i):=by
 obtain ⟨⟨h1,h2,h3⟩,h4,h5,h6⟩:=h
 match i with
 | 0=>exact h1
 | 1=>exact h2
 | 2=>exact h3
 | 3=>exact h4
 | 4=>exact h5
 | _+5=>exact h6
theorem wd_ofF {f:Nat→SpanD} (h:∀ i,WdS (f i)):WdX (ofF f):=⟨⟨h 0,h 1,h 2⟩,h 3,h 4,h 5⟩
theorem wd_hullB {a b:SpanD} (ha:WdS a) (hb:WdS b) (e:Int):WdS (doM hullB a b e).1:=by
 unfold doM
 split
 ·exact wd_hull ha hb
 ·exact wd_zero
theorem quo8 {n:Int} (h0:0≤n):n.tdiv 8=n / 8:=Int.tdiv_eq_ediv_of_nonneg h0
theorem widened_any (cb:Nat) (e:Int) (b m:SixD) (hb:WdX b) (hm:WdX m) (w:World) (hk:Bk w cb 153 #[.int .i64 e]) :
  Calls Tryz.prog 164 #[.pointer (some ⟨cb,0,none⟩),sixV b,sixV m] w (CkSix cb (widenedM b m e) w):=by
 have HKC:=Lib.hid hk
 obtain ⟨fb,hfb⟩:∃ f,sixF b=f:=⟨_,rfl⟩
 obtain ⟨fm,hfm⟩:∃ f,sixF m=f:=⟨_,rfl⟩
 have HVB:Hid (sixV b=.agg (sixA fb)):=Lib.hid (by rw [← hfb];rfl)
 have HVM:Hid (sixV m=.agg (sixA fm)):=Lib.hid (by rw [← hfm];rfl)
 have hwb:∀ i,WdS (fb i):=by rw [← hfb];exact wd_sixF hb
 have hwm:∀ i,WdS (fm i):=by rw [← hfm];exact wd_sixF hm
 have HWK:Hid (∀ k i,WdS ((widK fb fm e k).1 i)):=Lib.hid (wd_widK hwb)
 have HWM:=Lib.hid hwm
 have hr:widenedM b m e=(ofF (widK fb fm e 6).1,(widK fb fm e 6).2):=by unfold widenedM;rw [hfb,hfm]
 rw [hr]
 obtain ⟨PQ,hPQ⟩:∃ Q,CkSix cb (ofF (widK fb fm e 6).1,(widK fb fm e 6).2) w=Q:=⟨_,rfl⟩
 have HFIN:Hid (∀ w' f e',f=(widK fb fm e 6).1→e'=(widK fb fm e 6).2→Fr w [(cb,153,iC [e'])] [] w'→PQ (.returned (.agg (sixA f))) w'):=Lib.hid fun w' f e' hf he h=>by
  rw [← hPQ];subst hf he;exact ⟨rfl,h⟩
 rw [hPQ,HVB.out,HVM.out]
 clear hPQ hr hfb hfm hwb hwm hb hm HVB HVM
 unfold sixA iC
 simp only [List.map_cons,List.map_nil]
 obtain ⟨qb,hqb⟩:∃ qb,w.heap.size=qb:=⟨_,rfl⟩
 obtain ⟨W0,hW0⟩:∃ W0,((w.alloc (.cells #[.int .i64 (fb 0).lo,.int .i64 (fb 0).hi,.int .i64 (fb 1).lo,.int .i64 (fb 1).hi,.int .i64 (fb 2).lo,.int .i64 (fb 2).hi,.int .i64 (fb 3).lo,.int .i64 (fb 3).hi,.int .i64 (fb 4).lo,.int .i64 (fb 4).hi,.int .i64 (fb 5).lo,.int .i64 (fb 5).hi] 208)).alloc (.cells #[.int .i64 (fm 0).lo,.int .i64 (fm 0).hi,.int .i64 (fm 1).lo,.int .i64 (fm 1).hi,.int .i64 (fm 2).lo,.int .i64 (fm 2).hi,.int .i64 (fm 3).lo,.int .i64 (fm 3).hi,.int .i64 (fm 4).lo,.int .i64 (fm 4).hi,.int .i64 (fm 5).lo,.int .i64 (fm 5).hi] 208)).alloc (.cells #[.int .i64 0,.int .i64 0,.int .i64 0,.int .i64 0,.int .i64 0,.int .i64 0,.int .i64 0,.int .i64 0,.int .i64 0,.int .i64 0,.int .i64 0,.int .i64 0] 208)=W0:=⟨_,rfl⟩
 have HF0:Hid (Fr w [(cb,153,iC [e])] [(qb,208,iC [(fb 0).lo,(fb 0).hi,(fb 1).lo,(fb 1).hi,(fb 2).lo,(fb 2).hi,(fb 3).lo,(fb 3).hi,(fb 4).lo,(fb 4).hi,(fb 5).lo,(fb 5).hi]),(qb+1,208,iC [(fm 0).lo,(fm 0).hi,(fm 1).lo,(fm 1).hi,(fm 2).lo,(fm 2).hi,(fm 3).lo,(fm 3).hi,(fm 4).lo,(fm 4).hi,(fm 5).lo,(fm 5).hi]),(qb+1+1,208,iC [0,0,0,0,0,0,0,0,0,0,0,0])] W0):=Lib.hid (by rw [← hW0];exact (((Fr.start1 HKC.out).alloc (by simp [← hqb]) 208 #[.int .i64 (fb 0).lo,.int .i64 (fb 0).hi,.int .i64 (fb 1).lo,.int .i64 (fb 1).hi,.int .i64 (fb 2).lo,.int .i64 (fb 2).hi,.int .i64 (fb 3).lo,.int .i64 (fb 3).hi,.int .i64 (fb 4).lo,.int .i64 (fb 4).hi,.int .i64 (fb 5).lo,.int .i64 (fb 5).hi]).alloc (by simp [← hqb]) 208 #[.int .i64 (fm 0).lo,.int .i64 (fm 0).hi,.int .i64 (fm 1).lo,.int .i64 (fm 1).hi,.int .i64 (fm 2).lo,.int .i64 (fm 2).hi,.int .i64 (fm 3).lo,.int .i64 (fm 3).hi,.int .i64 (fm 4).lo,.int .i64 (fm 4).hi,.int .i64 (fm 5).lo,.int .i64 (fm 5).hi]).alloc (by simp [← hqb]) 208 #[.int .i64 0,.int .i64 0,.int .i64 0,.int .i64 0,.int .i64 0,.int .i64 0,.int .i64 0,.int .i64 0,.int .i64 0,.int .i64 0,.int .i64 0,.int .i64 0])
 clear hk
 go_enter Tryz.func164,Tryz.ntmps164
 go_upto_region 1 with (fail)
 clear hW0 hqb
 have HR0:Hid (Fr w [(cb,153,iC [(widK fb fm e 0).2])] [(qb,208,sixA (widK fb fm e 0).1),(qb+1,208,sixA fm),(qb+1+1,208,iC [0,0,0,0,0,0,0,0,0,0,0,0])] W0):=Lib.hid HF0.out
 go_wp2_with fail
 go_loopw [12] (fun iv wr=>∃ i:Nat,i≤6∧iv=.int .i64 i∧Hid (Fr w [(cb,153,iC [(widK fb fm e i).2])] [(qb,208,sixA (widK fb fm e i).1),(qb+1,208,sixA fm),(qb+1+1,208,iC [0,0,0,0,0,0,0,0,0,0,0,0])] wr)) (fun iv _=>6 - (intOf iv).toNat)
 case atStart=>exact ⟨0,Nat.zero_le _,rfl,HR0⟩
 case round =>
  obtain ⟨wo,rfl⟩:∃ wo:World,wo=wr:=⟨_,rfl⟩
  obtain ⟨i,hi,rfl,hs⟩:=hrel
  have h0i:(0:Int)≤(i:Int):=by omega
  by_cases hlt:i<6
  ·have hki:(i:Int)<6:=by omega
   have hsucc:widK fb fm e (i+1)=(updS (widK fb fm e i).1 i (widen1M ((widK fb fm e i).1 i) (fm i) (widK fb fm e i).2).1,(widen1M ((widK fb fm e i).1 i) (fm i) (widK fb fm e i).2).2):=rfl
   have HNEXT:Hid (∀ w' f' e',widK fb fm e (i+1)=(f',e')→Fr w [(cb,153,iC [e'])] [(qb,208,sixA f'),(qb+1,208,sixA fm),(qb+1+1,208,iC [0,0,0,0,0,0,0,0,0,0,0,0])] w'→Hid (Fr w [(cb,153,iC [(widK fb fm e (i+1)).2])] [(qb,208,sixA (widK fb fm e (i+1)).1),(qb+1,208,sixA fm),(qb+1+1,208,iC [0,0,0,0,0,0,0,0,0,0,0,0])] w')):=Lib.hid fun w' f' e' he h=>by rw [he];exact Lib.hid h
   have HSU:=Lib.hid hsucc
   have hwf:=HWK.out i
   obtain ⟨⟨f,ei⟩,hfe⟩:∃ z,widK fb fm e i=z:=⟨_,rfl⟩
   rw [hfe] at hs HSU hwf
   dsimp only at hs HSU hwf
   have HFR:=Lib.hid hs.out
   have HSEGB:=six_seg f hlt
   have HSEGM:=six_seg fm hlt
   have HUPD:=six_upd f hlt
   have hwm:=HWM.out i
   have HWI:=Lib.hid (fun w=>within_any (fm i) (f i) hwm (hwf i) w)
   have HHU:=fun w hk=>cdo_any cb ei 188 hullB (fun a b w ha hb=>hullS_any a b ha hb w) (fun args w=>by kernel_rfl) (f i) (fm i) (hwf i) hwm w hk
   have hwh:=wd_hullB (hwf i) hwm ei
   obtain ⟨rw',hrw⟩:∃ r,withinB (fm i) (f i)=r:=⟨_,rfl⟩
   unfold widen1M at HSU
   rw [hrw] at HWI HSU
   obtain ⟨x,hx⟩:∃ x,f i=x:=⟨_,rfl⟩
   obtain ⟨y,hy⟩:∃ x,fm i=x:=⟨_,rfl⟩
   rw [hx] at HSEGB HWI HHU hwh HSU
   rw [hy] at HSEGM HWI HHU hwh HSU
   have HX:=Lib.hid hx
   obtain ⟨xl,xh⟩:=x
   obtain ⟨yl,yh⟩:=y
   unfold spanV at HWI HHU
   dsimp only at HWI HHU HSEGB HSEGM
   have HSB:=Lib.hid HSEGB
   have HSM:=Lib.hid HSEGM
   clear hs hsucc hfe hrw hx hy hwf hwm HSEGB HSEGM
   go_upto_region 4 with (fail)
   refine wp_region_fr [Kind.p,Kind.p,Kind.p,Kind.p,Kind.p,Kind.p,Kind.p] [] [] w (fun _=>_) (fun _=>_)
      (fun ix u _=>match ix with
       | 0=>u=.int .i64 (i:Int)
       | 1=>u=.pointer (some ⟨qb+1,i * 2,none⟩)
       | 2=>u=.agg #[.int .i64 yl,.int .i64 yh]
       | 3=>u=.int .i64 (i:Int)
       | 4=>u=.pointer (some ⟨qb,i * 2,none⟩)
       | 5=>u=.agg #[.int .i64 xl,.int .i64 xh]
       | 6=>u=.bool rw'
       | _=>True)
      (by kernel_rfl) (by kernel_rfl) (by kernel_rfl) [] rfl (by decide) (by kernel_rfl) (by kernel_rfl) HFR.out ?_ ?_
   ·refine ⟨?_,?_,?_,?_,?_,?_,?_,trivial⟩
    all_goals intro a w1 vs dn k K S hpre KE DE kk
    ·have e7:=KE 7 (by decide)
     go_simp;exact kk _ _ (by simp) bR rfl
    ·have e5:=KE 5 (by decide)
     have e15:=dep (DE 0 _ 15 rfl rfl rfl)
     go_simp;exact kk _ _ (by simp) bR rfl
    ·have e16:=dep (DE 1 _ 16 rfl rfl rfl)
     exact wpo_loadF 31 (.tmp 16) rfl (qb+1) (i * 2) (by simpa [Act.eval] using e16) _ _ (S.fr.left.get 1 rfl) #[.int .i64 yl,.int .i64 yh] (HSM.out) _ und_span rfl info_span (kk _ _ (by simp) bR rfl)
    ·have e7:=KE 7 (by decide)
     go_simp;exact kk _ _ (by simp) bR rfl
    ·have e4:=KE 4 (by decide)
     have e18:=dep (DE 3 _ 18 rfl rfl rfl)
     go_simp;exact kk _ _ (by simp) bR rfl
    ·have e19:=dep (DE 4 _ 19 rfl rfl rfl)
     exact wpo_loadF 31 (.tmp 19) rfl qb (i * 2) (by simpa [Act.eval] using e19) _ _ (S.fr.left.get 0 rfl) #[.int .i64 xl,.int .i64 xh] (HSB.out) _ und_span rfl info_span (kk _ _ (by simp) bR rfl)
    ·have e17:=dep (DE 2 _ 17 rfl rfl rfl)
     have e20:=dep (DE 5 _ 20 rfl rfl rfl)
     exact wpo_call 115 _ _ rfl #[.agg #[.int .i64 yl,.int .i64 yh],.agg #[.int .i64 xl,.int .i64 xh]] (by simp [Act.eval,e17,e20]) (fun args w=>by kernel_rfl)
      ((HWI.out w1).mono fun e w' ⟨he,hb⟩=>⟨_,he,kk _ _ (by simp) hb rfl⟩)
   ·intro vs wf HFr HR
    have HFr':Fr w [(cb,153,iC [ei])] [(qb,208,sixA f),(qb+1,208,sixA fm),(qb+1+1,208,iC [0,0,0,0,0,0,0,0,0,0,0,0])] wf:=HFr
    have v6:vs 6=.bool rw':=HR 6 _ rfl
    clear HFr HR
    have HF1:=Lib.hid HFr'
    clear HFr'
    simp only [putAll,Act.put,List.setIfInBounds_toArray,List.set_cons_zero,List.set_cons_succ]
    simp only [v6]
    clear v6
    obtain ⟨w1,rfl⟩:∃ u:World,u=wf:=⟨_,rfl⟩
    cases rw' with
    | false =>
     rw [if_neg (by decide)] at HSU
     obtain ⟨⟨⟨hl,hh⟩,e1⟩,hh1⟩:∃ z,doM hullB ⟨xl,xh⟩ ⟨yl,yh⟩ ei=z:=⟨_,rfl⟩
     rw [hh1] at HHU HSU hwh
     dsimp only at HHU HSU hwh
     have HWD:=fun w=>wide_any ⟨hl,hh⟩ hwh w
     have hrg:=wide_range hwh
     obtain ⟨⟨wd,we⟩,hwd⟩:∃ z,wideB ⟨hl,hh⟩=z:=⟨_,rfl⟩
     rw [hwd] at HWD HSU hrg
     dsimp only at HWD HSU hrg
     have hq:=quo8 hrg.1
     obtain ⟨q,hqq⟩:∃ q,wd / 8=q:=⟨_,rfl⟩
     obtain ⟨by',hby⟩:∃ z,q+65536=z:=⟨_,rfl⟩
     rw [hqq] at hq HSU
     rw [hby] at HSU
     have m1:IntKind.i64.wrap q=q:=IntWalk.i64_in _ (by omega)
     have m1':wrap64 q=q:=w64_in (by omega) (by omega)
     have m2:IntKind.i64.wrap (q+65536)=by':=by rw [hby];exact IntWalk.i64_in _ (by omega)
     have m2':wrap64 (q+65536)=by':=by rw [hby];exact w64_in (by omega) (by omega)
     have m3:IntKind.i64.wrap (-by')=-by':=IntWalk.i64_in _ (by omega)
     have m3':wrap64 (-by')=-by':=w64_in (by omega) (by omega)
     have hwby:WdS ⟨-by',by'⟩:=by unfold WdS;dsimp only;omega
     have HAD:=fun e2 w hk=>cdo_any cb e2 65 addB (fun a b w ha hb=>add_any a b ha hb w) (fun args w=>by kernel_rfl) ⟨hl,hh⟩ ⟨-by',by'⟩ hwh hwby w hk
     unfold CkPost spanV at HHU HAD
     unfold spanV at HWD
     dsimp only at HHU HAD HWD
     replace HHU:=Lib.hid HHU
     replace HAD:=Lib.hid HAD
     replace HWD:=Lib.hid HWD
     clear hh1 hwh hrg hwd hqq hby hwby
     go_upto_region 5 with (fail)
     refine wp_region_fr [Kind.p,Kind.p,Kind.p,Kind.p,Kind.p,Kind.p,Kind.p,Kind.c 0,Kind.a 0,Kind.c 1] [7,9] [(8,31,fun k=>(if k≤1 then iC [0,0] else iC [hl,hh]))] w (fun k=>[(cb,153,(if k≤0 then iC [ei] else iC [e1]))]) (fun _=>_)
        (fun ix u _=>match ix with
         | 0=>u=.pointer (some ⟨cb,0,none⟩)
         | 1=>u=.int .i64 (i:Int)
         | 2=>u=.pointer (some ⟨qb,i * 2,none⟩)
         | 3=>u=.agg #[.int .i64 xl,.int .i64 xh]
         | 4=>u=.int .i64 (i:Int)
         | 5=>u=.pointer (some ⟨qb+1,i * 2,none⟩)
         | 6=>u=.agg #[.int .i64 yl,.int .i64 yh]
         | 7=>u=.agg #[.int .i64 hl,.int .i64 hh]
         | 8=>u=.pointer (some ⟨gOf u,0,none⟩)
         | _=>True)
        (by kernel_rfl) (by kernel_rfl) (by kernel_rfl) [8] rfl (by decide) (by kernel_rfl) (by kernel_rfl) HF1.out ?_ ?_
     ·refine ⟨?_,?_,?_,?_,?_,?_,?_,?_,?_,?_,trivial⟩
      all_goals intro a w1 vs dn k K S hpre KE DE kk
      ·have e0:=KE 0 (by decide)
       go_simp;exact kk _ _ (by simp) bR rfl
      ·have e7:=KE 7 (by decide)
       go_simp;exact kk _ _ (by simp) bR rfl
      ·have e4:=KE 4 (by decide)
       have e23:=dep (DE 1 _ 23 rfl rfl rfl)
       go_simp;exact kk _ _ (by simp) bR rfl
      ·have e24:=dep (DE 2 _ 24 rfl rfl rfl)
       exact wpo_loadF 31 (.tmp 24) rfl qb (i * 2) (by simpa [Act.eval] using e24) _ _ (S.fr.left.get 0 rfl) #[.int .i64 xl,.int .i64 xh] (HSB.out) _ und_span rfl info_span (kk _ _ (by simp) bR rfl)
      ·have e7:=KE 7 (by decide)
       go_simp;exact kk _ _ (by simp) bR rfl
      ·have e5:=KE 5 (by decide)
       have e26:=dep (DE 4 _ 26 rfl rfl rfl)
       go_simp;exact kk _ _ (by simp) bR rfl
      ·have e27:=dep (DE 5 _ 27 rfl rfl rfl)
       exact wpo_loadF 31 (.tmp 27) rfl (qb+1) (i * 2) (by simpa [Act.eval] using e27) _ _ (S.fr.left.get 1 rfl) #[.int .i64 yl,.int .i64 yh] (HSM.out) _ und_span rfl info_span (kk _ _ (by simp) bR rfl)
      ·subst hpre
       have e22:=dep (DE 0 _ 22 rfl rfl rfl)
       have e25:=dep (DE 3 _ 25 rfl rfl rfl)
       have e28:=dep (DE 6 _ 28 rfl rfl rfl)
       exact wpo_call 112 _ _ rfl #[.pointer (some ⟨cb,0,none⟩),.func (.func 188) #[] #[],.agg #[.int .i64 xl,.int .i64 xh],.agg #[.int .i64 yl,.int .i64 yh]] (by simp [Act.eval,e22,e25,e28]) (fun args w=>by kernel_rfl)
        ((HHU.out w1 (S.fr.getO 0 rfl)).mono fun e w' ⟨he,hb⟩=>⟨_,he,kk _ _ (by simp) (Fr.stage (S.fr.turnO 0 rfl hb) (by exact ⟨rfl,trivial⟩)) rfl⟩)
      ·go_simp;exact kk _ _ (by simp) (by have h:=S.fr.alloc rfl 31 #[.int .i64 0,.int .i64 0];show Fr _ _ (_ ++ [(_,31,if k≤1 then _ else _)]) _;rw [if_pos (S.hi 1 9 rfl rfl)];exact h) rfl
      ·subst hpre
       have e8:=dep (DE 8 _ 8 rfl rfl rfl)
       have e29:=dep (DE 7 _ 29 rfl rfl rfl)
       have HS:=Fr.done S.fr (by exact ⟨S.done 8 rfl,trivial⟩)
       exact wpo_storeF 31 (.tmp 8) (.tmp 29) rfl rfl ((gOf (vs 8))) 0 (by simpa [Act.eval] using e8) #[.int .i64 hl,.int .i64 hh] (by simpa [Act.eval] using e29) _ _ (iC [hl,hh]) (HS.get 3 rfl) rfl (by show 0+2≤2;omega) (one_all rfl) info_span fun w' hk ho=>kk _ _ (by simp) (Fr.undone (HS.only 3 rfl ho hk) (by exact ⟨S.done 8 rfl,trivial⟩)) trivial
     ·intro vs wf HFr HR
      have HFr':Fr w [(cb,153,iC [e1])] [(qb,208,sixA f),(qb+1,208,sixA fm),(qb+1+1,208,iC [0,0,0,0,0,0,0,0,0,0,0,0]),((gOf (vs 8)),31,iC [hl,hh])] wf:=HFr
      have v8:vs 8=.pointer (some ⟨(gOf (vs 8)),0,none⟩):=HR 8 _ rfl
      clear HFr HR
      obtain ⟨g2_8,hg2_8⟩:∃ g,gOf (vs 8)=g:=⟨_,rfl⟩
      rw [hg2_8] at HFr'
      rw [hg2_8] at v8
      clear hg2_8
      have HF2:=Lib.hid HFr'
      clear HFr'
      simp only [putAll,Act.put,List.setIfInBounds_toArray,List.set_cons_zero,List.set_cons_succ]
      simp only [v8]
      clear v8
      obtain ⟨w2,rfl⟩:∃ u:World,u=wf:=⟨_,rfl⟩
      go_wp2_with (refine wpLoadF rfl 31 _ rfl g2_8 0 rfl _ _ (HF2.out.get 3 rfl) #[.int .i64 hl,.int .i64 hh] rfl _ und_span rfl info_span ?_)
      refine (HWD.out _).mono ?_
      rintro e w3 ⟨rfl,hw⟩
      have HF4:=Lib.hid (HF2.out.below hw)
      clear hw
      by_cases he:e1=0
      ·subst he
       rw [if_pos rfl] at HSU
       have c5:w3.cell? ⟨cb,0,none⟩=some (.int .i64 0):=(HF4.out.getO 0 rfl).cell 0
       go_wp2_with (first
         | (refine wpLoadF rfl 31 _ rfl g2_8 0 rfl _ _ (HF7.out.get 3 rfl) #[.int .i64 hl,.int .i64 hh] rfl _ und_span rfl info_span ?_)
         | (refine wpStoreCell rfl rfl 41 _ _ rfl cb 0 rfl (.int .i64 we) rfl _ _ (HF4.out.getO 0 rfl) (by show 0<1;omega) rfl (by kernel_rfl) ?_;intro w6 hk ho;clear c5;have HF7:=Lib.hid (HF4.out.onlyO 0 rfl ho hk);clear ho hk))
       obtain ⟨⟨⟨rl,rh⟩,re⟩,hre⟩:∃ z,doM addB ⟨hl,hh⟩ ⟨-by',by'⟩ we=z:=⟨_,rfl⟩
       have HA2:=HAD.out we
       rw [hre] at HA2 HSU
       dsimp only at HA2 HSU
       have HUP2:=Lib.hid (HUPD ⟨rl,rh⟩)
       clear hre HUPD
       refine (HA2 _ (HF7.out.getO 0 rfl)).mono ?_
       rintro e w8 ⟨rfl,hw⟩
       have HF9:=Lib.hid (HF7.out.turnO 0 rfl hw)
       clear hw
       clear HA2
       go_wp2_with (refine wpStoreF rfl rfl 31 _ _ rfl qb (i * 2) rfl #[.int .i64 rl,.int .i64 rh] rfl _ _ (sixA (updS f i ⟨rl,rh⟩)) (HF9.out.get 0 rfl) (HUP2.out) (by show i * 2+2≤12;omega) (one_all rfl) info_span ?_;intro w10 hk ho;have HF11:=Lib.hid (HF9.out.only 0 rfl ho hk);clear ho hk)
       go_roundw
       case rel=>exact ⟨i+1,by omega,by go_num,HNEXT.out _ _ _ HSU.out (HF11.out.sub (List.sublist_append_left [_,_,_] _))⟩
       case measure=>simp [intOf];omega
      ·have hb2:(e1 == 0)=false:=by simpa using he
       rw [if_neg he] at HSU
       clear he
       have c5:w3.cell? ⟨cb,0,none⟩=some (.int .i64 e1):=(HF4.out.getO 0 rfl).cell 0
       go_wp2_with (refine wpLoadF rfl 31 _ rfl g2_8 0 rfl _ _ (HF4.out.get 3 rfl) #[.int .i64 hl,.int .i64 hh] rfl _ und_span rfl info_span ?_)
       clear c5
       obtain ⟨⟨⟨rl,rh⟩,re⟩,hre⟩:∃ z,doM addB ⟨hl,hh⟩ ⟨-by',by'⟩ e1=z:=⟨_,rfl⟩
       have HA2:=HAD.out e1
       rw [hre] at HA2 HSU
       dsimp only at HA2 HSU
       have HUP2:=Lib.hid (HUPD ⟨rl,rh⟩)
       clear hre HUPD
       refine (HA2 _ (HF4.out.getO 0 rfl)).mono ?_
       rintro e w6 ⟨rfl,hw⟩
       have HF7:=Lib.hid (HF4.out.turnO 0 rfl hw)
       clear hw
       clear HA2
       go_wp2_with (refine wpStoreF rfl rfl 31 _ _ rfl qb (i * 2) rfl #[.int .i64 rl,.int .i64 rh] rfl _ _ (sixA (updS f i ⟨rl,rh⟩)) (HF7.out.get 0 rfl) (HUP2.out) (by show i * 2+2≤12;omega) (one_all rfl) info_span ?_;intro w8 hk ho;have HF9:=Lib.hid (HF7.out.only 0 rfl ho hk);clear ho hk)
       go_roundw
       case rel=>exact ⟨i+1,by omega,by go_num,HNEXT.out _ _ _ HSU.out (HF9.out.sub (List.sublist_append_left [_,_,_] _))⟩
       case measure=>simp [intOf];omega
    | true =>
     have hupd:updS f i ⟨xl,xh⟩=f:=by
      funext j
      unfold updS
      split
      ·rename_i h;rw [h,HX.out]
      ·rfl
     rw [if_pos rfl] at HSU
     dsimp only at HSU
     rw [hupd] at HSU
     clear hupd HHU hwh HUPD
     go_wp2_with fail
     go_roundw
     case rel=>exact ⟨i+1,by omega,by go_num,HNEXT.out _ _ _ HSU.out HF1.out⟩
     case measure=>simp [intOf];omega
  ·obtain rfl:i=6:=by omega
   have hki:¬ (6:Int)<6:=by decide
   obtain ⟨⟨f,ei⟩,hfe⟩:∃ z,widK fb fm e 6=z:=⟨_,rfl⟩
   rw [hfe] at hs HFIN
   dsimp only at hs HFIN
   have HFR:=Lib.hid hs.out
   clear hs hfe
   go_wp2_with (first
     | (refine wpLoadF rfl 208 _ rfl qb 0 rfl _ _ (HFR.out.get 0 rfl) #[.int .i64 (f 0).lo,.int .i64 (f 0).hi,.int .i64 (f 1).lo,.int .i64 (f 1).hi,.int .i64 (f 2).lo,.int .i64 (f 2).hi,.int .i64 (f 3).lo,.int .i64 (f 3).hi,.int .i64 (f 4).lo,.int .i64 (f 4).hi,.int .i64 (f 5).lo,.int .i64 (f 5).hi] rfl _ und_208 rfl info_208 ?_)
     | (refine wpStoreF rfl rfl 208 _ _ rfl (qb+1+1) 0 rfl #[.int .i64 (f 0).lo,.int .i64 (f 0).hi,.int .i64 (f 1).lo,.int .i64 (f 1).hi,.int .i64 (f 2).lo,.int .i64 (f 2).hi,.int .i64 (f 3).lo,.int .i64 (f 3).hi,.int .i64 (f 4).lo,.int .i64 (f 4).hi,.int .i64 (f 5).lo,.int .i64 (f 5).hi] rfl _ _ (iC [(f 0).lo,(f 0).hi,(f 1).lo,(f 1).hi,(f 2).lo,(f 2).hi,(f 3).lo,(f 3).hi,(f 4).lo,(f 4).hi,(f 5).lo,(f 5).hi]) (HFR.out.get 2 rfl) rfl (by show 0+12≤12;omega) (one_all rfl) info_208 ?_;intro w1 hk ho;have HF2:=Lib.hid (HFR.out.only 2 rfl ho hk);clear ho hk))
   refine ret_agg rfl rfl rfl (HF2.out.get 2 rfl) und_208 rfl info_208 ?_
   exact HFIN.out _ _ _ rfl rfl HF2.out.drop

/-- A tube around a step: widened till it holds. -/
def tubeK (F:SixD→SpanD→CM BoxD) (x:SixD) (d m:SpanD):Nat→SixD→Int→(SixD × Bool) × Int
 | 0,b,e=>((b,false),e)
 | n+1,b,e =>
  if (reachedM x d b.v (F b m e).1 (F b m e).2).2 ≠ 0 then ((b,false),(reachedM x d b.v (F b m e).1 (F b m e).2).2)
  else if (widenedM b (reachedM x d b.v (F b m e).1 (F b m e).2).1 (reachedM x d b.v (F b m e).1 (F b m e).2).2).1=b then
   (((reachedM x d b.v (F b m e).1 (F b m e).2).1,true),(widenedM b (reachedM x d b.v (F b m e).1 (F b m e).2).1 (reachedM x d b.v (F b m e).1 (F b m e).2).2).2)
  else tubeK F x d m n (widenedM b (reachedM x d b.v (F b m e).1 (F b m e).2).1 (reachedM x d b.v (F b m e).1 (F b m e).2).2).1 (widenedM b (reachedM x d b.v (F b m e).1 (F b m e).2).1 (reachedM x d b.v (F b m e).1 (F b m e).2).2).2
theorem wd_widened {b:SixD} (hb:WdX b) (m:SixD) (e:Int):WdX (widenedM b m e).1:=wd_ofF (wd_widK (wd_sixF hb) 6)
theorem wd_reached (x:SixD) (d:SpanD) (v f:BoxD) (e:Int):WdX (reachedM x d v f e).1:=by
 unfold reachedM CM.bnd CM.ret
 exact ⟨wd_each wd_addM _ _ _,wd_each wd_addM _ _ _⟩
theorem eq_sp (a b c d:Int) (w:World):(Op.equalIn 9999 31 (.agg #[.int .i64 a,.int .i64 b]) (.agg #[.int .i64 c,.int .i64 d])).run Tryz.prog w=.ok (decide (a=c∧b=d)) w:=by
 rw [run_equalIn_struct w 9998 _ _ _ (by kernel_rfl) (by kernel_rfl)]
 go_simp
 by_cases h1:a=c <;> by_cases h2:b=d <;> simp [h1,h2]
theorem eq_item {is:List Nat} (f g:Nat→SpanD) (w:World) (h:∀ i ∈ is,i<6):(Op.eqItems 9999 31 2 (sixA f) (sixA g) is).run Tryz.prog w=.ok (is.all fun i=>decide (f i=g i)) w:=by
 induction is with
 | nil=>rfl
 | cons i is ih =>
  have hi:=h i (by simp)
  have hp:∀ f:Nat→SpanD,(part 31 (sixA f) (i * 2)).run Tryz.prog w=.ok (.agg #[.int .i64 (f i).lo,.int .i64 (f i).hi]) w:=fun f=>by
   have h6:i=0 ∨ i=1 ∨ i=2 ∨ i=3 ∨ i=4 ∨ i=5:=by omega
   clear ih h hi
   rcases h6 with rfl | rfl | rfl | rfl | rfl | rfl <;> exact Eq.refl _
  have hd:decide ((f i).lo=(g i).lo∧(f i).hi=(g i).hi)=decide (f i=g i):=by
   rw [Bool.eq_iff_iff]
   cases f i;cases g i
   simp
  simp only [Op.eqItems,Sem.run_bind,hp f,hp g,Result.andThen_ok,eq_sp,hd,List.all_cons]
  by_cases h1:f i=g i
  ·simp only [h1,decide_true,Bool.not_true,Bool.false_eq_true,if_false,Bool.true_and]
   exact ih fun j hj=>h j (by simp [hj])
  ·simp only [h1,decide_false,Bool.not_false,if_true,Bool.false_and]
   rfl
theorem eql_six (x y:SixD) (w:World):(binOp .eql 208 (sixV x) (sixV y)).run Tryz.prog w=.ok (.bool (decide (x=y))) w:=by
 have hx:sixV x=.agg (sixA (sixF x)):=rfl
 have hy:sixV y=.agg (sixA (sixF y)):=rfl
 have e6:([0,1,2,3,4,5].all fun i=>decide (sixF x i=sixF y i))=decide (x=y):=by
  obtain ⟨⟨a,b,c⟩,d,f,g⟩:=x
  obtain ⟨⟨a',b',c'⟩,d',f',g'⟩:=y
  rw [Bool.eq_iff_iff]
  simp [sixF,and_assoc]
 obtain ⟨ii,hi,_⟩:=Option.map_eq_some_iff.1 info_span
 rw [hx,hy,run_eql_struct,run_equalIn_array w 9999 (t:=208) _ _ (n:=6) (e:=31) (by kernel_rfl) hi]
 have h2:(Tryz.prog).cellsOf 31=2:=by kernel_rfl
 rw [h2,show List.range 6=[0,1,2,3,4,5] from rfl,eq_item _ _ _ (by simp),e6]
 rfl
theorem tube_any (F:SixD→SpanD→CM BoxD) (B:Nat) (p:PlanetD) (a:ArcD) (A:Option Addr) (n c:Nat) (cb:Nat) (hB:B≤cb) (e:Int) (x:SixD) (d m:SpanD) (hx:WdX x) (hd:WdS d) (_:WdS m) (w:World)
  (hF:∀ e x w',Below B w w'→WdX x→Bk w' cb 153 #[.int .i64 e]→Calls Tryz.prog 121 #[modelV p a A n c,.pointer (some ⟨cb,0,none⟩),sixV x,spanV m] w' (CkBox cb (F x m e) w'))
  (hFw:∀ x e,WdB (F x m e).1) (hk:Bk w cb 153 #[.int .i64 e]) :
  Calls Tryz.prog 120 #[modelV p a A n c,.pointer (some ⟨cb,0,none⟩),sixV x,spanV d,spanV m] w fun v w' =>
   v=.returned (.tuple #[sixV (tubeK F x d m 8 x e).1.1,.bool ((tubeK F x d m 8 x e).1.2 && decide ((tubeK F x d m 8 x e).2=0))])∧Fr w [(cb,153,#[.int .i64 (tubeK F x d m 8 x e).2])] [] w':=by
 have HKC:=Lib.hid hk
 obtain ⟨K,hK⟩:∃ K,tubeK F x d m=K:=⟨_,rfl⟩
 obtain ⟨R,hR⟩:∃ R,K 8 x e=R:=⟨_,rfl⟩
 have HK0:Hid (∀ b e,K 0 b e=((b,false),e)):=Lib.hid fun b e=>by rw [← hK];rfl
 have HKS:Hid (∀ n b e f ef,F b m e=(f,ef)→∀ mo er,reachedM x d b.v f ef=(mo,er)→∀ nx en,widenedM b mo er=(nx,en)→K (n+1) b e=if er ≠ 0 then ((b,false),er) else if nx=b then ((mo,true),en) else K n nx en):=Lib.hid fun n b e f ef h1 mo er h2 nx en h3=>by
  rw [← hK]
  show tubeK F x d m (n+1) b e=_
  rw [tubeK]
  simp only [h1,h2,h3]
 have HRE:=Lib.hid (fun e v f hv hf w hk=>reached_any cb e x d v f hx hd hv hf w hk)
 have HWX:Hid (∀ v f e,WdX (reachedM x d v f e).1):=Lib.hid fun v f e=>wd_reached x d v f e
 have HFO:=Lib.hid hF
 have HFW:=Lib.hid hFw
 have HXX:=Lib.hid hx
 obtain ⟨PQ,hPQ⟩:∃ Q:Ending→World→Prop,(fun v w'=>v=.returned (.tuple #[sixV R.1.1,.bool (R.1.2 && decide (R.2=0))])∧Fr w [(cb,153,#[.int .i64 R.2])] [] w')=Q:=⟨_,rfl⟩
 have HFIN:Hid (∀ w' b q e' r,R=((b,q),e')→r=(q && decide (e'=0))→Fr w [(cb,153,iC [e'])] [] w'→PQ (.returned (.tuple #[sixV b,.bool r])) w'):=Lib.hid fun w' b q e' r h hr hf=>by
  rw [← hPQ,h,hr];exact ⟨rfl,hf⟩
 rw [hK,hR,hPQ]
 have HR:=Lib.hid hR
 obtain ⟨GF,hGF⟩:∃ G:SixD→Int→BoxD × Int,(fun b e=>F b m e)=G:=⟨_,rfl⟩
 have HGF:Hid (∀ b e,F b m e=GF b e):=Lib.hid fun b e=>by rw [← hGF]
 obtain ⟨RM,hRM⟩:∃ G:BoxD→BoxD→Int→SixD × Int,(fun v f e=>reachedM x d v f e)=G:=⟨_,rfl⟩
 have HRM:Hid (∀ v f e,reachedM x d v f e=RM v f e):=Lib.hid fun v f e=>by rw [← hRM]
 simp only [HGF.out] at HKS HFO HFW
 simp only [HRM.out] at HKS HRE HWX
 clear hF hFw hK hR hPQ hx hd hk hGF hRM HGF HRM
 obtain ⟨⟨mul,muh⟩,⟨rl,rh⟩,⟨ol,oh⟩,⟨sl,sh⟩,⟨⟨pxl,pxh⟩,⟨pyl,pyh⟩,⟨pzl,pzh⟩⟩⟩:=p
 obtain ⟨time,step,⟨tl,th⟩,⟨fl,fh⟩,⟨⟨dxl,dxh⟩,⟨dyl,dyh⟩,⟨dzl,dzh⟩⟩,drag,⟨dl,dh⟩⟩:=a
 obtain ⟨ml,mh⟩:=m
 obtain ⟨ql,qh⟩:=d
 obtain ⟨⟨⟨axl,axh⟩,⟨ayl,ayh⟩,⟨azl,azh⟩⟩,⟨⟨bxl,bxh⟩,⟨byl,byh⟩,⟨bzl,bzh⟩⟩⟩:=x
 unfold modelV spanV at HFO
 unfold spanV at HRE
 unfold modelV sixV spanV
 unfold sixV at HRE
 dsimp only at HFO HRE ⊢
 obtain ⟨qb,hqb⟩:∃ qb,w.heap.size=qb:=⟨_,rfl⟩
 obtain ⟨W0,hW0⟩:∃ W0,((((w.alloc (.cells #[.int .i64 mul,.int .i64 muh,.int .i64 rl,.int .i64 rh,.int .i64 ol,.int .i64 oh,.int .i64 sl,.int .i64 sh,.int .i64 pxl,.int .i64 pxh,.int .i64 pyl,.int .i64 pyh,.int .i64 pzl,.int .i64 pzh,.int .i64 time,.int .i64 step,.int .i64 tl,.int .i64 th,.int .i64 fl,.int .i64 fh,.int .i64 dxl,.int .i64 dxh,.int .i64 dyl,.int .i64 dyh,.int .i64 dzl,.int .i64 dzh,.slice A n c,.int .i64 dl,.int .i64 dh] 160)).alloc (.cells #[.int .i64 axl,.int .i64 axh,.int .i64 ayl,.int .i64 ayh,.int .i64 azl,.int .i64 azh,.int .i64 bxl,.int .i64 bxh,.int .i64 byl,.int .i64 byh,.int .i64 bzl,.int .i64 bzh] 208)).alloc (.cells #[.int .i64 ql,.int .i64 qh] 31)).alloc (.cells #[.int .i64 ml,.int .i64 mh] 31)).alloc (.cells #[.int .i64 0,.int .i64 0,.int .i64 0,.int .i64 0,.int .i64 0,.int .i64 0,.int .i64 0,.int .i64 0,.int .i64 0,.int .i64 0,.int .i64 0,.int .i64 0] 208)=W0:=⟨_,rfl⟩
 have HF0:Hid (Fr w [(cb,153,iC [e])] [(qb,160,#[.int .i64 mul,.int .i64 muh,.int .i64 rl,.int .i64 rh,.int .i64 ol,.int .i64 oh,.int .i64 sl,.int .i64 sh,.int .i64 pxl,.int .i64 pxh,.int .i64 pyl,.int .i64 pyh,.int .i64 pzl,.int .i64 pzh,.int .i64 time,.int .i64 step,.int .i64 tl,.int .i64 th,.int .i64 fl,.int .i64 fh,.int .i64 dxl,.int .i64 dxh,.int .i64 dyl,.int .i64 dyh,.int .i64 dzl,.int .i64 dzh,.slice A n c,.int .i64 dl,.int .i64 dh]),(qb+1,208,iC [axl,axh,ayl,ayh,azl,azh,bxl,bxh,byl,byh,bzl,bzh]),(qb+1+1,31,iC [ql,qh]),(qb+1+1+1,31,iC [ml,mh]),(qb+1+1+1+1,208,iC [0,0,0,0,0,0,0,0,0,0,0,0])] W0):=Lib.hid (by rw [← hW0];exact (((((Fr.start1 HKC.out).alloc (by simp [← hqb]) 160 #[.int .i64 mul,.int .i64 muh,.int .i64 rl,.int .i64 rh,.int .i64 ol,.int .i64 oh,.int .i64 sl,.int .i64 sh,.int .i64 pxl,.int .i64 pxh,.int .i64 pyl,.int .i64 pyh,.int .i64 pzl,.int .i64 pzh,.int .i64 time,.int .i64 step,.int .i64 tl,.int .i64 th,.int .i64 fl,.int .i64 fh,.int .i64 dxl,.int .i64 dxh,.int .i64 dyl,.int .i64 dyh,.int .i64 dzl,.int .i64 dzh,.slice A n c,.int .i64 dl,.int .i64 dh]).alloc (by simp [← hqb]) 208 #[.int .i64 axl,.int .i64 axh,.int .i64 ayl,.int .i64 ayh,.int .i64 azl,.int .i64 azh,.int .i64 bxl,.int .i64 bxh,.int .i64 byl,.int .i64 byh,.int .i64 bzl,.int .i64 bzh]).alloc (by simp [← hqb]) 31 #[.int .i64 ql,.int .i64 qh]).alloc (by simp [← hqb]) 31 #[.int .i64 ml,.int .i64 mh]).alloc (by simp [← hqb]) 208 #[.int .i64 0,.int .i64 0,.int .i64 0,.int .i64 0,.int .i64 0,.int .i64 0,.int .i64 0,.int .i64 0,.int .i64 0,.int .i64 0,.int .i64 0,.int .i64 0])
 go_enter Tryz.func120,Tryz.ntmps120
 go_upto_region 1 with (fail)
 clear hW0 hqb
 go_step3
 obtain ⟨g1,hg1⟩:∃ g,W0.heap.size=g:=⟨_,rfl⟩
 obtain ⟨w1,hw1⟩:∃ u,W0.alloc (.cells #[.int .i64 0,.int .i64 0,.int .i64 0,.int .i64 0,.int .i64 0,.int .i64 0,.int .i64 0,.int .i64 0,.int .i64 0,.int .i64 0,.int .i64 0,.int .i64 0] 208)=u:=⟨_,rfl⟩
 have HF2:=Lib.hid (frE hw1 (HF0.out.alloc hg1.symm 208 #[.int .i64 0,.int .i64 0,.int .i64 0,.int .i64 0,.int .i64 0,.int .i64 0,.int .i64 0,.int .i64 0,.int .i64 0,.int .i64 0,.int .i64 0,.int .i64 0]))
 go_wp2_with (first
   | (refine wpLoadF rfl 208 _ rfl (qb+1) 0 rfl _ _ (HF0.out.get 1 rfl) #[.int .i64 axl,.int .i64 axh,.int .i64 ayl,.int .i64 ayh,.int .i64 azl,.int .i64 azh,.int .i64 bxl,.int .i64 bxh,.int .i64 byl,.int .i64 byh,.int .i64 bzl,.int .i64 bzh] rfl _ und_208 rfl info_208 ?_)
   | (refine wpStoreF rfl rfl 208 _ _ rfl g1 0 rfl #[.int .i64 axl,.int .i64 axh,.int .i64 ayl,.int .i64 ayh,.int .i64 azl,.int .i64 azh,.int .i64 bxl,.int .i64 bxh,.int .i64 byl,.int .i64 byh,.int .i64 bzl,.int .i64 bzh] rfl _ _ (iC [axl,axh,ayl,ayh,azl,azh,bxl,bxh,byl,byh,bzl,bzh]) (HF2.out.get 5 rfl) rfl (by show 0+12≤12;omega) (one_all rfl) info_208 ?_;intro w3 hk ho;clear hw1 hg1;have HF4:=Lib.hid (HF2.out.only 5 rfl ho hk);clear ho hk))
 have HREL:Hid (∃ b e' k,WdX b∧K k b e'=R∧k=8∧Hid (Fr w [(cb,153,iC [e'])] [(qb,160,#[.int .i64 mul,.int .i64 muh,.int .i64 rl,.int .i64 rh,.int .i64 ol,.int .i64 oh,.int .i64 sl,.int .i64 sh,.int .i64 pxl,.int .i64 pxh,.int .i64 pyl,.int .i64 pyh,.int .i64 pzl,.int .i64 pzh,.int .i64 time,.int .i64 step,.int .i64 tl,.int .i64 th,.int .i64 fl,.int .i64 fh,.int .i64 dxl,.int .i64 dxh,.int .i64 dyl,.int .i64 dyh,.int .i64 dzl,.int .i64 dzh,.slice A n c,.int .i64 dl,.int .i64 dh]),(qb+1,208,iC [axl,axh,ayl,ayh,azl,azh,bxl,bxh,byl,byh,bzl,bzh]),(qb+1+1,31,iC [ql,qh]),(qb+1+1+1,31,iC [ml,mh]),(qb+1+1+1+1,208,iC [0,0,0,0,0,0,0,0,0,0,0,0]),(g1,208,iC [b.p.x.lo,b.p.x.hi,b.p.y.lo,b.p.y.hi,b.p.z.lo,b.p.z.hi,b.v.x.lo,b.v.x.hi,b.v.y.lo,b.v.y.hi,b.v.z.lo,b.v.z.hi])] w3)):=Lib.hid ⟨⟨⟨⟨axl,axh⟩,⟨ayl,ayh⟩,⟨azl,azh⟩⟩,⟨bxl,bxh⟩,⟨byl,byh⟩,⟨bzl,bzh⟩⟩,e,8,HXX.out,HR.out,rfl,HF4⟩
 clear HXX HR
 go_step3
 go_wp2_with fail
 go_loopw [18,13] (fun iv fv wr=>fv=.bool false∧∃ i:Nat,i≤8∧iv=.int .i64 i∧Hid (∃ b e' k,WdX b∧K k b e'=R∧k=8 - i∧Hid (Fr w [(cb,153,iC [e'])] [(qb,160,#[.int .i64 mul,.int .i64 muh,.int .i64 rl,.int .i64 rh,.int .i64 ol,.int .i64 oh,.int .i64 sl,.int .i64 sh,.int .i64 pxl,.int .i64 pxh,.int .i64 pyl,.int .i64 pyh,.int .i64 pzl,.int .i64 pzh,.int .i64 time,.int .i64 step,.int .i64 tl,.int .i64 th,.int .i64 fl,.int .i64 fh,.int .i64 dxl,.int .i64 dxh,.int .i64 dyl,.int .i64 dyh,.int .i64 dzl,.int .i64 dzh,.slice A n c,.int .i64 dl,.int .i64 dh]),(qb+1,208,iC [axl,axh,ayl,ayh,azl,azh,bxl,bxh,byl,byh,bzl,bzh]),(qb+1+1,31,iC [ql,qh]),(qb+1+1+1,31,iC [ml,mh]),(qb+1+1+1+1,208,iC [0,0,0,0,0,0,0,0,0,0,0,0]),(g1,208,iC [b.p.x.lo,b.p.x.hi,b.p.y.lo,b.p.y.hi,b.p.z.lo,b.p.z.hi,b.v.x.lo,b.v.x.hi,b.v.y.lo,b.v.y.hi,b.v.z.lo,b.v.z.hi])] wr))) (fun iv _ _=>8 - (intOf iv).toNat)
 case atStart=>exact ⟨rfl,0,Nat.zero_le _,rfl,HREL⟩
 case round =>
  obtain ⟨wo,rfl⟩:∃ wo:World,wo=wr:=⟨_,rfl⟩
  obtain ⟨rfl,i,hi,rfl,hs⟩:=hrel
  obtain ⟨b,e1,k,hb,hkr,hk8,hfr⟩:=hs.out
  have HB:=Lib.hid hb
  have HKR:=Lib.hid hkr
  have HFR:=Lib.hid hfr.out
  clear hb hkr hfr hs
  have h0i:(0:Int)≤(i:Int):=by omega
  by_cases hlt:i<8
  ·have hki:(i:Int)<8:=by omega
   obtain ⟨j,rfl⟩:∃ j,k=j+1:=⟨k - 1,by omega⟩
   obtain ⟨⟨f,ef⟩,hf⟩:∃ z,GF b e1=z:=⟨_,rfl⟩
   have H121:=fun w' hw=>HFO.out e1 b w' hw HB.out
   have wf:=HFW.out b e1
   rw [hf] at H121 wf
   obtain ⟨⟨mo,er⟩,hm⟩:∃ z,RM b.v f ef=z:=⟨_,rfl⟩
   have H163:=HRE.out ef b.v f HB.out.2 wf
   have wm:=HWX.out b.v f ef
   rw [hm] at H163 wm
   have H164:=fun w hk=>widened_any cb er b mo HB.out wm w hk
   have wn:=wd_widened HB.out mo er
   obtain ⟨⟨nx,en⟩,hn⟩:∃ z,widenedM b mo er=z:=⟨_,rfl⟩
   rw [hn] at H164 wn
   have HST:=HKS.out j b e1 f ef hf mo er hm nx en hn
   rw [HKR.out] at HST
   have H125:=fun w=>speed_any b w
   have HEQ:=fun w=>eql_six nx b w
   have HWN:=Lib.hid wn
   have HBEL:Hid (∀ w' X,Fr w [(cb,153,iC [e1])] X w'→Below B w w'):=Lib.hid fun w' X h=>h.belowAt (by simpa using hB) (Nat.le_trans hB (Nat.le_of_lt HKC.out.lt))
   obtain ⟨q,hq⟩:∃ q,decide (nx=b)=q:=⟨_,rfl⟩
   rw [hq] at HEQ
   have HQ:=Lib.hid hq
   have HS2:=Lib.hid HST
   clear hf wf hm wm hn wn HST hq HKR HFO HFW HRE HWX HKS HB
   obtain ⟨⟨⟨bpxl,bpxh⟩,⟨bpyl,bpyh⟩,⟨bpzl,bpzh⟩⟩,⟨bvxl,bvxh⟩,⟨bvyl,bvyh⟩,⟨bvzl,bvzh⟩⟩:=b
   obtain ⟨⟨⟨mpxl,mpxh⟩,⟨mpyl,mpyh⟩,⟨mpzl,mpzh⟩⟩,⟨mvxl,mvxh⟩,⟨mvyl,mvyh⟩,⟨mvzl,mvzh⟩⟩:=mo
   obtain ⟨⟨⟨npxl,npxh⟩,⟨npyl,npyh⟩,⟨npzl,npzh⟩⟩,⟨nvxl,nvxh⟩,⟨nvyl,nvyh⟩,⟨nvzl,nvzh⟩⟩:=nx
   obtain ⟨⟨fxl,fxh⟩,⟨fyl,fyh⟩,⟨fzl,fzh⟩⟩:=f
   unfold CkBox sixV boxV at H121
   unfold CkSix boxV sixV at H163
   unfold CkSix sixV at H164
   unfold sixV boxV at H125
   unfold sixV at HEQ
   dsimp only at H121 H163 H164 H125 HEQ
   have HEQ2:=Lib.hid HEQ
   replace H121:=Lib.hid H121
   replace H163:=Lib.hid H163
   replace H164:=Lib.hid H164
   replace H125:=Lib.hid H125
   clear HEQ
   go_upto_region 5 with (fail)
   go_wp2_with (first
     | (refine wpLoadF rfl 160 _ rfl qb 0 rfl _ _ (HFR.out.get 0 rfl) #[.int .i64 mul,.int .i64 muh,.int .i64 rl,.int .i64 rh,.int .i64 ol,.int .i64 oh,.int .i64 sl,.int .i64 sh,.int .i64 pxl,.int .i64 pxh,.int .i64 pyl,.int .i64 pyh,.int .i64 pzl,.int .i64 pzh,.int .i64 time,.int .i64 step,.int .i64 tl,.int .i64 th,.int .i64 fl,.int .i64 fh,.int .i64 dxl,.int .i64 dxh,.int .i64 dyl,.int .i64 dyh,.int .i64 dzl,.int .i64 dzh,.slice A n c,.int .i64 dl,.int .i64 dh] rfl _ und_160 rfl info_160 ?_)
     | (refine wpLoadF rfl 208 _ rfl g1 0 rfl _ _ (HFR.out.get 5 rfl) #[.int .i64 bpxl,.int .i64 bpxh,.int .i64 bpyl,.int .i64 bpyh,.int .i64 bpzl,.int .i64 bpzh,.int .i64 bvxl,.int .i64 bvxh,.int .i64 bvyl,.int .i64 bvyh,.int .i64 bvzl,.int .i64 bvzh] rfl _ und_208 rfl info_208 ?_)
     | (refine wpLoadF rfl 31 _ rfl (qb+1+1+1) 0 rfl _ _ (HFR.out.get 3 rfl) #[.int .i64 ml,.int .i64 mh] rfl _ und_span rfl info_span ?_))
   refine (H121.out _ (HBEL.out _ _ HFR.out) (HFR.out.getO 0 rfl)).mono ?_
   rintro e w5 ⟨rfl,hw⟩
   have HF6:=Lib.hid (HFR.out.turnO 0 rfl hw)
   clear hw
   obtain ⟨g7,hg7⟩:∃ g,w5.heap.size=g:=⟨_,rfl⟩
   obtain ⟨w7,hw7⟩:∃ u,w5.alloc (.cells #[.int .i64 0,.int .i64 0,.int .i64 0,.int .i64 0,.int .i64 0,.int .i64 0] 34)=u:=⟨_,rfl⟩
   have HF8:=Lib.hid (frE hw7 (HF6.out.alloc hg7.symm 34 #[.int .i64 0,.int .i64 0,.int .i64 0,.int .i64 0,.int .i64 0,.int .i64 0]))
   go_upto_region 6 with (refine wpStoreF rfl rfl 34 _ _ rfl g7 0 rfl #[.int .i64 fxl,.int .i64 fxh,.int .i64 fyl,.int .i64 fyh,.int .i64 fzl,.int .i64 fzh] rfl _ _ (iC [fxl,fxh,fyl,fyh,fzl,fzh]) (HF8.out.get 6 rfl) rfl (by show 0+6≤6;omega) (one_all rfl) info_34 ?_;intro w9 hk ho;clear hw7 hg7;have HF10:=Lib.hid (HF8.out.only 6 rfl ho hk);clear ho hk)
   refine wp_region_fr [Kind.p,Kind.p,Kind.p,Kind.p,Kind.p,Kind.p,Kind.c 0,Kind.a 0,Kind.c 1] [6,8] [(7,208,fun k=>(if k≤1 then iC [0,0,0,0,0,0,0,0,0,0,0,0] else iC [mpxl,mpxh,mpyl,mpyh,mpzl,mpzh,mvxl,mvxh,mvyl,mvyh,mvzl,mvzh]))] w (fun k=>[(cb,153,(if k≤0 then iC [ef] else iC [er]))]) (fun _=>_)
      (fun ix u _=>match ix with
       | 0=>u=.pointer (some ⟨cb,0,none⟩)
       | 1=>u=.agg #[.int .i64 axl,.int .i64 axh,.int .i64 ayl,.int .i64 ayh,.int .i64 azl,.int .i64 azh,.int .i64 bxl,.int .i64 bxh,.int .i64 byl,.int .i64 byh,.int .i64 bzl,.int .i64 bzh]
       | 2=>u=.agg #[.int .i64 ql,.int .i64 qh]
       | 3=>u=.agg #[.int .i64 bpxl,.int .i64 bpxh,.int .i64 bpyl,.int .i64 bpyh,.int .i64 bpzl,.int .i64 bpzh,.int .i64 bvxl,.int .i64 bvxh,.int .i64 bvyl,.int .i64 bvyh,.int .i64 bvzl,.int .i64 bvzh]
       | 4=>u=.agg #[.int .i64 bvxl,.int .i64 bvxh,.int .i64 bvyl,.int .i64 bvyh,.int .i64 bvzl,.int .i64 bvzh]
       | 5=>u=.agg #[.int .i64 fxl,.int .i64 fxh,.int .i64 fyl,.int .i64 fyh,.int .i64 fzl,.int .i64 fzh]
       | 6=>u=.agg #[.int .i64 mpxl,.int .i64 mpxh,.int .i64 mpyl,.int .i64 mpyh,.int .i64 mpzl,.int .i64 mpzh,.int .i64 mvxl,.int .i64 mvxh,.int .i64 mvyl,.int .i64 mvyh,.int .i64 mvzl,.int .i64 mvzh]
       | 7=>u=.pointer (some ⟨gOf u,0,none⟩)
       | _=>True)
      (by kernel_rfl) (by kernel_rfl) (by kernel_rfl) [7] rfl (by decide) (by kernel_rfl) (by kernel_rfl) HF10.out ?_ ?_
   ·refine ⟨?_,?_,?_,?_,?_,?_,?_,?_,?_,trivial⟩
    all_goals intro a w1 vs dn k K S hpre KE DE kk
    ·have e1:=KE 1 (by decide)
     go_simp;exact kk _ _ (by simp) bR rfl
    ·have e7:=KE 7 (by decide)
     exact wpo_loadF 208 (.tmp 7) rfl (qb+1) 0 (by simpa [Act.eval] using e7) _ _ (S.fr.left.get 1 rfl) #[.int .i64 axl,.int .i64 axh,.int .i64 ayl,.int .i64 ayh,.int .i64 azl,.int .i64 azh,.int .i64 bxl,.int .i64 bxh,.int .i64 byl,.int .i64 byh,.int .i64 bzl,.int .i64 bzh] rfl _ und_208 rfl info_208 (kk _ _ (by simp) bR rfl)
    ·have e8:=KE 8 (by decide)
     exact wpo_loadF 31 (.tmp 8) rfl (qb+1+1) 0 (by simpa [Act.eval] using e8) _ _ (S.fr.left.get 2 rfl) #[.int .i64 ql,.int .i64 qh] rfl _ und_span rfl info_span (kk _ _ (by simp) bR rfl)
    ·have e12:=KE 12 (by decide)
     exact wpo_loadF 208 (.tmp 12) rfl g1 0 (by simpa [Act.eval] using e12) _ _ (S.fr.left.get 5 rfl) #[.int .i64 bpxl,.int .i64 bpxh,.int .i64 bpyl,.int .i64 bpyh,.int .i64 bpzl,.int .i64 bpzh,.int .i64 bvxl,.int .i64 bvxh,.int .i64 bvyl,.int .i64 bvyh,.int .i64 bvzl,.int .i64 bvzh] rfl _ und_208 rfl info_208 (kk _ _ (by simp) bR rfl)
    ·have e28:=dep (DE 3 _ 28 rfl rfl rfl)
     exact wpo_call 125 _ _ rfl #[.agg #[.int .i64 bpxl,.int .i64 bpxh,.int .i64 bpyl,.int .i64 bpyh,.int .i64 bpzl,.int .i64 bpzh,.int .i64 bvxl,.int .i64 bvxh,.int .i64 bvyl,.int .i64 bvyh,.int .i64 bvzl,.int .i64 bvzh]] (by simp [Act.eval,e28]) (fun args w=>by kernel_rfl)
      ((H125.out w1).mono fun e w' ⟨he,hb⟩=>⟨_,he,kk _ _ (by simp) hb rfl⟩)
    ·have e14:=KE 14 (by decide)
     exact wpo_loadF 34 (.tmp 14) rfl g7 0 (by simpa [Act.eval] using e14) _ _ (S.fr.left.get 6 rfl) #[.int .i64 fxl,.int .i64 fxh,.int .i64 fyl,.int .i64 fyh,.int .i64 fzl,.int .i64 fzh] rfl _ und_34 rfl info_34 (kk _ _ (by simp) bR rfl)
    ·subst hpre
     have e25:=dep (DE 0 _ 25 rfl rfl rfl)
     have e26:=dep (DE 1 _ 26 rfl rfl rfl)
     have e27:=dep (DE 2 _ 27 rfl rfl rfl)
     have e29:=dep (DE 4 _ 29 rfl rfl rfl)
     have e30:=dep (DE 5 _ 30 rfl rfl rfl)
     exact wpo_call 163 _ _ rfl #[.pointer (some ⟨cb,0,none⟩),.agg #[.int .i64 axl,.int .i64 axh,.int .i64 ayl,.int .i64 ayh,.int .i64 azl,.int .i64 azh,.int .i64 bxl,.int .i64 bxh,.int .i64 byl,.int .i64 byh,.int .i64 bzl,.int .i64 bzh],.agg #[.int .i64 ql,.int .i64 qh],.agg #[.int .i64 bvxl,.int .i64 bvxh,.int .i64 bvyl,.int .i64 bvyh,.int .i64 bvzl,.int .i64 bvzh],.agg #[.int .i64 fxl,.int .i64 fxh,.int .i64 fyl,.int .i64 fyh,.int .i64 fzl,.int .i64 fzh]] (by simp [Act.eval,e25,e26,e27,e29,e30]) (fun args w=>by kernel_rfl)
      ((H163.out w1 (S.fr.getO 0 rfl)).mono fun e w' ⟨he,hb⟩=>⟨_,he,kk _ _ (by simp) (Fr.stage (S.fr.turnO 0 rfl hb) (by exact ⟨rfl,trivial⟩)) rfl⟩)
    ·go_simp;exact kk _ _ (by simp) (by have h:=S.fr.alloc rfl 208 #[.int .i64 0,.int .i64 0,.int .i64 0,.int .i64 0,.int .i64 0,.int .i64 0,.int .i64 0,.int .i64 0,.int .i64 0,.int .i64 0,.int .i64 0,.int .i64 0];show Fr _ _ (_ ++ [(_,208,if k≤1 then _ else _)]) _;rw [if_pos (S.hi 1 8 rfl rfl)];exact h) rfl
    ·subst hpre
     have e15:=dep (DE 7 _ 15 rfl rfl rfl)
     have e31:=dep (DE 6 _ 31 rfl rfl rfl)
     have HS:=Fr.done S.fr (by exact ⟨S.done 7 rfl,trivial⟩)
     exact wpo_storeF 208 (.tmp 15) (.tmp 31) rfl rfl ((gOf (vs 7))) 0 (by simpa [Act.eval] using e15) #[.int .i64 mpxl,.int .i64 mpxh,.int .i64 mpyl,.int .i64 mpyh,.int .i64 mpzl,.int .i64 mpzh,.int .i64 mvxl,.int .i64 mvxh,.int .i64 mvyl,.int .i64 mvyh,.int .i64 mvzl,.int .i64 mvzh] (by simpa [Act.eval] using e31) _ _ (iC [mpxl,mpxh,mpyl,mpyh,mpzl,mpzh,mvxl,mvxh,mvyl,mvyh,mvzl,mvzh]) (HS.get 7 rfl) rfl (by show 0+12≤12;omega) (one_all rfl) info_208 fun w' hk ho=>kk _ _ (by simp) (Fr.undone (HS.only 7 rfl ho hk) (by exact ⟨S.done 7 rfl,trivial⟩)) trivial
   ·intro vs wf HFr HR
    have HFr':Fr w [(cb,153,iC [er])] [(qb,160,#[.int .i64 mul,.int .i64 muh,.int .i64 rl,.int .i64 rh,.int .i64 ol,.int .i64 oh,.int .i64 sl,.int .i64 sh,.int .i64 pxl,.int .i64 pxh,.int .i64 pyl,.int .i64 pyh,.int .i64 pzl,.int .i64 pzh,.int .i64 time,.int .i64 step,.int .i64 tl,.int .i64 th,.int .i64 fl,.int .i64 fh,.int .i64 dxl,.int .i64 dxh,.int .i64 dyl,.int .i64 dyh,.int .i64 dzl,.int .i64 dzh,.slice A n c,.int .i64 dl,.int .i64 dh]),(qb+1,208,iC [axl,axh,ayl,ayh,azl,azh,bxl,bxh,byl,byh,bzl,bzh]),(qb+1+1,31,iC [ql,qh]),(qb+1+1+1,31,iC [ml,mh]),(qb+1+1+1+1,208,iC [0,0,0,0,0,0,0,0,0,0,0,0]),(g1,208,iC [bpxl,bpxh,bpyl,bpyh,bpzl,bpzh,bvxl,bvxh,bvyl,bvyh,bvzl,bvzh]),(g7,34,iC [fxl,fxh,fyl,fyh,fzl,fzh]),((gOf (vs 7)),208,iC [mpxl,mpxh,mpyl,mpyh,mpzl,mpzh,mvxl,mvxh,mvyl,mvyh,mvzl,mvzh])] wf:=HFr
    have v7:vs 7=.pointer (some ⟨(gOf (vs 7)),0,none⟩):=HR 7 _ rfl
    clear HFr HR
    obtain ⟨g11_7,hg11_7⟩:∃ g,gOf (vs 7)=g:=⟨_,rfl⟩
    rw [hg11_7] at HFr'
    rw [hg11_7] at v7
    clear hg11_7
    have HF11:=Lib.hid HFr'
    clear HFr'
    simp only [putAll,Act.put,List.setIfInBounds_toArray,List.set_cons_zero,List.set_cons_succ]
    simp only [v7]
    clear v7
    obtain ⟨w11,rfl⟩:∃ u:World,u=wf:=⟨_,rfl⟩
    by_cases he:er=0
    ·subst he
     rw [if_neg (by simp)] at HS2
     have HS3:=Lib.hid HS2.out
     clear HS2
     have c12:w11.cell? ⟨cb,0,none⟩=some (.int .i64 0):=(HF11.out.getO 0 rfl).cell 0
     go_wp2_with (first
       | (refine wpLoadF rfl 208 _ rfl g1 0 rfl _ _ (HF11.out.get 5 rfl) #[.int .i64 bpxl,.int .i64 bpxh,.int .i64 bpyl,.int .i64 bpyh,.int .i64 bpzl,.int .i64 bpzh,.int .i64 bvxl,.int .i64 bvxh,.int .i64 bvyl,.int .i64 bvyh,.int .i64 bvzl,.int .i64 bvzh] rfl _ und_208 rfl info_208 ?_)
       | (refine wpLoadF rfl 208 _ rfl g11_7 0 rfl _ _ (HF11.out.get 7 rfl) #[.int .i64 mpxl,.int .i64 mpxh,.int .i64 mpyl,.int .i64 mpyh,.int .i64 mpzl,.int .i64 mpzh,.int .i64 mvxl,.int .i64 mvxh,.int .i64 mvyl,.int .i64 mvyh,.int .i64 mvzl,.int .i64 mvzh] rfl _ und_208 rfl info_208 ?_))
     clear c12
     refine (H164.out _ (HF11.out.getO 0 rfl)).mono ?_
     rintro e w13 ⟨rfl,hw⟩
     have HF14:=Lib.hid (HF11.out.turnO 0 rfl hw)
     clear hw
     obtain ⟨g15,hg15⟩:∃ g,w13.heap.size=g:=⟨_,rfl⟩
     obtain ⟨w15,hw15⟩:∃ u,w13.alloc (.cells #[.int .i64 0,.int .i64 0,.int .i64 0,.int .i64 0,.int .i64 0,.int .i64 0,.int .i64 0,.int .i64 0,.int .i64 0,.int .i64 0,.int .i64 0,.int .i64 0] 208)=u:=⟨_,rfl⟩
     have HF16:=Lib.hid (frE hw15 (HF14.out.alloc hg15.symm 208 #[.int .i64 0,.int .i64 0,.int .i64 0,.int .i64 0,.int .i64 0,.int .i64 0,.int .i64 0,.int .i64 0,.int .i64 0,.int .i64 0,.int .i64 0,.int .i64 0]))
     have he9:=HEQ2.out
     clear HEQ2
     cases q with
     | true =>
      have hne:=of_decide_eq_true HQ.out
      rw [if_pos hne] at HS3
      clear hne HQ
      go_wp2_with (first
        | (refine wpLoadF rfl 208 _ rfl g15 0 rfl _ _ (HF18.out.get 8 rfl) #[.int .i64 npxl,.int .i64 npxh,.int .i64 npyl,.int .i64 npyh,.int .i64 npzl,.int .i64 npzh,.int .i64 nvxl,.int .i64 nvxh,.int .i64 nvyl,.int .i64 nvyh,.int .i64 nvzl,.int .i64 nvzh] rfl _ und_208 rfl info_208 ?_)
        | (refine wpLoadF rfl 208 _ rfl g1 0 rfl _ _ (HF18.out.get 5 rfl) #[.int .i64 bpxl,.int .i64 bpxh,.int .i64 bpyl,.int .i64 bpyh,.int .i64 bpzl,.int .i64 bpzh,.int .i64 bvxl,.int .i64 bvxh,.int .i64 bvyl,.int .i64 bvyh,.int .i64 bvzl,.int .i64 bvzh] rfl _ und_208 rfl info_208 ?_)
        | (refine wpLoadF rfl 208 _ rfl g11_7 0 rfl _ _ (HF18.out.get 7 rfl) #[.int .i64 mpxl,.int .i64 mpxh,.int .i64 mpyl,.int .i64 mpyh,.int .i64 mpzl,.int .i64 mpzh,.int .i64 mvxl,.int .i64 mvxh,.int .i64 mvyl,.int .i64 mvyh,.int .i64 mvzl,.int .i64 mvzh] rfl _ und_208 rfl info_208 ?_)
        | (refine wpStoreF rfl rfl 208 _ _ rfl g15 0 rfl #[.int .i64 npxl,.int .i64 npxh,.int .i64 npyl,.int .i64 npyh,.int .i64 npzl,.int .i64 npzh,.int .i64 nvxl,.int .i64 nvxh,.int .i64 nvyl,.int .i64 nvyh,.int .i64 nvzl,.int .i64 nvzh] rfl _ _ (iC [npxl,npxh,npyl,npyh,npzl,npzh,nvxl,nvxh,nvyl,nvyh,nvzl,nvzh]) (HF16.out.get 8 rfl) rfl (by show 0+12≤12;omega) (one_all rfl) info_208 ?_;intro w17 hk ho;clear hw15 hg15;have HF18:=Lib.hid (HF16.out.only 8 rfl ho hk);clear ho hk)
        | (refine wpStoreF rfl rfl 208 _ _ rfl g1 0 rfl #[.int .i64 mpxl,.int .i64 mpxh,.int .i64 mpyl,.int .i64 mpyh,.int .i64 mpzl,.int .i64 mpzh,.int .i64 mvxl,.int .i64 mvxh,.int .i64 mvyl,.int .i64 mvyh,.int .i64 mvzl,.int .i64 mvzh] rfl _ _ (iC [mpxl,mpxh,mpyl,mpyh,mpzl,mpzh,mvxl,mvxh,mvyl,mvyh,mvzl,mvzh]) (HF18.out.get 5 rfl) rfl (by show 0+12≤12;omega) (one_all rfl) info_208 ?_;intro w19 hk ho;have HF20:=Lib.hid (HF18.out.only 5 rfl ho hk);clear ho hk))
      refine wp_region_fr [Kind.p,Kind.p,Kind.p,Kind.p,Kind.p,Kind.p,Kind.p,Kind.p,Kind.p,Kind.c 0,Kind.p] [9] [] w (fun _=>_) (fun k=>[(qb,160,#[.int .i64 mul,.int .i64 muh,.int .i64 rl,.int .i64 rh,.int .i64 ol,.int .i64 oh,.int .i64 sl,.int .i64 sh,.int .i64 pxl,.int .i64 pxh,.int .i64 pyl,.int .i64 pyh,.int .i64 pzl,.int .i64 pzh,.int .i64 time,.int .i64 step,.int .i64 tl,.int .i64 th,.int .i64 fl,.int .i64 fh,.int .i64 dxl,.int .i64 dxh,.int .i64 dyl,.int .i64 dyh,.int .i64 dzl,.int .i64 dzh,.slice A n c,.int .i64 dl,.int .i64 dh]),(qb+1,208,iC [axl,axh,ayl,ayh,azl,azh,bxl,bxh,byl,byh,bzl,bzh]),(qb+1+1,31,iC [ql,qh]),(qb+1+1+1,31,iC [ml,mh]),(qb+1+1+1+1,208,(if k≤0 then iC [0,0,0,0,0,0,0,0,0,0,0,0] else iC [mpxl,mpxh,mpyl,mpyh,mpzl,mpzh,mvxl,mvxh,mvyl,mvyh,mvzl,mvzh])),(g1,208,iC [mpxl,mpxh,mpyl,mpyh,mpzl,mpzh,mvxl,mvxh,mvyl,mvyh,mvzl,mvzh]),(g7,34,iC [fxl,fxh,fyl,fyh,fzl,fzh]),(g11_7,208,iC [mpxl,mpxh,mpyl,mpyh,mpzl,mpzh,mvxl,mvxh,mvyl,mvyh,mvzl,mvzh]),(g15,208,iC [npxl,npxh,npyl,npyh,npzl,npzh,nvxl,nvxh,nvyl,nvyh,nvzl,nvzh])])
         (fun ix u _=>match ix with
          | 0=>u=.agg #[.int .i64 mpxl,.int .i64 mpxh,.int .i64 mpyl,.int .i64 mpyh,.int .i64 mpzl,.int .i64 mpzh,.int .i64 mvxl,.int .i64 mvxh,.int .i64 mvyl,.int .i64 mvyh,.int .i64 mvzl,.int .i64 mvzh]
          | 1=>u=.bool true
          | 2=>u=.bool true
          | 3=>u=.pointer (some ⟨cb,0,none⟩)
          | 4=>u=.pointer (some ⟨cb,0,none⟩)
          | 5=>u=.pointer (some ⟨cb,0,none⟩)
          | 6=>u=.int .i64 en
          | 7=>u=.bool (en == 0)
          | 8=>u=.bool (en == 0)
          | 10=>u=.bool (en == 0)
          | _=>True)
         (by kernel_rfl) (by kernel_rfl) (by kernel_rfl) [] rfl (by decide) (by kernel_rfl) (by kernel_rfl) HF20.out ?_ ?_
      ·refine ⟨?_,?_,?_,?_,?_,?_,?_,?_,?_,?_,?_,trivial⟩
       all_goals intro a w1 vs dn k K S hpre KE DE kk
       ·have e12:=KE 12 (by decide)
        exact wpo_loadF 208 (.tmp 12) rfl g1 0 (by simpa [Act.eval] using e12) _ _ (S.fr.left.get 5 rfl) #[.int .i64 mpxl,.int .i64 mpxh,.int .i64 mpyl,.int .i64 mpyh,.int .i64 mpzl,.int .i64 mpzh,.int .i64 mvxl,.int .i64 mvxh,.int .i64 mvyl,.int .i64 mvyh,.int .i64 mvzl,.int .i64 mvzh] rfl _ und_208 rfl info_208 (kk _ _ (by simp) bR rfl)
       ·have e13:=KE 13 (by decide)
        go_simp;exact kk _ _ (by simp) bR rfl
       ·have e48:=dep (DE 1 _ 48 rfl rfl rfl)
        go_simp;exact kk _ _ (by simp) bR rfl
       ·have e1:=KE 1 (by decide)
        have eg:=dep (DE 2 _ 49 rfl rfl rfl)
        rw [if_pos (wanted_yes 2 true rfl rfl rfl eg)]
        clear eg
        go_simp;exact kk _ _ (by simp) bR rfl
       ·have e50:=dep (DE 3 _ 50 rfl rfl rfl)
        have eg:=dep (DE 2 _ 49 rfl rfl rfl)
        rw [if_pos (wanted_yes 2 true rfl rfl rfl eg)]
        clear eg
        go_simp;exact kk _ _ (by simp) bR rfl
       ·have e51:=dep (DE 4 _ 51 rfl rfl rfl)
        have eg:=dep (DE 2 _ 49 rfl rfl rfl)
        rw [if_pos (wanted_yes 2 true rfl rfl rfl eg)]
        clear eg
        go_simp;exact kk _ _ (by simp) bR rfl
       ·have e52:=dep (DE 5 _ 52 rfl rfl rfl)
        have eg:=dep (DE 2 _ 49 rfl rfl rfl)
        rw [if_pos (wanted_yes 2 true rfl rfl rfl eg)]
        clear eg
        have ca:w1.cell? ⟨cb,0,none⟩=some (.int .i64 en):=(S.fr.getO 0 rfl).cell 0
        go_simp;exact kk _ _ (by simp) bR rfl
       ·have e53:=dep (DE 6 _ 53 rfl rfl rfl)
        have eg:=dep (DE 2 _ 49 rfl rfl rfl)
        rw [if_pos (wanted_yes 2 true rfl rfl rfl eg)]
        clear eg
        go_simp;exact kk _ _ (by simp) bR rfl
       ·have e49:=dep (DE 2 _ 49 rfl rfl rfl)
        have e54:=dep (DE 7 _ 54 rfl rfl rfl)
        go_simp;exact kk _ _ (by simp) bR rfl
       ·subst hpre
        have e10:=KE 10 (by decide)
        have e47:=dep (DE 0 _ 47 rfl rfl rfl)
        exact wpo_storeF 208 (.tmp 10) (.tmp 47) rfl rfl (qb+1+1+1+1) 0 (by simpa [Act.eval] using e10) #[.int .i64 mpxl,.int .i64 mpxh,.int .i64 mpyl,.int .i64 mpyh,.int .i64 mpzl,.int .i64 mpzh,.int .i64 mvxl,.int .i64 mvxh,.int .i64 mvyl,.int .i64 mvyh,.int .i64 mvzl,.int .i64 mvzh] (by simpa [Act.eval] using e47) _ _ (iC [mpxl,mpxh,mpyl,mpyh,mpzl,mpzh,mvxl,mvxh,mvyl,mvyh,mvzl,mvzh]) (by have:=S.fr.left.get 4 rfl;rw [if_pos (S.hi 0 9 rfl rfl)] at this;exact this) rfl (by show 0+12≤12;omega) (one_all rfl) info_208 fun w' hk ho=>kk _ _ (by simp) (Fr.stage (S.fr.only 4 rfl ho hk) (by exact trivial)) trivial
       ·have e55:=dep (DE 8 _ 55 rfl rfl rfl)
        go_simp;exact kk _ _ (by simp) bR rfl
      ·intro vs wf HFr HR
       have HFr':Fr w [(cb,153,iC [en])] [(qb,160,#[.int .i64 mul,.int .i64 muh,.int .i64 rl,.int .i64 rh,.int .i64 ol,.int .i64 oh,.int .i64 sl,.int .i64 sh,.int .i64 pxl,.int .i64 pxh,.int .i64 pyl,.int .i64 pyh,.int .i64 pzl,.int .i64 pzh,.int .i64 time,.int .i64 step,.int .i64 tl,.int .i64 th,.int .i64 fl,.int .i64 fh,.int .i64 dxl,.int .i64 dxh,.int .i64 dyl,.int .i64 dyh,.int .i64 dzl,.int .i64 dzh,.slice A n c,.int .i64 dl,.int .i64 dh]),(qb+1,208,iC [axl,axh,ayl,ayh,azl,azh,bxl,bxh,byl,byh,bzl,bzh]),(qb+1+1,31,iC [ql,qh]),(qb+1+1+1,31,iC [ml,mh]),(qb+1+1+1+1,208,iC [mpxl,mpxh,mpyl,mpyh,mpzl,mpzh,mvxl,mvxh,mvyl,mvyh,mvzl,mvzh]),(g1,208,iC [mpxl,mpxh,mpyl,mpyh,mpzl,mpzh,mvxl,mvxh,mvyl,mvyh,mvzl,mvzh]),(g7,34,iC [fxl,fxh,fyl,fyh,fzl,fzh]),(g11_7,208,iC [mpxl,mpxh,mpyl,mpyh,mpzl,mpzh,mvxl,mvxh,mvyl,mvyh,mvzl,mvzh]),(g15,208,iC [npxl,npxh,npyl,npyh,npzl,npzh,nvxl,nvxh,nvyl,nvyh,nvzl,nvzh])] wf:=HFr
       have v10:vs 10=.bool (en == 0):=HR 10 _ rfl
       clear HFr HR
       have HF21:=Lib.hid HFr'
       clear HFr'
       simp only [putAll,Act.put,List.setIfInBounds_toArray,List.set_cons_zero,List.set_cons_succ]
       simp only [v10]
       clear v10
       obtain ⟨w21,rfl⟩:∃ u:World,u=wf:=⟨_,rfl⟩
       go_wp2_with fail
       try rw [Exit.noGoto_ret]
       refine ret_agg2 rfl rfl rfl (HF21.out.get 4 rfl) rfl und_208 rfl info_208 ?_
       exact HFIN.out _ ⟨⟨⟨mpxl,mpxh⟩,⟨mpyl,mpyh⟩,⟨mpzl,mpzh⟩⟩,⟨mvxl,mvxh⟩,⟨mvyl,mvyh⟩,⟨mvzl,mvzh⟩⟩ _ _ _ HS3.out (by rw [Bool.true_and];rfl) HF21.out.drop
     | false =>
      have hne:=of_decide_eq_false HQ.out
      rw [if_neg hne] at HS3
      clear hne HQ
      go_wp2_with (first
        | (refine wpLoadF rfl 208 _ rfl g15 0 rfl _ _ (HF18.out.get 8 rfl) #[.int .i64 npxl,.int .i64 npxh,.int .i64 npyl,.int .i64 npyh,.int .i64 npzl,.int .i64 npzh,.int .i64 nvxl,.int .i64 nvxh,.int .i64 nvyl,.int .i64 nvyh,.int .i64 nvzl,.int .i64 nvzh] rfl _ und_208 rfl info_208 ?_)
        | (refine wpLoadF rfl 208 _ rfl g1 0 rfl _ _ (HF18.out.get 5 rfl) #[.int .i64 bpxl,.int .i64 bpxh,.int .i64 bpyl,.int .i64 bpyh,.int .i64 bpzl,.int .i64 bpzh,.int .i64 bvxl,.int .i64 bvxh,.int .i64 bvyl,.int .i64 bvyh,.int .i64 bvzl,.int .i64 bvzh] rfl _ und_208 rfl info_208 ?_)
        | (refine wpStoreF rfl rfl 208 _ _ rfl g15 0 rfl #[.int .i64 npxl,.int .i64 npxh,.int .i64 npyl,.int .i64 npyh,.int .i64 npzl,.int .i64 npzh,.int .i64 nvxl,.int .i64 nvxh,.int .i64 nvyl,.int .i64 nvyh,.int .i64 nvzl,.int .i64 nvzh] rfl _ _ (iC [npxl,npxh,npyl,npyh,npzl,npzh,nvxl,nvxh,nvyl,nvyh,nvzl,nvzh]) (HF16.out.get 8 rfl) rfl (by show 0+12≤12;omega) (one_all rfl) info_208 ?_;intro w17 hk ho;clear hw15 hg15;have HF18:=Lib.hid (HF16.out.only 8 rfl ho hk);clear ho hk)
        | (refine wpStoreF rfl rfl 208 _ _ rfl g1 0 rfl #[.int .i64 npxl,.int .i64 npxh,.int .i64 npyl,.int .i64 npyh,.int .i64 npzl,.int .i64 npzh,.int .i64 nvxl,.int .i64 nvxh,.int .i64 nvyl,.int .i64 nvyh,.int .i64 nvzl,.int .i64 nvzh] rfl _ _ (iC [npxl,npxh,npyl,npyh,npzl,npzh,nvxl,nvxh,nvyl,nvyh,nvzl,nvzh]) (HF18.out.get 5 rfl) rfl (by show 0+12≤12;omega) (one_all rfl) info_208 ?_;intro w19 hk ho;have HF20:=Lib.hid (HF18.out.only 5 rfl ho hk);clear ho hk))
      go_roundw
      case rel=>exact ⟨rfl,i+1,by omega,by go_num,Lib.hid ⟨⟨⟨⟨npxl,npxh⟩,⟨npyl,npyh⟩,⟨npzl,npzh⟩⟩,⟨nvxl,nvxh⟩,⟨nvyl,nvyh⟩,⟨nvzl,nvzh⟩⟩,_,j,HWN.out,HS3.out.symm,by omega,Lib.hid (HF20.out.sub (List.sublist_append_left [_,_,_,_,_,_] _))⟩⟩
      case measure=>simp [intOf];omega
    ·have hb2:(er != 0)=true:=by simpa using he
     rw [if_pos he] at HS2
     have c12:w11.cell? ⟨cb,0,none⟩=some (.int .i64 er):=(HF11.out.getO 0 rfl).cell 0
     go_wp2_with fail
     clear c12
     refine wp_region_fr [Kind.p,Kind.p,Kind.p,Kind.p,Kind.p,Kind.p,Kind.p,Kind.p,Kind.p,Kind.c 0,Kind.p] [9] [] w (fun _=>_) (fun k=>[(qb,160,#[.int .i64 mul,.int .i64 muh,.int .i64 rl,.int .i64 rh,.int .i64 ol,.int .i64 oh,.int .i64 sl,.int .i64 sh,.int .i64 pxl,.int .i64 pxh,.int .i64 pyl,.int .i64 pyh,.int .i64 pzl,.int .i64 pzh,.int .i64 time,.int .i64 step,.int .i64 tl,.int .i64 th,.int .i64 fl,.int .i64 fh,.int .i64 dxl,.int .i64 dxh,.int .i64 dyl,.int .i64 dyh,.int .i64 dzl,.int .i64 dzh,.slice A n c,.int .i64 dl,.int .i64 dh]),(qb+1,208,iC [axl,axh,ayl,ayh,azl,azh,bxl,bxh,byl,byh,bzl,bzh]),(qb+1+1,31,iC [ql,qh]),(qb+1+1+1,31,iC [ml,mh]),(qb+1+1+1+1,208,(if k≤0 then iC [0,0,0,0,0,0,0,0,0,0,0,0] else iC [bpxl,bpxh,bpyl,bpyh,bpzl,bpzh,bvxl,bvxh,bvyl,bvyh,bvzl,bvzh])),(g1,208,iC [bpxl,bpxh,bpyl,bpyh,bpzl,bpzh,bvxl,bvxh,bvyl,bvyh,bvzl,bvzh]),(g7,34,iC [fxl,fxh,fyl,fyh,fzl,fzh]),(g11_7,208,iC [mpxl,mpxh,mpyl,mpyh,mpzl,mpzh,mvxl,mvxh,mvyl,mvyh,mvzl,mvzh])])
        (fun ix u _=>match ix with
         | 0=>u=.agg #[.int .i64 bpxl,.int .i64 bpxh,.int .i64 bpyl,.int .i64 bpyh,.int .i64 bpzl,.int .i64 bpzh,.int .i64 bvxl,.int .i64 bvxh,.int .i64 bvyl,.int .i64 bvyh,.int .i64 bvzl,.int .i64 bvzh]
         | 1=>u=.bool false
         | 2=>u=.bool false
         | 8=>u=.bool false
         | 10=>u=.bool false
         | _=>True)
        (by kernel_rfl) (by kernel_rfl) (by kernel_rfl) [] rfl (by decide) (by kernel_rfl) (by kernel_rfl) HF11.out ?_ ?_
     ·refine ⟨?_,?_,?_,?_,?_,?_,?_,?_,?_,?_,?_,trivial⟩
      all_goals intro a w1 vs dn k K S hpre KE DE kk
      ·have e12:=KE 12 (by decide)
       exact wpo_loadF 208 (.tmp 12) rfl g1 0 (by simpa [Act.eval] using e12) _ _ (S.fr.left.get 5 rfl) #[.int .i64 bpxl,.int .i64 bpxh,.int .i64 bpyl,.int .i64 bpyh,.int .i64 bpzl,.int .i64 bpzh,.int .i64 bvxl,.int .i64 bvxh,.int .i64 bvyl,.int .i64 bvyh,.int .i64 bvzl,.int .i64 bvzh] rfl _ und_208 rfl info_208 (kk _ _ (by simp) bR rfl)
      ·have e13:=KE 13 (by decide)
       go_simp;exact kk _ _ (by simp) bR rfl
      ·have e48:=dep (DE 1 _ 48 rfl rfl rfl)
       go_simp;exact kk _ _ (by simp) bR rfl
      ·have e1:=KE 1 (by decide)
       have eg:=dep (DE 2 _ 49 rfl rfl rfl)
       rw [if_neg (wanted_no 2 true rfl rfl rfl eg)]
       clear eg
       exact kk undef _ (fun _=>rfl) (Below.refl _ _) trivial
      ·have eg:=dep (DE 2 _ 49 rfl rfl rfl)
       rw [if_neg (wanted_no 2 true rfl rfl rfl eg)]
       clear eg
       exact kk undef _ (fun _=>rfl) (Below.refl _ _) trivial
      ·have eg:=dep (DE 2 _ 49 rfl rfl rfl)
       rw [if_neg (wanted_no 2 true rfl rfl rfl eg)]
       clear eg
       exact kk undef _ (fun _=>rfl) (Below.refl _ _) trivial
      ·have eg:=dep (DE 2 _ 49 rfl rfl rfl)
       rw [if_neg (wanted_no 2 true rfl rfl rfl eg)]
       clear eg
       exact kk undef _ (fun _=>rfl) (Below.refl _ _) trivial
      ·have eg:=dep (DE 2 _ 49 rfl rfl rfl)
       rw [if_neg (wanted_no 2 true rfl rfl rfl eg)]
       clear eg
       exact kk undef _ (fun _=>rfl) (Below.refl _ _) trivial
      ·have e49:=dep (DE 2 _ 49 rfl rfl rfl)
       go_simp;exact kk _ _ (by simp) bR rfl
      ·subst hpre
       have e10:=KE 10 (by decide)
       have e47:=dep (DE 0 _ 47 rfl rfl rfl)
       exact wpo_storeF 208 (.tmp 10) (.tmp 47) rfl rfl (qb+1+1+1+1) 0 (by simpa [Act.eval] using e10) #[.int .i64 bpxl,.int .i64 bpxh,.int .i64 bpyl,.int .i64 bpyh,.int .i64 bpzl,.int .i64 bpzh,.int .i64 bvxl,.int .i64 bvxh,.int .i64 bvyl,.int .i64 bvyh,.int .i64 bvzl,.int .i64 bvzh] (by simpa [Act.eval] using e47) _ _ (iC [bpxl,bpxh,bpyl,bpyh,bpzl,bpzh,bvxl,bvxh,bvyl,bvyh,bvzl,bvzh]) (by have:=S.fr.left.get 4 rfl;rw [if_pos (S.hi 0 9 rfl rfl)] at this;exact this) rfl (by show 0+12≤12;omega) (one_all rfl) info_208 fun w' hk ho=>kk _ _ (by simp) (Fr.stage (S.fr.only 4 rfl ho hk) (by exact trivial)) trivial
      ·have e55:=dep (DE 8 _ 55 rfl rfl rfl)
       go_simp;exact kk _ _ (by simp) bR rfl
     ·intro vs wf HFr HR
      have HFr':Fr w [(cb,153,iC [er])] [(qb,160,#[.int .i64 mul,.int .i64 muh,.int .i64 rl,.int .i64 rh,.int .i64 ol,.int .i64 oh,.int .i64 sl,.int .i64 sh,.int .i64 pxl,.int .i64 pxh,.int .i64 pyl,.int .i64 pyh,.int .i64 pzl,.int .i64 pzh,.int .i64 time,.int .i64 step,.int .i64 tl,.int .i64 th,.int .i64 fl,.int .i64 fh,.int .i64 dxl,.int .i64 dxh,.int .i64 dyl,.int .i64 dyh,.int .i64 dzl,.int .i64 dzh,.slice A n c,.int .i64 dl,.int .i64 dh]),(qb+1,208,iC [axl,axh,ayl,ayh,azl,azh,bxl,bxh,byl,byh,bzl,bzh]),(qb+1+1,31,iC [ql,qh]),(qb+1+1+1,31,iC [ml,mh]),(qb+1+1+1+1,208,iC [bpxl,bpxh,bpyl,bpyh,bpzl,bpzh,bvxl,bvxh,bvyl,bvyh,bvzl,bvzh]),(g1,208,iC [bpxl,bpxh,bpyl,bpyh,bpzl,bpzh,bvxl,bvxh,bvyl,bvyh,bvzl,bvzh]),(g7,34,iC [fxl,fxh,fyl,fyh,fzl,fzh]),(g11_7,208,iC [mpxl,mpxh,mpyl,mpyh,mpzl,mpzh,mvxl,mvxh,mvyl,mvyh,mvzl,mvzh])] wf:=HFr
      have v10:vs 10=.bool false:=HR 10 _ rfl
      clear HFr HR
      have HF13:=Lib.hid HFr'
      clear HFr'
      simp only [putAll,Act.put,List.setIfInBounds_toArray,List.set_cons_zero,List.set_cons_succ]
      simp only [v10]
      clear v10
      obtain ⟨w13,rfl⟩:∃ u:World,u=wf:=⟨_,rfl⟩
      go_wp2_with fail
      try rw [Exit.noGoto_ret]
      refine ret_agg2 rfl rfl rfl (HF13.out.get 4 rfl) rfl und_208 rfl info_208 ?_
      exact HFIN.out _ ⟨⟨⟨bpxl,bpxh⟩,⟨bpyl,bpyh⟩,⟨bpzl,bpzh⟩⟩,⟨bvxl,bvxh⟩,⟨bvyl,bvyh⟩,⟨bvzl,bvzh⟩⟩ _ _ _ HS2.out rfl HF13.out.drop
  ·obtain rfl:i=8:=by omega
   have hki:¬ (8:Int)<8:=by decide
   obtain rfl:k=0:=by omega
   have HS2:=HKR.out
   rw [HK0.out] at HS2
   replace HS2:=Lib.hid HS2
   obtain ⟨⟨⟨bpxl,bpxh⟩,⟨bpyl,bpyh⟩,⟨bpzl,bpzh⟩⟩,⟨bvxl,bvxh⟩,⟨bvyl,bvyh⟩,⟨bvzl,bvzh⟩⟩:=b
   go_wp2_with fail
   refine wp_region_fr [Kind.p,Kind.p,Kind.p,Kind.p,Kind.p,Kind.p,Kind.p,Kind.p,Kind.p,Kind.c 0,Kind.p] [9] [] w (fun _=>_) (fun k=>[(qb,160,#[.int .i64 mul,.int .i64 muh,.int .i64 rl,.int .i64 rh,.int .i64 ol,.int .i64 oh,.int .i64 sl,.int .i64 sh,.int .i64 pxl,.int .i64 pxh,.int .i64 pyl,.int .i64 pyh,.int .i64 pzl,.int .i64 pzh,.int .i64 time,.int .i64 step,.int .i64 tl,.int .i64 th,.int .i64 fl,.int .i64 fh,.int .i64 dxl,.int .i64 dxh,.int .i64 dyl,.int .i64 dyh,.int .i64 dzl,.int .i64 dzh,.slice A n c,.int .i64 dl,.int .i64 dh]),(qb+1,208,iC [axl,axh,ayl,ayh,azl,azh,bxl,bxh,byl,byh,bzl,bzh]),(qb+1+1,31,iC [ql,qh]),(qb+1+1+1,31,iC [ml,mh]),(qb+1+1+1+1,208,(if k≤0 then iC [0,0,0,0,0,0,0,0,0,0,0,0] else iC [bpxl,bpxh,bpyl,bpyh,bpzl,bpzh,bvxl,bvxh,bvyl,bvyh,bvzl,bvzh])),(g1,208,iC [bpxl,bpxh,bpyl,bpyh,bpzl,bpzh,bvxl,bvxh,bvyl,bvyh,bvzl,bvzh])])
      (fun ix u _=>match ix with
       | 0=>u=.agg #[.int .i64 bpxl,.int .i64 bpxh,.int .i64 bpyl,.int .i64 bpyh,.int .i64 bpzl,.int .i64 bpzh,.int .i64 bvxl,.int .i64 bvxh,.int .i64 bvyl,.int .i64 bvyh,.int .i64 bvzl,.int .i64 bvzh]
       | 1=>u=.bool false
       | 2=>u=.bool false
       | 8=>u=.bool false
       | 10=>u=.bool false
       | _=>True)
      (by kernel_rfl) (by kernel_rfl) (by kernel_rfl) [] rfl (by decide) (by kernel_rfl) (by kernel_rfl) HFR.out ?_ ?_
   ·refine ⟨?_,?_,?_,?_,?_,?_,?_,?_,?_,?_,?_,trivial⟩
    all_goals intro a w1 vs dn k K S hpre KE DE kk
    ·have e12:=KE 12 (by decide)
     exact wpo_loadF 208 (.tmp 12) rfl g1 0 (by simpa [Act.eval] using e12) _ _ (S.fr.left.get 5 rfl) #[.int .i64 bpxl,.int .i64 bpxh,.int .i64 bpyl,.int .i64 bpyh,.int .i64 bpzl,.int .i64 bpzh,.int .i64 bvxl,.int .i64 bvxh,.int .i64 bvyl,.int .i64 bvyh,.int .i64 bvzl,.int .i64 bvzh] rfl _ und_208 rfl info_208 (kk _ _ (by simp) bR rfl)
    ·have e13:=KE 13 (by decide)
     go_simp;exact kk _ _ (by simp) bR rfl
    ·have e48:=dep (DE 1 _ 48 rfl rfl rfl)
     go_simp;exact kk _ _ (by simp) bR rfl
    ·have e1:=KE 1 (by decide)
     have eg:=dep (DE 2 _ 49 rfl rfl rfl)
     rw [if_neg (wanted_no 2 true rfl rfl rfl eg)]
     clear eg
     exact kk undef _ (fun _=>rfl) (Below.refl _ _) trivial
    ·have eg:=dep (DE 2 _ 49 rfl rfl rfl)
     rw [if_neg (wanted_no 2 true rfl rfl rfl eg)]
     clear eg
     exact kk undef _ (fun _=>rfl) (Below.refl _ _) trivial
    ·have eg:=dep (DE 2 _ 49 rfl rfl rfl)
     rw [if_neg (wanted_no 2 true rfl rfl rfl eg)]
     clear eg
     exact kk undef _ (fun _=>rfl) (Below.refl _ _) trivial
    ·have eg:=dep (DE 2 _ 49 rfl rfl rfl)
     rw [if_neg (wanted_no 2 true rfl rfl rfl eg)]
     clear eg
     exact kk undef _ (fun _=>rfl) (Below.refl _ _) trivial
    ·have eg:=dep (DE 2 _ 49 rfl rfl rfl)
     rw [if_neg (wanted_no 2 true rfl rfl rfl eg)]
     clear eg
     exact kk undef _ (fun _=>rfl) (Below.refl _ _) trivial
    ·have e49:=dep (DE 2 _ 49 rfl rfl rfl)
     go_simp;exact kk _ _ (by simp) bR rfl
    ·subst hpre
     have e10:=KE 10 (by decide)
     have e47:=dep (DE 0 _ 47 rfl rfl rfl)
     exact wpo_storeF 208 (.tmp 10) (.tmp 47) rfl rfl (qb+1+1+1+1) 0 (by simpa [Act.eval] using e10) #[.int .i64 bpxl,.int .i64 bpxh,.int .i64 bpyl,.int .i64 bpyh,.int .i64 bpzl,.int .i64 bpzh,.int .i64 bvxl,.int .i64 bvxh,.int .i64 bvyl,.int .i64 bvyh,.int .i64 bvzl,.int .i64 bvzh] (by simpa [Act.eval] using e47) _ _ (iC [bpxl,bpxh,bpyl,bpyh,bpzl,bpzh,bvxl,bvxh,bvyl,bvyh,bvzl,bvzh]) (by have:=S.fr.left.get 4 rfl;rw [if_pos (S.hi 0 9 rfl rfl)] at this;exact this) rfl (by show 0+12≤12;omega) (one_all rfl) info_208 fun w' hk ho=>kk _ _ (by simp) (Fr.stage (S.fr.only 4 rfl ho hk) (by exact trivial)) trivial
    ·have e55:=dep (DE 8 _ 55 rfl rfl rfl)
     go_simp;exact kk _ _ (by simp) bR rfl
   ·intro vs wf HFr HR
    have HFr':Fr w [(cb,153,iC [e1])] [(qb,160,#[.int .i64 mul,.int .i64 muh,.int .i64 rl,.int .i64 rh,.int .i64 ol,.int .i64 oh,.int .i64 sl,.int .i64 sh,.int .i64 pxl,.int .i64 pxh,.int .i64 pyl,.int .i64 pyh,.int .i64 pzl,.int .i64 pzh,.int .i64 time,.int .i64 step,.int .i64 tl,.int .i64 th,.int .i64 fl,.int .i64 fh,.int .i64 dxl,.int .i64 dxh,.int .i64 dyl,.int .i64 dyh,.int .i64 dzl,.int .i64 dzh,.slice A n c,.int .i64 dl,.int .i64 dh]),(qb+1,208,iC [axl,axh,ayl,ayh,azl,azh,bxl,bxh,byl,byh,bzl,bzh]),(qb+1+1,31,iC [ql,qh]),(qb+1+1+1,31,iC [ml,mh]),(qb+1+1+1+1,208,iC [bpxl,bpxh,bpyl,bpyh,bpzl,bpzh,bvxl,bvxh,bvyl,bvyh,bvzl,bvzh]),(g1,208,iC [bpxl,bpxh,bpyl,bpyh,bpzl,bpzh,bvxl,bvxh,bvyl,bvyh,bvzl,bvzh])] wf:=HFr
    have v10:vs 10=.bool false:=HR 10 _ rfl
    clear HFr HR
    have HF5:=Lib.hid HFr'
    clear HFr'
    simp only [putAll,Act.put,List.setIfInBounds_toArray,List.set_cons_zero,List.set_cons_succ]
    simp only [v10]
    clear v10
    obtain ⟨w5,rfl⟩:∃ u:World,u=wf:=⟨_,rfl⟩
    go_wp2_with fail
    try rw [Exit.noGoto_ret]
    refine ret_agg2 rfl rfl rfl (HF5.out.get 4 rfl) rfl und_208 rfl info_208 ?_
    exact HFIN.out _ ⟨⟨⟨bpxl,bpxh⟩,⟨bpyl,bpyh⟩,⟨bpzl,bpzh⟩⟩,⟨bvxl,bvxh⟩,⟨bvyl,bvyh⟩,⟨bvzl,bvzh⟩⟩ _ _ _ HS2.out.symm rfl HF5.out.drop
end Go.Proofs.YtmkoegljnebdiaaGreat
