/- What is proved: the texts Jd Jf, one behind the other; each says at its head what it proves, and under which conditions. -/
import Derived.Test.YtmkoegljnebdiaaGreatdPAborts9
namespace Go.Proofs.YtmkoegljnebdiaaGreat
open Go.RowKit
set_option maxRecDepth 100000
set_option maxHeartbeats 16000000

def dropC:Nat→Code→Code
 | 0,c=>c
 | n+1,.seq _ b=>dropC n b
 | _,c=>c
def restC (n:Nat):Option Code→Code
 | some c=>dropC n c
 | none=>.skip
def tailD (rad:SpanD) (n:Nat) (tb:Nat→PointD) (m:SpanD) (v:BoxD) (r:SpanD) (o:BoxD):CM BoxD:=if n=0 then CM.ret o else dragM rad n tb r m v o
def tailC (th:SpanD) (dir:BoxD) (m:SpanD) (k:BoxD→CM BoxD) (o:BoxD):CM BoxD:=(if th=zeroS then CM.ret o else (divM th m).bnd fun tm=>(byM mulM tm dir).bnd fun td=>eachM addM o td).bnd k
def tailB (sp:SpanD) (p v:BoxD) (k:BoxD→CM BoxD) (o:BoxD):CM BoxD:=(if sp=zeroS then CM.ret o else spinM sp p v o).bnd k
def tailA (p:PlanetD) (b:BoxD) (r:SpanD) (k:BoxD→CM BoxD):CM BoxD:=(if p.mu=zeroS then CM.ret p.pull else (attrM p b r).bnd fun at_=>eachM subM p.pull at_).bnd k
theorem force_parts (p:PlanetD) (a:ArcD) (x:SixD) (m:SpanD):forceM p a x m=(distM p a x.p).bnd fun r=>tailA p x.p r (tailB p.spin x.p x.v (tailC a.thrust a.dir m (tailD p.radius a.drag.length (ptL a.drag) m x.v r))):=rfl
theorem flook_any (cb:Nat) (e:Int) (A:Option Addr) (n c:Nat) (v:Nat→PointD) (hv:∀ i,WdS (v i).value) (x:SpanD) (hx:WdS x) (w:World) (h:PtsAt w w.heap.size A n v) (hk:Bk w cb 153 #[.int .i64 e]) :
  Calls Tryz.prog 154 #[.pointer (some ⟨cb,0,none⟩),.slice A n c,spanV x] w fun q w'=>q=.returned (.tuple #[spanV (if e=0 then lookB n v x else (zeroS,e)).1,.int .i64 (if e=0 then lookB n v x else (zeroS,e)).2])∧Below w.heap.size w w':=by
 have HKC:=hZ hk;have HLK:=hZ fun w' (hf:Below w.heap.size w w')=>look_any w' A n c v (h.to hf) hv x hx;refine pQ fun PQ hPQ=>?_
 have HFIN:Hid (∀ r w',(if e=0 then lookB n v x else (zeroS,e))=r→Fr w [] [] w'→PQ (.returned (.tuple #[.agg #[.int .i64 r.1.lo,.int .i64 r.1.hi],.int .i64 r.2])) w'):=hZ fun r w' hr h=>by rw [← hPQ];dsimp only;rw [hr];exact ⟨rfl,h.toBelow⟩
 obtain ⟨⟨⟨fl,fh⟩,fe⟩,hfe⟩:=eX (lookB n v x);rw [hfe] at HFIN;unfold SpPost at HLK;rw [hfe] at HLK;obtain ⟨xl,xh⟩:=x;unfold spanV at HLK ⊢;dsimp only at HLK ⊢;clear hPQ hfe hx hv h;by_cases he:e=0
 ·subst he;rw [if_pos rfl] at HFIN;clear hk;obtain ⟨qb,W0,hqb,hW0,HF0⟩:=fM (Fr.start w) [(#[xl,xh],31),(#[.int .i64 0,.int .i64 0],31)];go_enter Tryz.func154,Tryz.ntmps154;go_upto_region 1 with (fail);clear hW0 hqb;have c1:W0.cell? ⟨cb,0,none⟩=some (.int .i64 0):=(HKC.out.below HF0.out.toBelow HKC.out.lt).cell 0;go_wp2_with (refine lS (gN HF0 0) xl xh ?_)
  clear c1;refine mB HF0.out (HLK.out _ HF0.out.toBelow) fun w2 HF3=>?_;go_wp2_with (refine sW 1 HF3.out i_span fun w4 HF5=>?_)
  refine ret_agg2 rfl rfl rfl (HF5.out.get 1 rfl) rfl u_span rfl i_span ?_
  exact HFIN.out _ _ rfl HF5.out.drop
 ·rw [if_neg he] at HFIN;have heb:(e != 0)=true:=by simpa using he
  clear hk;obtain ⟨qb,W0,hqb,hW0,HF0⟩:=fM (Fr.start w) [(#[xl,xh],31),(#[.int .i64 0,.int .i64 0],31)];go_enter Tryz.func154,Tryz.ntmps154;go_upto_region 1 with (fail);clear hW0 hqb;have c1:W0.cell? ⟨cb,0,none⟩=some (.int .i64 e):=(HKC.out.below HF0.out.toBelow HKC.out.lt).cell 0;go_upto_region 2 with (fail);clear c1;refine wrf [.p,.p,.p,.p,.p,.c 0,.p] [5] [] (fun _=>[]) (fun _=>_) (rM [(0,.agg #[.int .i64 0,.int .i64 0]),(1,.pointer (some ⟨cb,0,none⟩)),(2,.pointer (some ⟨cb,0,none⟩)),(3,.pointer (some ⟨cb,0,none⟩)),(4,.int .i64 e),(6,.int .i64 e)]) [] HF0.out ?_ ?_
  ·refine ⟨?_,?_,?_,?_,?_,?_,?_,trivial⟩
   all_goals intro a w1 vs dn k K S hpre KE DE kk
   ·go_simp;exact kk _ _
   ·have e0:=KE 0;go_simp;exact kk _ _
   ·have e14:=dep (DE 1 14);go_simp;exact kk _ _
   ·have e15:=dep (DE 2 15);go_simp;exact kk _ _
   ·have e16:=dep (DE 3 16);have ca:w1.cell? ⟨cb,0,none⟩=some (.int .i64 e):=(HKC.out.below S.fr.toBelow HKC.out.lt).cell 0;go_simp;exact kk _ _
   ·subst hpre;exact oW (eT (KE 6)) (eT (dep (DE 0 13))) (S.fr.left.get 1 rfl) i_span fun w' hk ho=>kk _ _ (by simp) (Fr.stage (S.fr.only 1 rfl ho hk) (by exact trivial))
   ·have e17:=dep (DE 4 17);go_simp;exact kk _ _
  ·intro vs w2 HFr HR;have v6:vs 6=.int .i64 e:=HR 6 _ rfl;have HF2:=fW HFr;clear HFr HR;simp only [putAll,Act.put,List.setIfInBounds_toArray,List.set_cons_zero,List.set_cons_succ,v6];clear v6;go_wp2_with fail
   refine ret_agg2 rfl rfl rfl (HF2.out.get 1 rfl) rfl u_span rfl i_span ?_
   exact HFIN.out (zeroS,e) _ rfl HF2.out.drop
theorem force_d {PQ:Ending→World→Prop} {w0 w W:World} {A:Option Addr} {n c cb qb b9 b10 b11 b12:Nat} {tb:Nat→PointD} {mul muh rl rh ol oh sl sh pxl pxh pyl pyh pzl pzh time step tl th fl fh dxl dxh dyl dyh dzl dzh dl dh ml mh nl nh e axl axh ayl ayh azl azh bxl bxh byl byh bzl bzh oxl oxh oyl oyh ozl ozh:Int} {s0 s2 s3 s5 s13 s14 s15 s16 s17 s18 s19 s20 s21 s22 s23 s24 s25 s26 s27 s28 s29 s30 s31 s32 s33 s34 s35 s36 s37 s38 s39 s40 s41 s42 s43 s44 s45 s46 s47 s48 s49 s50 s51 s52 s53 s54 s55 s56 s57 s58 s59 s60 s61 s62 s63 s64 s65 s66 s67 s68 s69 s70 s71 s72 s73 s74 s75 s76 s77 s78 s79 s80 s81 s82 s83 s84 s85 s86 s87 s88 s89 s90 s91 s92 s93 s94 s95 s96 s97 s98 s99 s100 s101 s102 s103 s104 s105 s106 s107 s108 s109 s110 s111 s112 s113 s114 s115 s116 s117 s118 s119 s120 s121 s122 s123 s124 s125 s126 s127 s128 s129 s130 s131 s132 s133 s134 s135 s136 s137 s138 s139 s140 s141 s142 s143 s144 s145 s146 s147 s148 s149 s150 s151 s152 s153 s154 s155 s156 s157 s158 s159 s160 s161 s162 s163 s164 s165 s166:Value}
  (hw:Below w0.heap.size w0 w) (HT:Hid (PtsAt w0 w0.heap.size A n tb)) (HV:Hid (∀ i,WdS (tb i).value)) (w_r:WdS ⟨rl,rh⟩) (w_m:WdS ⟨ml,mh⟩) (w_n:WdS ⟨nl,nh⟩) (_:WdB ⟨⟨axl,axh⟩,⟨ayl,ayh⟩,⟨azl,azh⟩⟩) (w_b:WdB ⟨⟨bxl,bxh⟩,⟨byl,byh⟩,⟨bzl,bzh⟩⟩) (w_o:WdB ⟨⟨oxl,oxh⟩,⟨oyl,oyh⟩,⟨ozl,ozh⟩⟩) (HCB:Hid (w0.heap.size≤cb))
  (HFIN:Hid (∀ z,tailD ⟨rl,rh⟩ n tb ⟨ml,mh⟩ ⟨⟨bxl,bxh⟩,⟨byl,byh⟩,⟨bzl,bzh⟩⟩ ⟨nl,nh⟩ ⟨⟨oxl,oxh⟩,⟨oyl,oyh⟩,⟨ozl,ozh⟩⟩ e=z→∀ w',Fr w [(cb,153,#[.int .i64 z.2])] [] w'→PQ (.returned (boxV z.1)) w')) (HF0:Hid (Fr w [(cb,153,iC [e])] [(qb,160,#[mul,muh,rl,rh,ol,oh,sl,sh,pxl,pxh,pyl,pyh,pzl,pzh,time,step,tl,th,fl,fh,dxl,dxh,dyl,dyh,dzl,dzh,.slice A n c,dl,dh]),(qb+1,208,iC [axl,axh,ayl,ayh,azl,azh,bxl,bxh,byl,byh,bzl,bzh]),(qb+1+1,31,iC [ml,mh]),(qb+1+1+1,34,iC [0,0,0,0,0,0]),(b9,34,iC [oxl,oxh,oyl,oyh,ozl,ozh]),(b10,34,iC [axl,axh,ayl,ayh,azl,azh]),(b11,34,iC [bxl,bxh,byl,byh,bzl,bzh]),(b12,31,iC [nl,nh])] W)) :
  Code.wp Tryz.prog (restC 8 (Tryz.f121).body) (bodyPost Tryz.prog Tryz.f121 PQ) ⟨#[s0,.pointer (some ⟨cb,0,none⟩),s2,s3,.pointer (some ⟨qb,0,none⟩),s5,.pointer (some ⟨qb+1,0,none⟩),.pointer (some ⟨qb+1+1,0,none⟩),.pointer (some ⟨qb+1+1+1,0,none⟩),.pointer (some ⟨b9,0,none⟩),.pointer (some ⟨b10,0,none⟩),.pointer (some ⟨b11,0,none⟩),.pointer (some ⟨b12,0,none⟩),s13,s14,s15,s16,s17,s18,s19,s20,s21,s22,s23,s24,s25,s26,s27,s28,s29,s30,s31,s32,s33,s34,s35,s36,s37,s38,s39,s40,s41,s42,s43,s44,s45,s46,s47,s48,s49,s50,s51,s52,s53,s54,s55,s56,s57,s58,s59,s60,s61,s62,s63,s64,s65,s66,s67,s68,s69,s70,s71,s72,s73,s74,s75,s76,s77,s78,s79,s80,s81,s82,s83,s84,s85,s86,s87,s88,s89,s90,s91,s92,s93,s94,s95,s96,s97,s98,s99,s100,s101,s102,s103,s104,s105,s106,s107,s108,s109,s110,s111,s112,s113,s114,s115,s116,s117,s118,s119,s120,s121,s122,s123,s124,s125,s126,s127,s128,s129,s130,s131,s132,s133,s134,s135,s136,s137,s138,s139,s140,s141,s142,s143,s144,s145,s146,s147,s148,s149,s150,s151,s152,s153,s154,s155,s156,s157,s158,s159,s160,s161,s162,s163,s164,s165,s166],[]⟩ W:=by
 conv=>arg 2;whnf
 refine wp_seq_k fun K hkk=>?_
 have HKK:=hZ hkk;clear hkk;have HTL:Hid (Below w0.heap.size w0 w):=hZ hw;clear hw;by_cases hn0:n=0
 ·unfold tailD boxV at HFIN;rw [if_pos hn0] at HFIN;unfold CM.ret at HFIN;subst hn0;clear w_r w_m w_n w_b w_o;have c1:W.cell? ⟨qb,26,none⟩=some (.slice A 0 c):=(HF0.out.get 0 rfl).cell 26;go_wp2_with fail
  clear c1;refine HKK.out _ _ ?_
  go_wp2_with (first
    | (refine lF (gN HF0 4) #[oxl,oxh,oyl,oyh,ozl,ozh] u_34 i_34 ?_)
    | (refine sW 3 HF0.out i_34 fun w2 HF3=>?_))
  refine ret_agg rfl rfl rfl (HF3.out.get 3 rfl) u_34 rfl i_34 ?_
  exact HFIN.out _ rfl _ HF3.out.drop
 ·have hnp:(0:Int)<(n:Int):=by omega
  unfold tailD at HFIN;rw [if_neg hn0] at HFIN;unfold dragM CM.bnd lookM keepM at HFIN;have H1:=fun w hk=>csub_any cb e ⟨nl,nh⟩ ⟨rl,rh⟩ w_n w_r w hk;have w_h:=wd_subM ⟨nl,nh⟩ ⟨rl,rh⟩ e;obtain ⟨⟨hl,hh⟩,e1,h1⟩:∃ q q',subM ⟨nl,nh⟩ ⟨rl,rh⟩ e=(q,q'):=⟨_,_,rfl⟩;rw [h1] at H1 w_h;unfold CkPost spanV at H1;dsimp only at H1;replace H1:=hZ H1;have HLK:=hZ fun w1 (hb:Below w0.heap.size w0 w1) hk=>Calls.mono (flook_any cb e1 A n c tb HV.out ⟨hl,hh⟩ w_h w1 (HT.out.to hb) hk) fun _ _ ⟨p,q⟩=>And.intro p ((Fr.start1 hk).below q);have hkp:(if e1=0 then lookB n tb ⟨hl,hh⟩ else (zeroS,e1))=keepM (if e1=0 then lookB n tb ⟨hl,hh⟩ else (zeroS,e1)) e1:=by unfold keepM;split <;> rfl
  have w_i:WdS (if e1=0 then lookB n tb ⟨hl,hh⟩ else (zeroS,e1)).1:=by
   split
   ·unfold lookB;split
    ·exact wd_fit _ _
    ·exact wd_zero
   ·exact wd_zero
  obtain ⟨⟨il,ih⟩,ie,hi⟩:∃ q q',(if e1=0 then lookB n tb ⟨hl,hh⟩ else (zeroS,e1))=(q,q'):=⟨_,_,rfl⟩;rw [hi] at HLK hkp w_i;dsimp only at w_i;unfold spanV at HLK;dsimp only at HLK;have HKP:=hZ fun w hk=>ckeep_any cb e1 (⟨il,ih⟩,ie) w hk;rw [← hkp] at HKP;unfold CkPost spanV at HKP;dsimp only at HKP;have H2:=fun w hk=>cdiv_any cb ie ⟨il,ih⟩ ⟨ml,mh⟩ w_i w_m w hk;have w_j:=wd_divM ⟨il,ih⟩ ⟨ml,mh⟩ ie;obtain ⟨⟨jl,jh⟩,e2,h2⟩:∃ q q',divM ⟨il,ih⟩ ⟨ml,mh⟩ ie=(q,q'):=⟨_,_,rfl⟩;rw [h2] at H2 w_j;unfold CkPost spanV at H2;dsimp only at H2;replace H2:=hZ H2;have H3:=fun w hk=>cnorm_any cb e2 ⟨⟨bxl,bxh⟩,⟨byl,byh⟩,⟨bzl,bzh⟩⟩ w_b w hk;have w_k:=wd_normM ⟨⟨bxl,bxh⟩,⟨byl,byh⟩,⟨bzl,bzh⟩⟩ e2;obtain ⟨⟨kl,kh⟩,e3,h3⟩:∃ q q',normM ⟨⟨bxl,bxh⟩,⟨byl,byh⟩,⟨bzl,bzh⟩⟩ e2=(q,q'):=⟨_,_,rfl⟩;rw [h3] at H3 w_k;unfold CkPost spanV boxV at H3;dsimp only at H3;replace H3:=hZ H3;have H4:=fun w hk=>cmul_any cb e3 ⟨jl,jh⟩ ⟨kl,kh⟩ w_j w_k w hk;have w_l:=wd_mulM ⟨jl,jh⟩ ⟨kl,kh⟩ e3;obtain ⟨⟨ll,lh⟩,e4,h4⟩:∃ q q',mulM ⟨jl,jh⟩ ⟨kl,kh⟩ e3=(q,q'):=⟨_,_,rfl⟩;rw [h4] at H4 w_l;unfold CkPost spanV at H4;dsimp only at H4;replace H4:=hZ H4;have H5:=fun w hk=>bymul_any cb e4 ⟨ll,lh⟩ ⟨⟨bxl,bxh⟩,⟨byl,byh⟩,⟨bzl,bzh⟩⟩ w_l w_b w hk;have w_u:=wd_by wd_mulM ⟨ll,lh⟩ ⟨⟨bxl,bxh⟩,⟨byl,byh⟩,⟨bzl,bzh⟩⟩ e4;obtain ⟨⟨⟨uxl,uxh⟩,⟨uyl,uyh⟩,⟨uzl,uzh⟩⟩,e5,h5⟩:∃ q q',byM mulM ⟨ll,lh⟩ ⟨⟨bxl,bxh⟩,⟨byl,byh⟩,⟨bzl,bzh⟩⟩ e4=(q,q'):=⟨_,_,rfl⟩;rw [h5] at H5 w_u;unfold CkBox boxV spanV at H5;dsimp only at H5;replace H5:=hZ H5;have H6:=fun w hk=>eachsub_any cb e5 ⟨⟨oxl,oxh⟩,⟨oyl,oyh⟩,⟨ozl,ozh⟩⟩ ⟨⟨uxl,uxh⟩,⟨uyl,uyh⟩,⟨uzl,uzh⟩⟩ w_o w_u w hk;have w_q:=wd_each wd_subM ⟨⟨oxl,oxh⟩,⟨oyl,oyh⟩,⟨ozl,ozh⟩⟩ ⟨⟨uxl,uxh⟩,⟨uyl,uyh⟩,⟨uzl,uzh⟩⟩ e5;obtain ⟨⟨⟨qxl,qxh⟩,⟨qyl,qyh⟩,⟨qzl,qzh⟩⟩,e6,h6⟩:∃ q q',eachM subM ⟨⟨oxl,oxh⟩,⟨oyl,oyh⟩,⟨ozl,ozh⟩⟩ ⟨⟨uxl,uxh⟩,⟨uyl,uyh⟩,⟨uzl,uzh⟩⟩ e5=(q,q'):=⟨_,_,rfl⟩;rw [h6] at H6 w_q;unfold CkBox boxV at H6;dsimp only at H6;replace H6:=hZ H6;simp only [h1,hi,h2,h3,h4,h5,h6] at HFIN;unfold boxV at HFIN;clear h1 h2 h3 h4 h5 h6 hi hkp w_r w_m w_n w_b w_o w_h w_i w_j w_k w_l w_u w_q;have c1:W.cell? ⟨qb,26,none⟩=some (.slice A n c):=(HF0.out.get 0 rfl).cell 26;go_wp2_with (first
    | (refine lS (gN HF0 7) nl nh ?_)
    | (refine lS (gN HF0 0) rl rh ?_))
  clear c1;refine (H1.out _ (HF0.out.getO 0 rfl)).mono ?_
  rintro e w2 ⟨rfl,hw⟩;have HF3:=fN (HF0.out.turnO 0 rfl hw);clear hw;obtain ⟨g4,w4,hg4,hw4,HF5⟩:=fA HF3.out #[.int .i64 0,.int .i64 0] 31;go_upto_region 17 with (refine sW 8 HF5.out i_span fun w6 HF7=>?_;clear hw4 hg4)
  refine wrf [.p,.p,.p,.p,.p,.p,.p,.c 0,.p,.p,.c 1,.p,.c 2,.a 0,.c 3] [7,10,12,14] [(13,31,fun k=>(if k≤3 then iC [0,0] else iC [jl,jh]))] (fun k=>[(cb,153,#[(match k with | 0=>.int .i64 e1 | 1=>.int .i64 e1 | 2=>.int .i64 ie | 3=>.int .i64 e2 | _=>.int .i64 e2)])]) (fun _=>_) (fun ix u _=>match ix with
      | 0=>u=.pointer (some ⟨cb,0,none⟩)
      | 1=>u=.pointer (some ⟨cb,0,none⟩)
      | 2=>u=.pointer (some ⟨cb,0,none⟩)
      | 3=>u=.pointer (some ⟨qb,14,none⟩)
      | 4=>u=.pointer (some ⟨qb,26,none⟩)
      | 5=>u=.slice A n c
      | 6=>u=.agg #[hl,hh]
      | 7=>u=.tuple #[.agg #[il,ih],.int .i64 ie]
      | 8=>u=.agg #[il,ih]
      | 9=>u=.int .i64 ie
      | 10=>u=.agg #[il,ih]
      | 11=>u=.agg #[ml,mh]
      | 12=>u=.agg #[jl,jh]
      | 13=>u=.pointer (some ⟨gOf u,0,none⟩)
      | _=>True) [13] HF7.out ?_ ?_
  ·refine ⟨?_,?_,?_,?_,?_,?_,?_,?_,?_,?_,?_,?_,?_,?_,?_,trivial⟩
   all_goals intro a w1 vs dn k K S hpre KE DE kk
   ·have e1:=KE 1;go_simp;exact kk _ _
   ·have e1:=KE 1;go_simp;exact kk _ _
   ·have e1:=KE 1;go_simp;exact kk _ _
   ·have e4:=KE 4;go_simp;exact kk _ _
   ·have e139:=dep (DE 3 139);go_simp;exact kk _ _
   ·have e140:=dep (DE 4 140);have ca:w1.cell? ⟨qb,26,none⟩=some (.slice A n c):=(S.fr.left.get 0 rfl).cell 26;go_simp;exact kk _ _
   ·exact oM (eT (KE 15)) (S.fr.left.get 8 rfl) (kk _ _)
   ·subst hpre;have e138:=dep (DE 2 138);have e141:=dep (DE 5 141);have e142:=dep (DE 6 142);exact oD rfl (HLK.out w1 (HTL.out.trans (S.fr.belowAt (by simpa using HCB.out) HTL.out.size)) (S.fr.getO 0 rfl)) (by simp [Act.eval,e138,e141,e142]) fun w' hb=>kk _ _ (by simp) (Fr.stage (S.fr.turnO 0 rfl hb) (by exact ⟨rfl,trivial⟩))
   ·have e143:=dep (DE 7 143);go_simp;exact kk _ _
   ·have e143:=dep (DE 7 143);go_simp;exact kk _ _
   ·subst hpre;have e137:=dep (DE 1 137);have e144:=dep (DE 8 144);have e145:=dep (DE 9 145);exact oD rfl (HKP.out w1 (S.fr.getO 0 rfl)) (by simp [Act.eval,e137,e144,e145]) fun w' hb=>kk _ _ (by simp) (Fr.stage (S.fr.turnO 0 rfl hb) (by exact ⟨rfl,trivial⟩))
   ·exact oM (eT (KE 7)) (S.fr.left.get 2 rfl) (kk _ _)
   ·subst hpre;have e136:=dep (DE 0 136);have e146:=dep (DE 10 146);have e147:=dep (DE 11 147);exact oD rfl (H2.out w1 (S.fr.getO 0 rfl)) (by simp [Act.eval,e136,e146,e147]) fun w' hb=>kk _ _ (by simp) (Fr.stage (S.fr.turnO 0 rfl hb) (by exact ⟨rfl,trivial⟩))
   ·go_simp;exact kk _ _ (by simp) (by have h:=S.fr.alloc rfl 31 #[.int .i64 0,.int .i64 0];show Fr _ _ (_ ++ [(_,31,if k≤3 then _ else _)]) _;rw [if_pos (S.hi 3 14 rfl rfl)];exact h) rfl
   ·subst hpre;have e16:=dep (DE 13 16);have e148:=dep (DE 12 148);have HS:=Fr.done S.fr (by exact ⟨S.done 13 rfl,trivial⟩)
    exact oW (eT e16) (eT e148) (HS.get 9 rfl) i_span fun w' hk ho=>kk _ _ (by simp) (Fr.undone (HS.only 9 rfl ho hk) (by exact ⟨S.done 13 rfl,trivial⟩)) trivial
  ·intro vs wf HFr HR;have HFr':Fr w [(cb,153,iC [e2])] [(qb,160,#[mul,muh,rl,rh,ol,oh,sl,sh,pxl,pxh,pyl,pyh,pzl,pzh,time,step,tl,th,fl,fh,dxl,dxh,dyl,dyh,dzl,dzh,.slice A n c,dl,dh]),(qb+1,208,iC [axl,axh,ayl,ayh,azl,azh,bxl,bxh,byl,byh,bzl,bzh]),(qb+1+1,31,iC [ml,mh]),(qb+1+1+1,34,iC [0,0,0,0,0,0]),(b9,34,iC [oxl,oxh,oyl,oyh,ozl,ozh]),(b10,34,iC [axl,axh,ayl,ayh,azl,azh]),(b11,34,iC [bxl,bxh,byl,byh,bzl,bzh]),(b12,31,iC [nl,nh]),(g4,31,iC [hl,hh]),((gOf (vs 13)),31,iC [jl,jh])] wf:=HFr;have v13:vs 13=.pointer (some ⟨(gOf (vs 13)),0,none⟩):=HR 13 _ rfl;clear HFr HR;obtain ⟨g8_13,hg8_13⟩:=eX (gOf (vs 13));rw [hg8_13] at HFr';rw [hg8_13] at v13;clear hg8_13;have HF8:=hZ HFr';clear HFr';simp only [putAll,Act.put,List.setIfInBounds_toArray,List.set_cons_zero,List.set_cons_succ];simp only [v13];clear v13;obtain ⟨w8,rfl⟩:∃ u:World,u=wf:=⟨_,rfl⟩;go_wp2_with (refine lF (gN HF8 6) #[bxl,bxh,byl,byh,bzl,bzh] u_34 i_34 ?_)
   refine (H3.out _ (HF8.out.getO 0 rfl)).mono ?_
   rintro e w9 ⟨rfl,hw⟩;have HF10:=fN (HF8.out.turnO 0 rfl hw);clear hw;obtain ⟨g11,w11,hg11,hw11,HF12⟩:=fA HF10.out #[.int .i64 0,.int .i64 0] 31;go_upto_region 19 with (refine sW 10 HF12.out i_span fun w13 HF14=>?_;clear hw11 hg11)
   refine wrf [.p,.p,.p,.p,.p,.p,.p,.p,.p,.p,.c 0,.p,.c 1,.c 2,.c 3] [10,12,13,14] [] (fun k=>[(cb,153,#[(match k with | 0=>.int .i64 e3 | 1=>.int .i64 e4 | 2=>.int .i64 e5 | 3=>.int .i64 e6 | _=>.int .i64 e6)])]) (fun k=>[(qb,160,#[mul,muh,rl,rh,ol,oh,sl,sh,pxl,pxh,pyl,pyh,pzl,pzh,time,step,tl,th,fl,fh,dxl,dxh,dyl,dyh,dzl,dzh,.slice A n c,dl,dh]),(qb+1,208,iC [axl,axh,ayl,ayh,azl,azh,bxl,bxh,byl,byh,bzl,bzh]),(qb+1+1,31,iC [ml,mh]),(qb+1+1+1,34,iC [0,0,0,0,0,0]),(b9,34,(if k≤3 then iC [oxl,oxh,oyl,oyh,ozl,ozh] else iC [qxl,qxh,qyl,qyh,qzl,qzh])),(b10,34,iC [axl,axh,ayl,ayh,azl,azh]),(b11,34,iC [bxl,bxh,byl,byh,bzl,bzh]),(b12,31,iC [nl,nh]),(g4,31,iC [hl,hh]),(g8_13,31,iC [jl,jh]),(g11,31,iC [kl,kh])]) (rV [.pointer (some ⟨cb,0,none⟩),.pointer (some ⟨cb,0,none⟩),.func (.func 57) #[.pointer (some ⟨cb,0,none⟩)] #[],.agg #[oxl,oxh,oyl,oyh,ozl,ozh],.pointer (some ⟨cb,0,none⟩),.pointer (some ⟨cb,0,none⟩),.func (.func 118) #[.pointer (some ⟨cb,0,none⟩)] #[],.pointer (some ⟨cb,0,none⟩),.agg #[jl,jh],.agg #[kl,kh],.agg #[ll,lh],.agg #[bxl,bxh,byl,byh,bzl,bzh],.agg #[uxl,uxh,uyl,uyh,uzl,uzh],.agg #[qxl,qxh,qyl,qyh,qzl,qzh]]) [] HF14.out ?_ ?_
   ·refine ⟨?_,?_,?_,?_,?_,?_,?_,?_,?_,?_,?_,?_,?_,?_,?_,trivial⟩
    all_goals intro a w1 vs dn k K S hpre KE DE kk
    ·have e1:=KE 1;go_simp;exact kk _ _
    ·have e1:=KE 1;go_simp;exact kk _ _
    ·have e153:=dep (DE 1 153);go_simp;exact kk _ _
    ·exact oL (eT (KE 9)) (gI (S.hi 3 14 rfl rfl) (S.fr.left.get 4 rfl)) u_34 (kk _ _) i_34
    ·have e1:=KE 1;go_simp;exact kk _ _
    ·have e1:=KE 1;go_simp;exact kk _ _
    ·have e157:=dep (DE 5 157);go_simp;exact kk _ _
    ·have e1:=KE 1;go_simp;exact kk _ _
    ·exact oM (eT (KE 16)) (S.fr.left.get 9 rfl) (kk _ _)
    ·exact oM (eT (KE 17)) (S.fr.left.get 10 rfl) (kk _ _)
    ·subst hpre;have e159:=dep (DE 7 159);have e160:=dep (DE 8 160);have e161:=dep (DE 9 161);exact oD rfl (H4.out w1 (S.fr.getO 0 rfl)) (by simp [Act.eval,e159,e160,e161]) fun w' hb=>kk _ _ (by simp) (Fr.stage (S.fr.turnO 0 rfl hb) (by exact trivial))
    ·exact oL (eT (KE 11)) (S.fr.left.get 6 rfl) u_34 (kk _ _) i_34
    ·subst hpre;have e156:=dep (DE 4 156);have e158:=dep (DE 6 158);have e162:=dep (DE 10 162);have e163:=dep (DE 11 163);exact oD rfl (H5.out w1 (S.fr.getO 0 rfl)) (by simp [Act.eval,e156,e158,e162,e163]) fun w' hb=>kk _ _ (by simp) (Fr.stage (S.fr.turnO 0 rfl hb) (by exact trivial))
    ·subst hpre;have e152:=dep (DE 0 152);have e154:=dep (DE 2 154);have e155:=dep (DE 3 155);have e164:=dep (DE 12 164);exact oD rfl (H6.out w1 (S.fr.getO 0 rfl)) (by simp [Act.eval,e152,e154,e155,e164]) fun w' hb=>kk _ _ (by simp) (Fr.stage (S.fr.turnO 0 rfl hb) (by exact trivial))
    ·subst hpre;exact oW (eT (KE 9)) (eT (dep (DE 13 165))) (gI (S.hi 3 14 rfl rfl) (S.fr.left.get 4 rfl)) i_34 fun w' hk ho=>kk _ _ (by simp) (Fr.stage (S.fr.only 4 rfl ho hk) (by exact trivial))
   ·intro vs w15 HFr HR;have HF15:=fW HFr;clear HFr HR;simp only [putAll,Act.put,List.setIfInBounds_toArray,List.set_cons_zero,List.set_cons_succ];go_wp2_with fail
    refine HKK.out _ _ ?_
    go_wp2_with (first
      | (refine lF (gN HF15 4) #[qxl,qxh,qyl,qyh,qzl,qzh] u_34 i_34 ?_)
      | (refine sW 3 HF15.out i_34 fun w16 HF17=>?_))
    refine ret_agg rfl rfl rfl (HF17.out.get 3 rfl) u_34 rfl i_34 ?_
    exact HFIN.out _ rfl _ HF17.out.drop
theorem force_c {PQ:Ending→World→Prop} {w0 w W:World} {A:Option Addr} {n c cb qb b9 b10 b11 b12:Nat} {tb:Nat→PointD} {mul muh rl rh ol oh sl sh pxl pxh pyl pyh pzl pzh time step tl th fl fh dxl dxh dyl dyh dzl dzh dl dh ml mh nl nh e axl axh ayl ayh azl azh bxl bxh byl byh bzl bzh oxl oxh oyl oyh ozl ozh:Int} {s0 s2 s3 s5 s13 s14 s15 s16 s17 s18 s19 s20 s21 s22 s23 s24 s25 s26 s27 s28 s29 s30 s31 s32 s33 s34 s35 s36 s37 s38 s39 s40 s41 s42 s43 s44 s45 s46 s47 s48 s49 s50 s51 s52 s53 s54 s55 s56 s57 s58 s59 s60 s61 s62 s63 s64 s65 s66 s67 s68 s69 s70 s71 s72 s73 s74 s75 s76 s77 s78 s79 s80 s81 s82 s83 s84 s85 s86 s87 s88 s89 s90 s91 s92 s93 s94 s95 s96 s97 s98 s99 s100 s101 s102 s103 s104 s105 s106 s107 s108 s109 s110 s111 s112 s113 s114 s115 s116 s117 s118 s119 s120 s121 s122 s123 s124 s125 s126 s127 s128 s129 s130 s131 s132 s133 s134 s135 s136 s137 s138 s139 s140 s141 s142 s143 s144 s145 s146 s147 s148 s149 s150 s151 s152 s153 s154 s155 s156 s157 s158 s159 s160 s161 s162 s163 s164 s165 s166:Value}
  (hw:Below w0.heap.size w0 w) (HT:Hid (PtsAt w0 w0.heap.size A n tb)) (HV:Hid (∀ i,WdS (tb i).value)) (w_r:WdS ⟨rl,rh⟩) (w_m:WdS ⟨ml,mh⟩) (w_n:WdS ⟨nl,nh⟩) (w_a:WdB ⟨⟨axl,axh⟩,⟨ayl,ayh⟩,⟨azl,azh⟩⟩) (w_b:WdB ⟨⟨bxl,bxh⟩,⟨byl,byh⟩,⟨bzl,bzh⟩⟩) (w_o:WdB ⟨⟨oxl,oxh⟩,⟨oyl,oyh⟩,⟨ozl,ozh⟩⟩) (HCB:Hid (w0.heap.size≤cb)) (w_t:WdS ⟨tl,th⟩) (w_d:WdB ⟨⟨dxl,dxh⟩,⟨dyl,dyh⟩,⟨dzl,dzh⟩⟩)
  (HFIN:Hid (∀ z,tailC ⟨tl,th⟩ ⟨⟨dxl,dxh⟩,⟨dyl,dyh⟩,⟨dzl,dzh⟩⟩ ⟨ml,mh⟩ (tailD ⟨rl,rh⟩ n tb ⟨ml,mh⟩ ⟨⟨bxl,bxh⟩,⟨byl,byh⟩,⟨bzl,bzh⟩⟩ ⟨nl,nh⟩) ⟨⟨oxl,oxh⟩,⟨oyl,oyh⟩,⟨ozl,ozh⟩⟩ e=z→∀ w',Fr w [(cb,153,#[.int .i64 z.2])] [] w'→PQ (.returned (boxV z.1)) w')) (HF0:Hid (Fr w [(cb,153,iC [e])] [(qb,160,#[mul,muh,rl,rh,ol,oh,sl,sh,pxl,pxh,pyl,pyh,pzl,pzh,time,step,tl,th,fl,fh,dxl,dxh,dyl,dyh,dzl,dzh,.slice A n c,dl,dh]),(qb+1,208,iC [axl,axh,ayl,ayh,azl,azh,bxl,bxh,byl,byh,bzl,bzh]),(qb+1+1,31,iC [ml,mh]),(qb+1+1+1,34,iC [0,0,0,0,0,0]),(b9,34,iC [oxl,oxh,oyl,oyh,ozl,ozh]),(b10,34,iC [axl,axh,ayl,ayh,azl,azh]),(b11,34,iC [bxl,bxh,byl,byh,bzl,bzh]),(b12,31,iC [nl,nh])] W)) :
  Code.wp Tryz.prog (restC 7 (Tryz.f121).body) (bodyPost Tryz.prog Tryz.f121 PQ) ⟨#[s0,.pointer (some ⟨cb,0,none⟩),s2,s3,.pointer (some ⟨qb,0,none⟩),s5,.pointer (some ⟨qb+1,0,none⟩),.pointer (some ⟨qb+1+1,0,none⟩),.pointer (some ⟨qb+1+1+1,0,none⟩),.pointer (some ⟨b9,0,none⟩),.pointer (some ⟨b10,0,none⟩),.pointer (some ⟨b11,0,none⟩),.pointer (some ⟨b12,0,none⟩),s13,s14,s15,s16,s17,s18,s19,s20,s21,s22,s23,s24,s25,s26,s27,s28,s29,s30,s31,s32,s33,s34,s35,s36,s37,s38,s39,s40,s41,s42,s43,s44,s45,s46,s47,s48,s49,s50,s51,s52,s53,s54,s55,s56,s57,s58,s59,s60,s61,s62,s63,s64,s65,s66,s67,s68,s69,s70,s71,s72,s73,s74,s75,s76,s77,s78,s79,s80,s81,s82,s83,s84,s85,s86,s87,s88,s89,s90,s91,s92,s93,s94,s95,s96,s97,s98,s99,s100,s101,s102,s103,s104,s105,s106,s107,s108,s109,s110,s111,s112,s113,s114,s115,s116,s117,s118,s119,s120,s121,s122,s123,s124,s125,s126,s127,s128,s129,s130,s131,s132,s133,s134,s135,s136,s137,s138,s139,s140,s141,s142,s143,s144,s145,s146,s147,s148,s149,s150,s151,s152,s153,s154,s155,s156,s157,s158,s159,s160,s161,s162,s163,s164,s165,s166],[]⟩ W:=by
 conv=>arg 2;whnf
 refine wp_seq_k fun K hkk=>?_
 have HKK:=hZ hkk;clear hkk;have HTL:Hid (Below w0.heap.size w0 w):=hZ hw;clear hw;have HZ:=fun w=>zeroS_any ⟨tl,th⟩ w;by_cases hz0:(⟨tl,th⟩:SpanD)=zeroS
 ·have hzb:=decide_eq_true hz0;rw [hzb] at HZ;unfold spanV at HZ;dsimp only at HZ;replace HZ:=hZ HZ;have HZ0:=hZ hz0;clear hzb hz0;go_wp2_with (refine lS (gN HF0 0) tl th ?_)
  refine mB HF0.out (HZ.out _) fun w1 HF2=>?_;go_wp2_with fail
  refine HKK.out _ _ ?_
  exact force_d HTL.out HT HV w_r w_m w_n w_a w_b w_o HCB (hZ fun z hz=>HFIN.out z (by unfold tailC;rw [if_pos HZ0.out];unfold CM.bnd CM.ret;exact hz)) (hZ (HF2.out.sub (List.sublist_append_left [_,_,_,_,_,_,_,_] _)))
 ·have hzb:=decide_eq_false hz0;rw [hzb] at HZ;unfold spanV at HZ;dsimp only at HZ;replace HZ:=hZ HZ;have HZ0:=hZ hz0;clear hzb hz0;have H1:=fun w hk=>cdiv_any cb e ⟨tl,th⟩ ⟨ml,mh⟩ w_t w_m w hk;have w_g:=wd_divM ⟨tl,th⟩ ⟨ml,mh⟩ e;obtain ⟨⟨gl,gh⟩,e1,h1⟩:∃ q q',divM ⟨tl,th⟩ ⟨ml,mh⟩ e=(q,q'):=⟨_,_,rfl⟩;rw [h1] at H1 w_g;unfold CkPost spanV at H1;dsimp only at H1;replace H1:=hZ H1;have H2:=fun w hk=>bymul_any cb e1 ⟨gl,gh⟩ ⟨⟨dxl,dxh⟩,⟨dyl,dyh⟩,⟨dzl,dzh⟩⟩ w_g w_d w hk;have w_u:=wd_by wd_mulM ⟨gl,gh⟩ ⟨⟨dxl,dxh⟩,⟨dyl,dyh⟩,⟨dzl,dzh⟩⟩ e1;obtain ⟨⟨⟨uxl,uxh⟩,⟨uyl,uyh⟩,⟨uzl,uzh⟩⟩,e2,h2⟩:∃ q q',byM mulM ⟨gl,gh⟩ ⟨⟨dxl,dxh⟩,⟨dyl,dyh⟩,⟨dzl,dzh⟩⟩ e1=(q,q'):=⟨_,_,rfl⟩;rw [h2] at H2 w_u;unfold CkBox boxV spanV at H2;dsimp only at H2;replace H2:=hZ H2;have H3:=fun w hk=>eachadd_any cb e2 ⟨⟨oxl,oxh⟩,⟨oyl,oyh⟩,⟨ozl,ozh⟩⟩ ⟨⟨uxl,uxh⟩,⟨uyl,uyh⟩,⟨uzl,uzh⟩⟩ w_o w_u w hk;have w_q:=wd_each wd_addM ⟨⟨oxl,oxh⟩,⟨oyl,oyh⟩,⟨ozl,ozh⟩⟩ ⟨⟨uxl,uxh⟩,⟨uyl,uyh⟩,⟨uzl,uzh⟩⟩ e2;obtain ⟨⟨⟨qxl,qxh⟩,⟨qyl,qyh⟩,⟨qzl,qzh⟩⟩,e3,h3⟩:∃ q q',eachM addM ⟨⟨oxl,oxh⟩,⟨oyl,oyh⟩,⟨ozl,ozh⟩⟩ ⟨⟨uxl,uxh⟩,⟨uyl,uyh⟩,⟨uzl,uzh⟩⟩ e2=(q,q'):=⟨_,_,rfl⟩;rw [h3] at H3 w_q;unfold CkBox boxV at H3;dsimp only at H3;replace H3:=hZ H3;have HEQ:=hZ (And.intro h1 (And.intro h2 h3));clear h1 h2 h3 w_g w_u;go_wp2_with (refine lS (gN HF0 0) tl th ?_)
  refine mB HF0.out (HZ.out _) fun w1 HF2=>?_;go_upto_region 14 with (fail);refine wrf [.p,.p,.p,.p,.p,.p,.p,.p,.p,.p,.p,.p,.c 0,.p,.p,.p,.c 1,.c 2,.c 3] [12,16,17,18] [] (fun k=>[(cb,153,#[(match k with | 0=>.int .i64 e | 1=>.int .i64 e1 | 2=>.int .i64 e2 | 3=>.int .i64 e3 | _=>.int .i64 e3)])]) (fun k=>[(qb,160,#[mul,muh,rl,rh,ol,oh,sl,sh,pxl,pxh,pyl,pyh,pzl,pzh,time,step,tl,th,fl,fh,dxl,dxh,dyl,dyh,dzl,dzh,.slice A n c,dl,dh]),(qb+1,208,iC [axl,axh,ayl,ayh,azl,azh,bxl,bxh,byl,byh,bzl,bzh]),(qb+1+1,31,iC [ml,mh]),(qb+1+1+1,34,iC [0,0,0,0,0,0]),(b9,34,(if k≤3 then iC [oxl,oxh,oyl,oyh,ozl,ozh] else iC [qxl,qxh,qyl,qyh,qzl,qzh])),(b10,34,iC [axl,axh,ayl,ayh,azl,azh]),(b11,34,iC [bxl,bxh,byl,byh,bzl,bzh]),(b12,31,iC [nl,nh])]) (rV [.pointer (some ⟨cb,0,none⟩),.pointer (some ⟨cb,0,none⟩),.func (.func 116) #[.pointer (some ⟨cb,0,none⟩)] #[],.agg #[oxl,oxh,oyl,oyh,ozl,ozh],.pointer (some ⟨cb,0,none⟩),.pointer (some ⟨cb,0,none⟩),.func (.func 118) #[.pointer (some ⟨cb,0,none⟩)] #[],.pointer (some ⟨cb,0,none⟩),.pointer (some ⟨qb,14,none⟩),.pointer (some ⟨qb,16,none⟩),.agg #[tl,th],.agg #[ml,mh],.agg #[gl,gh],.pointer (some ⟨qb,14,none⟩),.pointer (some ⟨qb,20,none⟩),.agg #[dxl,dxh,dyl,dyh,dzl,dzh],.agg #[uxl,uxh,uyl,uyh,uzl,uzh],.agg #[qxl,qxh,qyl,qyh,qzl,qzh]]) [] HF2.out ?_ ?_
  ·refine ⟨?_,?_,?_,?_,?_,?_,?_,?_,?_,?_,?_,?_,?_,?_,?_,?_,?_,?_,?_,trivial⟩
   all_goals intro a w1 vs dn k K S hpre KE DE kk
   ·have e1:=KE 1;go_simp;exact kk _ _
   ·have e1:=KE 1;go_simp;exact kk _ _
   ·have e108:=dep (DE 1 108);go_simp;exact kk _ _
   ·exact oL (eT (KE 9)) (gI (S.hi 3 18 rfl rfl) (S.fr.left.get 4 rfl)) u_34 (kk _ _) i_34
   ·have e1:=KE 1;go_simp;exact kk _ _
   ·have e1:=KE 1;go_simp;exact kk _ _
   ·have e112:=dep (DE 5 112);go_simp;exact kk _ _
   ·have e1:=KE 1;go_simp;exact kk _ _
   ·have e4:=KE 4;go_simp;exact kk _ _
   ·have e115:=dep (DE 8 115);go_simp;exact kk _ _
   ·exact oM (eT (dep (DE 9 116))) (S.fr.left.get 0 rfl) (kk _ _)
   ·exact oM (eT (KE 7)) (S.fr.left.get 2 rfl) (kk _ _)
   ·subst hpre;have e114:=dep (DE 7 114);have e117:=dep (DE 10 117);have e118:=dep (DE 11 118);exact oD rfl (H1.out w1 (S.fr.getO 0 rfl)) (by simp [Act.eval,e114,e117,e118]) fun w' hb=>kk _ _ (by simp) (Fr.stage (S.fr.turnO 0 rfl hb) (by exact trivial))
   ·have e4:=KE 4;go_simp;exact kk _ _
   ·have e120:=dep (DE 13 120);go_simp;exact kk _ _
   ·exact oL (eT (dep (DE 14 121))) (S.fr.left.get 0 rfl) u_34 (kk _ _) i_34
   ·subst hpre;have e111:=dep (DE 4 111);have e113:=dep (DE 6 113);have e119:=dep (DE 12 119);have e122:=dep (DE 15 122);exact oD rfl (H2.out w1 (S.fr.getO 0 rfl)) (by simp [Act.eval,e111,e113,e119,e122]) fun w' hb=>kk _ _ (by simp) (Fr.stage (S.fr.turnO 0 rfl hb) (by exact trivial))
   ·subst hpre;have e107:=dep (DE 0 107);have e109:=dep (DE 2 109);have e110:=dep (DE 3 110);have e123:=dep (DE 16 123);exact oD rfl (H3.out w1 (S.fr.getO 0 rfl)) (by simp [Act.eval,e107,e109,e110,e123]) fun w' hb=>kk _ _ (by simp) (Fr.stage (S.fr.turnO 0 rfl hb) (by exact trivial))
   ·subst hpre;exact oW (eT (KE 9)) (eT (dep (DE 17 124))) (gI (S.hi 3 18 rfl rfl) (S.fr.left.get 4 rfl)) i_34 fun w' hk ho=>kk _ _ (by simp) (Fr.stage (S.fr.only 4 rfl ho hk) (by exact trivial))
  ·intro vs w3 HFr HR;have HF3:=fW HFr;clear HFr HR;simp only [putAll,Act.put,List.setIfInBounds_toArray,List.set_cons_zero,List.set_cons_succ];go_wp2_with fail
   refine HKK.out _ _ ?_
   exact force_d HTL.out HT HV w_r w_m w_n w_a w_b w_q HCB (hZ fun z hz=>HFIN.out z (by unfold tailC;rw [if_neg HZ0.out];unfold CM.bnd;simp only [HEQ.out.1,HEQ.out.2.1,HEQ.out.2.2];exact hz)) (hZ (HF3.out.sub (List.sublist_append_left [_,_,_,_,_,_,_,_] _)))
theorem force_b {PQ:Ending→World→Prop} {w0 w W:World} {A:Option Addr} {n c cb qb b9 b10 b11 b12:Nat} {tb:Nat→PointD} {mul muh rl rh ol oh sl sh pxl pxh pyl pyh pzl pzh time step tl th fl fh dxl dxh dyl dyh dzl dzh dl dh ml mh nl nh e axl axh ayl ayh azl azh bxl bxh byl byh bzl bzh oxl oxh oyl oyh ozl ozh:Int} {s0 s2 s3 s5 s13 s14 s15 s16 s17 s18 s19 s20 s21 s22 s23 s24 s25 s26 s27 s28 s29 s30 s31 s32 s33 s34 s35 s36 s37 s38 s39 s40 s41 s42 s43 s44 s45 s46 s47 s48 s49 s50 s51 s52 s53 s54 s55 s56 s57 s58 s59 s60 s61 s62 s63 s64 s65 s66 s67 s68 s69 s70 s71 s72 s73 s74 s75 s76 s77 s78 s79 s80 s81 s82 s83 s84 s85 s86 s87 s88 s89 s90 s91 s92 s93 s94 s95 s96 s97 s98 s99 s100 s101 s102 s103 s104 s105 s106 s107 s108 s109 s110 s111 s112 s113 s114 s115 s116 s117 s118 s119 s120 s121 s122 s123 s124 s125 s126 s127 s128 s129 s130 s131 s132 s133 s134 s135 s136 s137 s138 s139 s140 s141 s142 s143 s144 s145 s146 s147 s148 s149 s150 s151 s152 s153 s154 s155 s156 s157 s158 s159 s160 s161 s162 s163 s164 s165 s166:Value}
  (hw:Below w0.heap.size w0 w) (HT:Hid (PtsAt w0 w0.heap.size A n tb)) (HV:Hid (∀ i,WdS (tb i).value)) (w_r:WdS ⟨rl,rh⟩) (w_m:WdS ⟨ml,mh⟩) (w_n:WdS ⟨nl,nh⟩) (w_a:WdB ⟨⟨axl,axh⟩,⟨ayl,ayh⟩,⟨azl,azh⟩⟩) (w_b:WdB ⟨⟨bxl,bxh⟩,⟨byl,byh⟩,⟨bzl,bzh⟩⟩) (w_o:WdB ⟨⟨oxl,oxh⟩,⟨oyl,oyh⟩,⟨ozl,ozh⟩⟩) (HCB:Hid (w0.heap.size≤cb)) (w_t:WdS ⟨tl,th⟩) (w_d:WdB ⟨⟨dxl,dxh⟩,⟨dyl,dyh⟩,⟨dzl,dzh⟩⟩) (w_s:WdS ⟨sl,sh⟩)
  (HFIN:Hid (∀ z,tailB ⟨sl,sh⟩ ⟨⟨axl,axh⟩,⟨ayl,ayh⟩,⟨azl,azh⟩⟩ ⟨⟨bxl,bxh⟩,⟨byl,byh⟩,⟨bzl,bzh⟩⟩ (tailC ⟨tl,th⟩ ⟨⟨dxl,dxh⟩,⟨dyl,dyh⟩,⟨dzl,dzh⟩⟩ ⟨ml,mh⟩ (tailD ⟨rl,rh⟩ n tb ⟨ml,mh⟩ ⟨⟨bxl,bxh⟩,⟨byl,byh⟩,⟨bzl,bzh⟩⟩ ⟨nl,nh⟩)) ⟨⟨oxl,oxh⟩,⟨oyl,oyh⟩,⟨ozl,ozh⟩⟩ e=z→∀ w',Fr w [(cb,153,#[.int .i64 z.2])] [] w'→PQ (.returned (boxV z.1)) w')) (HF0:Hid (Fr w [(cb,153,iC [e])] [(qb,160,#[mul,muh,rl,rh,ol,oh,sl,sh,pxl,pxh,pyl,pyh,pzl,pzh,time,step,tl,th,fl,fh,dxl,dxh,dyl,dyh,dzl,dzh,.slice A n c,dl,dh]),(qb+1,208,iC [axl,axh,ayl,ayh,azl,azh,bxl,bxh,byl,byh,bzl,bzh]),(qb+1+1,31,iC [ml,mh]),(qb+1+1+1,34,iC [0,0,0,0,0,0]),(b9,34,iC [oxl,oxh,oyl,oyh,ozl,ozh]),(b10,34,iC [axl,axh,ayl,ayh,azl,azh]),(b11,34,iC [bxl,bxh,byl,byh,bzl,bzh]),(b12,31,iC [nl,nh])] W)) :
  Code.wp Tryz.prog (restC 6 (Tryz.f121).body) (bodyPost Tryz.prog Tryz.f121 PQ) ⟨#[s0,.pointer (some ⟨cb,0,none⟩),s2,s3,.pointer (some ⟨qb,0,none⟩),s5,.pointer (some ⟨qb+1,0,none⟩),.pointer (some ⟨qb+1+1,0,none⟩),.pointer (some ⟨qb+1+1+1,0,none⟩),.pointer (some ⟨b9,0,none⟩),.pointer (some ⟨b10,0,none⟩),.pointer (some ⟨b11,0,none⟩),.pointer (some ⟨b12,0,none⟩),s13,s14,s15,s16,s17,s18,s19,s20,s21,s22,s23,s24,s25,s26,s27,s28,s29,s30,s31,s32,s33,s34,s35,s36,s37,s38,s39,s40,s41,s42,s43,s44,s45,s46,s47,s48,s49,s50,s51,s52,s53,s54,s55,s56,s57,s58,s59,s60,s61,s62,s63,s64,s65,s66,s67,s68,s69,s70,s71,s72,s73,s74,s75,s76,s77,s78,s79,s80,s81,s82,s83,s84,s85,s86,s87,s88,s89,s90,s91,s92,s93,s94,s95,s96,s97,s98,s99,s100,s101,s102,s103,s104,s105,s106,s107,s108,s109,s110,s111,s112,s113,s114,s115,s116,s117,s118,s119,s120,s121,s122,s123,s124,s125,s126,s127,s128,s129,s130,s131,s132,s133,s134,s135,s136,s137,s138,s139,s140,s141,s142,s143,s144,s145,s146,s147,s148,s149,s150,s151,s152,s153,s154,s155,s156,s157,s158,s159,s160,s161,s162,s163,s164,s165,s166],[]⟩ W:=by
 conv=>arg 2;whnf
 refine wp_seq_k fun K hkk=>?_
 have HKK:=hZ hkk;clear hkk;have HTL:Hid (Below w0.heap.size w0 w):=hZ hw;clear hw;have HZ:=fun w=>zeroS_any ⟨sl,sh⟩ w;by_cases hz0:(⟨sl,sh⟩:SpanD)=zeroS
 ·have hzb:=decide_eq_true hz0;rw [hzb] at HZ;unfold spanV at HZ;dsimp only at HZ;replace HZ:=hZ HZ;have HZ0:=hZ hz0;clear hzb hz0;obtain ⟨g1,hg1⟩:=eX W.heap.size;obtain ⟨w1,hw1⟩:=eX (W.alloc (.cells #[.int .i64 0,.int .i64 0] 31));have HF2:=fE hw1 (HF0.out.alloc hg1.symm 31 #[.int .i64 0,.int .i64 0]);go_wp2_with (first
    | (refine lS (gN HF0 0) sl sh ?_)
    | (refine lS (gN HF4 8) sl sh ?_)
    | (refine sW 8 HF2.out i_span fun w3 HF4=>?_;clear hw1 hg1))
  refine mB HF4.out (HZ.out _) fun w5 HF6=>?_;go_wp2_with fail
  refine HKK.out _ _ ?_
  exact force_c HTL.out HT HV w_r w_m w_n w_a w_b w_o HCB w_t w_d (hZ fun z hz=>HFIN.out z (by unfold tailB;rw [if_pos HZ0.out];unfold CM.bnd CM.ret;exact hz)) (hZ (HF6.out.sub (List.sublist_append_left [_,_,_,_,_,_,_,_] _)))
 ·have hzb:=decide_eq_false hz0;rw [hzb] at HZ;unfold spanV at HZ;dsimp only at HZ;replace HZ:=hZ HZ;have HZ0:=hZ hz0;clear hzb hz0;have H1:=fun w hk=>csquare_any cb e ⟨sl,sh⟩ w_s w hk;have w_f_:=wd_squareM ⟨sl,sh⟩ e;obtain ⟨⟨f_l,f_h⟩,e1,h1⟩:∃ q q',squareM ⟨sl,sh⟩ e=(q,q'):=⟨_,_,rfl⟩;rw [h1] at H1 w_f_;unfold CkPost spanV at H1;dsimp only at H1;replace H1:=hZ H1;have H2:=fun w hk=>cmul_any cb e1 ⟨sl,sh⟩ ⟨byl,byh⟩ w_s w_b.2.1 w hk;have w_g1:=wd_mulM ⟨sl,sh⟩ ⟨byl,byh⟩ e1;obtain ⟨⟨g1l,g1h⟩,e2,h2⟩:∃ q q',mulM ⟨sl,sh⟩ ⟨byl,byh⟩ e1=(q,q'):=⟨_,_,rfl⟩;rw [h2] at H2 w_g1;unfold CkPost spanV at H2;dsimp only at H2;replace H2:=hZ H2;have H3:=fun w hk=>cscale_any cb e2 ⟨g1l,g1h⟩ 2 w_g1 (by unfold I64;decide) w hk
  have w_g2:=wd_scaleM ⟨g1l,g1h⟩ 2 e2;obtain ⟨⟨g2l,g2h⟩,e3,h3⟩:∃ q q',scaleM ⟨g1l,g1h⟩ 2 e2=(q,q'):=⟨_,_,rfl⟩;rw [h3] at H3 w_g2;unfold CkPost spanV at H3;dsimp only at H3;replace H3:=hZ H3;have H4:=fun w hk=>cadd_any cb e3 ⟨oxl,oxh⟩ ⟨g2l,g2h⟩ w_o.1 w_g2 w hk;have w_g3:=wd_addM ⟨oxl,oxh⟩ ⟨g2l,g2h⟩ e3;obtain ⟨⟨g3l,g3h⟩,e4,h4⟩:∃ q q',addM ⟨oxl,oxh⟩ ⟨g2l,g2h⟩ e3=(q,q'):=⟨_,_,rfl⟩;rw [h4] at H4 w_g3;unfold CkPost spanV at H4;dsimp only at H4;replace H4:=hZ H4;have H5:=fun w hk=>cmul_any cb e4 ⟨f_l,f_h⟩ ⟨axl,axh⟩ w_f_ w_a.1 w hk;have w_g4:=wd_mulM ⟨f_l,f_h⟩ ⟨axl,axh⟩ e4;obtain ⟨⟨g4l,g4h⟩,e5,h5⟩:∃ q q',mulM ⟨f_l,f_h⟩ ⟨axl,axh⟩ e4=(q,q'):=⟨_,_,rfl⟩;rw [h5] at H5 w_g4;unfold CkPost spanV at H5;dsimp only at H5;replace H5:=hZ H5;have H6:=fun w hk=>cadd_any cb e5 ⟨g3l,g3h⟩ ⟨g4l,g4h⟩ w_g3 w_g4 w hk;have w_gx:=wd_addM ⟨g3l,g3h⟩ ⟨g4l,g4h⟩ e5;obtain ⟨⟨gxl,gxh⟩,e6,h6⟩:∃ q q',addM ⟨g3l,g3h⟩ ⟨g4l,g4h⟩ e5=(q,q'):=⟨_,_,rfl⟩;rw [h6] at H6 w_gx;unfold CkPost spanV at H6;dsimp only at H6;replace H6:=hZ H6;have H7:=fun w hk=>cmul_any cb e6 ⟨sl,sh⟩ ⟨bxl,bxh⟩ w_s w_b.1 w hk;have w_i1:=wd_mulM ⟨sl,sh⟩ ⟨bxl,bxh⟩ e6;obtain ⟨⟨i1l,i1h⟩,e7,h7⟩:∃ q q',mulM ⟨sl,sh⟩ ⟨bxl,bxh⟩ e6=(q,q'):=⟨_,_,rfl⟩;rw [h7] at H7 w_i1;unfold CkPost spanV at H7;dsimp only at H7;replace H7:=hZ H7;have H8:=fun w hk=>cscale_any cb e7 ⟨i1l,i1h⟩ 2 w_i1 (by unfold I64;decide) w hk
  have w_i2:=wd_scaleM ⟨i1l,i1h⟩ 2 e7;obtain ⟨⟨i2l,i2h⟩,e8,h8⟩:∃ q q',scaleM ⟨i1l,i1h⟩ 2 e7=(q,q'):=⟨_,_,rfl⟩;rw [h8] at H8 w_i2;unfold CkPost spanV at H8;dsimp only at H8;replace H8:=hZ H8;have H9:=fun w hk=>csub_any cb e8 ⟨oyl,oyh⟩ ⟨i2l,i2h⟩ w_o.2.1 w_i2 w hk;have w_i3:=wd_subM ⟨oyl,oyh⟩ ⟨i2l,i2h⟩ e8;obtain ⟨⟨i3l,i3h⟩,e9,h9⟩:∃ q q',subM ⟨oyl,oyh⟩ ⟨i2l,i2h⟩ e8=(q,q'):=⟨_,_,rfl⟩;rw [h9] at H9 w_i3;unfold CkPost spanV at H9;dsimp only at H9;replace H9:=hZ H9;have H10:=fun w hk=>cmul_any cb e9 ⟨f_l,f_h⟩ ⟨ayl,ayh⟩ w_f_ w_a.2.1 w hk;have w_i4:=wd_mulM ⟨f_l,f_h⟩ ⟨ayl,ayh⟩ e9;obtain ⟨⟨i4l,i4h⟩,e10,h10⟩:∃ q q',mulM ⟨f_l,f_h⟩ ⟨ayl,ayh⟩ e9=(q,q'):=⟨_,_,rfl⟩;rw [h10] at H10 w_i4;unfold CkPost spanV at H10;dsimp only at H10;replace H10:=hZ H10;have H11:=fun w hk=>cadd_any cb e10 ⟨i3l,i3h⟩ ⟨i4l,i4h⟩ w_i3 w_i4 w hk;have w_gy:=wd_addM ⟨i3l,i3h⟩ ⟨i4l,i4h⟩ e10;obtain ⟨⟨gyl,gyh⟩,e11,h11⟩:∃ q q',addM ⟨i3l,i3h⟩ ⟨i4l,i4h⟩ e10=(q,q'):=⟨_,_,rfl⟩;rw [h11] at H11 w_gy;unfold CkPost spanV at H11;dsimp only at H11;replace H11:=hZ H11;have w_q:WdB ⟨⟨gxl,gxh⟩,⟨gyl,gyh⟩,⟨ozl,ozh⟩⟩:=⟨w_gx,w_gy,w_o.2.2⟩;have HEQ:=hZ (And.intro h1 (And.intro h2 (And.intro h3 (And.intro h4 (And.intro h5 (And.intro h6 (And.intro h7 (And.intro h8 (And.intro h9 (And.intro h10 (h11)))))))))));clear h1 h2 h3 h4 h5 h6 h7 h8 h9 h10 h11 w_f_ w_g1 w_g2 w_g3 w_g4 w_gx w_i1 w_i2 w_i3 w_i4 w_gy;obtain ⟨g1,hg1⟩:=eX W.heap.size;obtain ⟨w1,hw1⟩:=eX (W.alloc (.cells #[.int .i64 0,.int .i64 0] 31));have HF2:=fE hw1 (HF0.out.alloc hg1.symm 31 #[.int .i64 0,.int .i64 0]);go_wp2_with (first
    | (refine lS (gN HF0 0) sl sh ?_)
    | (refine lS (gN HF4 8) sl sh ?_)
    | (refine sW 8 HF2.out i_span fun w3 HF4=>?_;clear hw1 hg1))
  refine mB HF4.out (HZ.out _) fun w5 HF6=>?_;go_wp2_with (refine lS (gN HF6 8) sl sh ?_)
  refine (H1.out _ (HF6.out.getO 0 rfl)).mono ?_
  rintro e w7 ⟨rfl,hw⟩;have HF8:=fN (HF6.out.turnO 0 rfl hw);clear hw;obtain ⟨g9,w9,hg9,hw9,HF10⟩:=fA HF8.out #[.int .i64 0,.int .i64 0] 31;go_upto_region 11 with (refine sW 9 HF10.out i_span fun w11 HF12=>?_;clear hw9 hg9)
  refine wrf [.p,.p,.p,.p,.p,.p,.p,.p,.p,.c 0,.c 1,.c 2,.p,.p,.p,.p,.c 3,.c 4,.p,.c 5] [9,10,11,16,17,19] [] (fun k=>[(cb,153,#[(match k with | 0=>.int .i64 e1 | 1=>.int .i64 e2 | 2=>.int .i64 e3 | 3=>.int .i64 e4 | 4=>.int .i64 e5 | 5=>.int .i64 e6 | _=>.int .i64 e6)])]) (fun k=>[(qb,160,#[mul,muh,rl,rh,ol,oh,sl,sh,pxl,pxh,pyl,pyh,pzl,pzh,time,step,tl,th,fl,fh,dxl,dxh,dyl,dyh,dzl,dzh,.slice A n c,dl,dh]),(qb+1,208,iC [axl,axh,ayl,ayh,azl,azh,bxl,bxh,byl,byh,bzl,bzh]),(qb+1+1,31,iC [ml,mh]),(qb+1+1+1,34,iC [0,0,0,0,0,0]),(b9,34,(if k≤5 then iC [oxl,oxh,oyl,oyh,ozl,ozh] else iC [gxl,gxh,oyl,oyh,ozl,ozh])),(b10,34,iC [axl,axh,ayl,ayh,azl,azh]),(b11,34,iC [bxl,bxh,byl,byh,bzl,bzh]),(b12,31,iC [nl,nh]),(g1,31,iC [sl,sh]),(g9,31,iC [f_l,f_h])]) (rV [.pointer (some ⟨cb,0,none⟩),.pointer (some ⟨cb,0,none⟩),.pointer (some ⟨b9,0,none⟩),.agg #[oxl,oxh],.pointer (some ⟨cb,0,none⟩),.pointer (some ⟨cb,0,none⟩),.agg #[sl,sh],.pointer (some ⟨b11,2,none⟩),.agg #[byl,byh],.agg #[g1l,g1h],.agg #[g2l,g2h],.agg #[g3l,g3h],.pointer (some ⟨cb,0,none⟩),.agg #[f_l,f_h],.pointer (some ⟨b10,0,none⟩),.agg #[axl,axh],.agg #[g4l,g4h],.agg #[gxl,gxh],.pointer (some ⟨b9,0,none⟩)]) [] HF12.out ?_ ?_
  ·refine ⟨?_,?_,?_,?_,?_,?_,?_,?_,?_,?_,?_,?_,?_,?_,?_,?_,?_,?_,?_,?_,trivial⟩
   all_goals intro a w1 vs dn k K S hpre KE DE kk
   ·have e1:=KE 1;go_simp;exact kk _ _
   ·have e1:=KE 1;go_simp;exact kk _ _
   ·have e9:=KE 9;go_simp;exact kk _ _
   ·exact oM (eT (dep (DE 2 66))) (gI (S.hi 5 19 rfl rfl) (S.fr.left.get 4 rfl)) (kk _ _)
   ·have e1:=KE 1;go_simp;exact kk _ _
   ·have e1:=KE 1;go_simp;exact kk _ _
   ·exact oM (eT (KE 13)) (S.fr.left.get 8 rfl) (kk _ _)
   ·have e11:=KE 11;go_simp;exact kk _ _
   ·exact oM (eT (dep (DE 7 71))) (S.fr.left.get 6 rfl) (kk _ _)
   ·subst hpre;have e69:=dep (DE 5 69);have e70:=dep (DE 6 70);have e72:=dep (DE 8 72);exact oD rfl (H2.out w1 (S.fr.getO 0 rfl)) (by simp [Act.eval,e69,e70,e72]) fun w' hb=>kk _ _ (by simp) (Fr.stage (S.fr.turnO 0 rfl hb) (by exact trivial))
   ·subst hpre;have e68:=dep (DE 4 68);have e73:=dep (DE 9 73);exact oD rfl (H3.out w1 (S.fr.getO 0 rfl)) (by simp [Act.eval,e68,e73]) fun w' hb=>kk _ _ (by simp) (Fr.stage (S.fr.turnO 0 rfl hb) (by exact trivial))
   ·subst hpre;have e65:=dep (DE 1 65);have e67:=dep (DE 3 67);have e74:=dep (DE 10 74);exact oD rfl (H4.out w1 (S.fr.getO 0 rfl)) (by simp [Act.eval,e65,e67,e74]) fun w' hb=>kk _ _ (by simp) (Fr.stage (S.fr.turnO 0 rfl hb) (by exact trivial))
   ·have e1:=KE 1;go_simp;exact kk _ _
   ·exact oM (eT (KE 14)) (S.fr.left.get 9 rfl) (kk _ _)
   ·have e10:=KE 10;go_simp;exact kk _ _
   ·exact oM (eT (dep (DE 14 78))) (S.fr.left.get 5 rfl) (kk _ _)
   ·subst hpre;have e76:=dep (DE 12 76);have e77:=dep (DE 13 77);have e79:=dep (DE 15 79);exact oD rfl (H5.out w1 (S.fr.getO 0 rfl)) (by simp [Act.eval,e76,e77,e79]) fun w' hb=>kk _ _ (by simp) (Fr.stage (S.fr.turnO 0 rfl hb) (by exact trivial))
   ·subst hpre;have e64:=dep (DE 0 64);have e75:=dep (DE 11 75);have e80:=dep (DE 16 80);exact oD rfl (H6.out w1 (S.fr.getO 0 rfl)) (by simp [Act.eval,e64,e75,e80]) fun w' hb=>kk _ _ (by simp) (Fr.stage (S.fr.turnO 0 rfl hb) (by exact trivial))
   ·have e9:=KE 9;go_simp;exact kk _ _
   ·subst hpre;exact oS (eT (dep (DE 18 82))) (eT (dep (DE 17 81))) (gI (S.hi 5 19 rfl rfl) (S.fr.left.get 4 rfl)) (iC [gxl,gxh,oyl,oyh,ozl,ozh]) i_span fun w' hk ho=>kk _ _ (by simp) (Fr.stage (S.fr.only 4 rfl ho hk) (by exact trivial))
  ·intro vs w13 HFr HR;have HF13:=fW HFr;clear HFr HR;simp only [putAll,Act.put,List.setIfInBounds_toArray,List.set_cons_zero,List.set_cons_succ];go_upto_region 12 with (fail);refine wrf [.p,.p,.p,.p,.p,.p,.p,.p,.p,.c 0,.c 1,.c 2,.p,.p,.p,.p,.c 3,.c 4,.p,.c 5] [9,10,11,16,17,19] [] (fun k=>[(cb,153,#[(match k with | 0=>.int .i64 e6 | 1=>.int .i64 e7 | 2=>.int .i64 e8 | 3=>.int .i64 e9 | 4=>.int .i64 e10 | 5=>.int .i64 e11 | _=>.int .i64 e11)])]) (fun k=>[(qb,160,#[mul,muh,rl,rh,ol,oh,sl,sh,pxl,pxh,pyl,pyh,pzl,pzh,time,step,tl,th,fl,fh,dxl,dxh,dyl,dyh,dzl,dzh,.slice A n c,dl,dh]),(qb+1,208,iC [axl,axh,ayl,ayh,azl,azh,bxl,bxh,byl,byh,bzl,bzh]),(qb+1+1,31,iC [ml,mh]),(qb+1+1+1,34,iC [0,0,0,0,0,0]),(b9,34,(if k≤5 then iC [gxl,gxh,oyl,oyh,ozl,ozh] else iC [gxl,gxh,gyl,gyh,ozl,ozh])),(b10,34,iC [axl,axh,ayl,ayh,azl,azh]),(b11,34,iC [bxl,bxh,byl,byh,bzl,bzh]),(b12,31,iC [nl,nh]),(g1,31,iC [sl,sh]),(g9,31,iC [f_l,f_h])]) (rV [.pointer (some ⟨cb,0,none⟩),.pointer (some ⟨cb,0,none⟩),.pointer (some ⟨b9,2,none⟩),.agg #[oyl,oyh],.pointer (some ⟨cb,0,none⟩),.pointer (some ⟨cb,0,none⟩),.agg #[sl,sh],.pointer (some ⟨b11,0,none⟩),.agg #[bxl,bxh],.agg #[i1l,i1h],.agg #[i2l,i2h],.agg #[i3l,i3h],.pointer (some ⟨cb,0,none⟩),.agg #[f_l,f_h],.pointer (some ⟨b10,2,none⟩),.agg #[ayl,ayh],.agg #[i4l,i4h],.agg #[gyl,gyh],.pointer (some ⟨b9,2,none⟩)]) [] HF13.out ?_ ?_
   ·refine ⟨?_,?_,?_,?_,?_,?_,?_,?_,?_,?_,?_,?_,?_,?_,?_,?_,?_,?_,?_,?_,trivial⟩
    all_goals intro a w1 vs dn k K S hpre KE DE kk
    ·have e1:=KE 1;go_simp;exact kk _ _
    ·have e1:=KE 1;go_simp;exact kk _ _
    ·have e9:=KE 9;go_simp;exact kk _ _
    ·exact oM (eT (dep (DE 2 85))) (gI (S.hi 5 19 rfl rfl) (S.fr.left.get 4 rfl)) (kk _ _)
    ·have e1:=KE 1;go_simp;exact kk _ _
    ·have e1:=KE 1;go_simp;exact kk _ _
    ·exact oM (eT (KE 13)) (S.fr.left.get 8 rfl) (kk _ _)
    ·have e11:=KE 11;go_simp;exact kk _ _
    ·exact oM (eT (dep (DE 7 90))) (S.fr.left.get 6 rfl) (kk _ _)
    ·subst hpre;have e88:=dep (DE 5 88);have e89:=dep (DE 6 89);have e91:=dep (DE 8 91);exact oD rfl (H7.out w1 (S.fr.getO 0 rfl)) (by simp [Act.eval,e88,e89,e91]) fun w' hb=>kk _ _ (by simp) (Fr.stage (S.fr.turnO 0 rfl hb) (by exact trivial))
    ·subst hpre;have e87:=dep (DE 4 87);have e92:=dep (DE 9 92);exact oD rfl (H8.out w1 (S.fr.getO 0 rfl)) (by simp [Act.eval,e87,e92]) fun w' hb=>kk _ _ (by simp) (Fr.stage (S.fr.turnO 0 rfl hb) (by exact trivial))
    ·subst hpre;have e84:=dep (DE 1 84);have e86:=dep (DE 3 86);have e93:=dep (DE 10 93);exact oD rfl (H9.out w1 (S.fr.getO 0 rfl)) (by simp [Act.eval,e84,e86,e93]) fun w' hb=>kk _ _ (by simp) (Fr.stage (S.fr.turnO 0 rfl hb) (by exact trivial))
    ·have e1:=KE 1;go_simp;exact kk _ _
    ·exact oM (eT (KE 14)) (S.fr.left.get 9 rfl) (kk _ _)
    ·have e10:=KE 10;go_simp;exact kk _ _
    ·exact oM (eT (dep (DE 14 97))) (S.fr.left.get 5 rfl) (kk _ _)
    ·subst hpre;have e95:=dep (DE 12 95);have e96:=dep (DE 13 96);have e98:=dep (DE 15 98);exact oD rfl (H10.out w1 (S.fr.getO 0 rfl)) (by simp [Act.eval,e95,e96,e98]) fun w' hb=>kk _ _ (by simp) (Fr.stage (S.fr.turnO 0 rfl hb) (by exact trivial))
    ·subst hpre;have e83:=dep (DE 0 83);have e94:=dep (DE 11 94);have e99:=dep (DE 16 99);exact oD rfl (H11.out w1 (S.fr.getO 0 rfl)) (by simp [Act.eval,e83,e94,e99]) fun w' hb=>kk _ _ (by simp) (Fr.stage (S.fr.turnO 0 rfl hb) (by exact trivial))
    ·have e9:=KE 9;go_simp;exact kk _ _
    ·subst hpre;exact oS (eT (dep (DE 18 101))) (eT (dep (DE 17 100))) (gI (S.hi 5 19 rfl rfl) (S.fr.left.get 4 rfl)) (iC [gxl,gxh,gyl,gyh,ozl,ozh]) i_span fun w' hk ho=>kk _ _ (by simp) (Fr.stage (S.fr.only 4 rfl ho hk) (by exact trivial))
   ·intro vs w14 HFr HR;have HF14:=fW HFr;clear HFr HR;simp only [putAll,Act.put,List.setIfInBounds_toArray,List.set_cons_zero,List.set_cons_succ];go_wp2_with fail
    refine HKK.out _ _ ?_
    exact force_c HTL.out HT HV w_r w_m w_n w_a w_b w_q HCB w_t w_d (hZ fun z hz=>HFIN.out z (by unfold tailB;rw [if_neg HZ0.out];unfold spinM CM.bnd CM.ret;simp only [HEQ.out.1,HEQ.out.2.1,HEQ.out.2.2.1,HEQ.out.2.2.2.1,HEQ.out.2.2.2.2.1,HEQ.out.2.2.2.2.2.1,HEQ.out.2.2.2.2.2.2.1,HEQ.out.2.2.2.2.2.2.2.1,HEQ.out.2.2.2.2.2.2.2.2.1,HEQ.out.2.2.2.2.2.2.2.2.2.1,HEQ.out.2.2.2.2.2.2.2.2.2.2];exact hz)) (hZ (HF14.out.sub (List.sublist_append_left [_,_,_,_,_,_,_,_] _)))

theorem wd_attrM (p:PlanetD) (b:BoxD) (r:SpanD) (e:Int):WdB (attrM p b r e).1:=wd_each wd_mulM _ _ _
theorem tailA_zero {p:PlanetD} {b:BoxD} {r:SpanD} {k:BoxD→CM BoxD} (h:p.mu=zeroS) (e:Int):tailA p b r k e=k p.pull e:=by
 unfold tailA;rw [if_pos h];rfl
theorem force_a {PQ:Ending→World→Prop} {w0 w W:World} {A:Option Addr} {n c cb qb b9 b10 b11 b12:Nat} {tb:Nat→PointD} {mul muh rl rh ol oh sl sh pxl pxh pyl pyh pzl pzh time step tl th fl fh dxl dxh dyl dyh dzl dzh dl dh ml mh nl nh e axl axh ayl ayh azl azh bxl bxh byl byh bzl bzh:Int} {s0 s2 s3 s5 s13 s14 s15 s16 s17 s18 s19 s20 s21 s22 s23 s24 s25 s26 s27 s28 s29 s30 s31 s32 s33 s34 s35 s36 s37 s38 s39 s40 s41 s42 s43 s44 s45 s46 s47 s48 s49 s50 s51 s52 s53 s54 s55 s56 s57 s58 s59 s60 s61 s62 s63 s64 s65 s66 s67 s68 s69 s70 s71 s72 s73 s74 s75 s76 s77 s78 s79 s80 s81 s82 s83 s84 s85 s86 s87 s88 s89 s90 s91 s92 s93 s94 s95 s96 s97 s98 s99 s100 s101 s102 s103 s104 s105 s106 s107 s108 s109 s110 s111 s112 s113 s114 s115 s116 s117 s118 s119 s120 s121 s122 s123 s124 s125 s126 s127 s128 s129 s130 s131 s132 s133 s134 s135 s136 s137 s138 s139 s140 s141 s142 s143 s144 s145 s146 s147 s148 s149 s150 s151 s152 s153 s154 s155 s156 s157 s158 s159 s160 s161 s162 s163 s164 s165 s166:Value}
  (hw:Below w0.heap.size w0 w) (HT:Hid (PtsAt w0 w0.heap.size A n tb)) (HV:Hid (∀ i,WdS (tb i).value)) (w_r:WdS ⟨rl,rh⟩) (w_m:WdS ⟨ml,mh⟩) (w_n:WdS ⟨nl,nh⟩) (w_a:WdB ⟨⟨axl,axh⟩,⟨ayl,ayh⟩,⟨azl,azh⟩⟩) (w_b:WdB ⟨⟨bxl,bxh⟩,⟨byl,byh⟩,⟨bzl,bzh⟩⟩) (HCB:Hid (w0.heap.size≤cb)) (w_t:WdS ⟨tl,th⟩) (w_d:WdB ⟨⟨dxl,dxh⟩,⟨dyl,dyh⟩,⟨dzl,dzh⟩⟩) (w_s:WdS ⟨sl,sh⟩) (w_mu:WdS ⟨mul,muh⟩) (w_ob:WdS ⟨ol,oh⟩) (w_p:WdB ⟨⟨pxl,pxh⟩,⟨pyl,pyh⟩,⟨pzl,pzh⟩⟩)
  (HFIN:Hid (∀ z,tailA ⟨⟨mul,muh⟩,⟨rl,rh⟩,⟨ol,oh⟩,⟨sl,sh⟩,⟨⟨pxl,pxh⟩,⟨pyl,pyh⟩,⟨pzl,pzh⟩⟩⟩ ⟨⟨axl,axh⟩,⟨ayl,ayh⟩,⟨azl,azh⟩⟩ ⟨nl,nh⟩ (tailB ⟨sl,sh⟩ ⟨⟨axl,axh⟩,⟨ayl,ayh⟩,⟨azl,azh⟩⟩ ⟨⟨bxl,bxh⟩,⟨byl,byh⟩,⟨bzl,bzh⟩⟩ (tailC ⟨tl,th⟩ ⟨⟨dxl,dxh⟩,⟨dyl,dyh⟩,⟨dzl,dzh⟩⟩ ⟨ml,mh⟩ (tailD ⟨rl,rh⟩ n tb ⟨ml,mh⟩ ⟨⟨bxl,bxh⟩,⟨byl,byh⟩,⟨bzl,bzh⟩⟩ ⟨nl,nh⟩))) e=z→∀ w',Fr w [(cb,153,#[.int .i64 z.2])] [] w'→PQ (.returned (boxV z.1)) w')) (HF0:Hid (Fr w [(cb,153,iC [e])] [(qb,160,#[mul,muh,rl,rh,ol,oh,sl,sh,pxl,pxh,pyl,pyh,pzl,pzh,time,step,tl,th,fl,fh,dxl,dxh,dyl,dyh,dzl,dzh,.slice A n c,dl,dh]),(qb+1,208,iC [axl,axh,ayl,ayh,azl,azh,bxl,bxh,byl,byh,bzl,bzh]),(qb+1+1,31,iC [ml,mh]),(qb+1+1+1,34,iC [0,0,0,0,0,0]),(b9,34,iC [pxl,pxh,pyl,pyh,pzl,pzh]),(b10,34,iC [axl,axh,ayl,ayh,azl,azh]),(b11,34,iC [bxl,bxh,byl,byh,bzl,bzh]),(b12,31,iC [nl,nh])] W)) :
  Code.wp Tryz.prog (restC 5 (Tryz.f121).body) (bodyPost Tryz.prog Tryz.f121 PQ) ⟨#[s0,.pointer (some ⟨cb,0,none⟩),s2,s3,.pointer (some ⟨qb,0,none⟩),s5,.pointer (some ⟨qb+1,0,none⟩),.pointer (some ⟨qb+1+1,0,none⟩),.pointer (some ⟨qb+1+1+1,0,none⟩),.pointer (some ⟨b9,0,none⟩),.pointer (some ⟨b10,0,none⟩),.pointer (some ⟨b11,0,none⟩),.pointer (some ⟨b12,0,none⟩),s13,s14,s15,s16,s17,s18,s19,s20,s21,s22,s23,s24,s25,s26,s27,s28,s29,s30,s31,s32,s33,s34,s35,s36,s37,s38,s39,s40,s41,s42,s43,s44,s45,s46,s47,s48,s49,s50,s51,s52,s53,s54,s55,s56,s57,s58,s59,s60,s61,s62,s63,s64,s65,s66,s67,s68,s69,s70,s71,s72,s73,s74,s75,s76,s77,s78,s79,s80,s81,s82,s83,s84,s85,s86,s87,s88,s89,s90,s91,s92,s93,s94,s95,s96,s97,s98,s99,s100,s101,s102,s103,s104,s105,s106,s107,s108,s109,s110,s111,s112,s113,s114,s115,s116,s117,s118,s119,s120,s121,s122,s123,s124,s125,s126,s127,s128,s129,s130,s131,s132,s133,s134,s135,s136,s137,s138,s139,s140,s141,s142,s143,s144,s145,s146,s147,s148,s149,s150,s151,s152,s153,s154,s155,s156,s157,s158,s159,s160,s161,s162,s163,s164,s165,s166],[]⟩ W:=by
 conv=>arg 2;whnf
 refine wp_seq_k fun K hkk=>?_
 have HKK:=hZ hkk;clear hkk;have HTL:Hid (Below w0.heap.size w0 w):=hZ hw;clear hw;have HZ:=fun w=>zeroS_any ⟨mul,muh⟩ w;by_cases hz0:(⟨mul,muh⟩:SpanD)=zeroS
 ·have hzb:=decide_eq_true hz0;rw [hzb] at HZ;unfold spanV at HZ;dsimp only at HZ;replace HZ:=hZ HZ;have HZ0:=hZ hz0;clear hzb hz0;go_wp2_with (refine lS (gN HF0 0) mul muh ?_)
  refine mB HF0.out (HZ.out _) fun w1 HF2=>?_;go_wp2_with fail
  refine HKK.out _ _ ?_
  exact force_b HTL.out HT HV w_r w_m w_n w_a w_b w_p HCB w_t w_d w_s (hZ fun z hz=>HFIN.out z (by exact (tailA_zero HZ0.out e).trans hz)) (hZ (HF2.out.sub (List.sublist_append_left [_,_,_,_,_,_,_,_] _)))
 ·have hzb:=decide_eq_false hz0;rw [hzb] at HZ;unfold spanV at HZ;dsimp only at HZ;replace HZ:=hZ HZ;have HZ0:=hZ hz0;clear hzb hz0;have w_at:=wd_attrM ⟨⟨mul,muh⟩,⟨rl,rh⟩,⟨ol,oh⟩,⟨sl,sh⟩,⟨⟨pxl,pxh⟩,⟨pyl,pyh⟩,⟨pzl,pzh⟩⟩⟩ ⟨⟨axl,axh⟩,⟨ayl,ayh⟩,⟨azl,azh⟩⟩ ⟨nl,nh⟩ e;have H1:=fun w hk=>attr_any ⟨⟨mul,muh⟩,⟨rl,rh⟩,⟨ol,oh⟩,⟨sl,sh⟩,⟨⟨pxl,pxh⟩,⟨pyl,pyh⟩,⟨pzl,pzh⟩⟩⟩ ⟨time,step,⟨tl,th⟩,⟨fl,fh⟩,⟨⟨dxl,dxh⟩,⟨dyl,dyh⟩,⟨dzl,dzh⟩⟩,[],⟨dl,dh⟩⟩ A n c cb e ⟨⟨axl,axh⟩,⟨ayl,ayh⟩,⟨azl,azh⟩⟩ ⟨nl,nh⟩ w_mu w_r w_ob w_a w_n w hk;obtain ⟨⟨⟨gxl,gxh⟩,⟨gyl,gyh⟩,⟨gzl,gzh⟩⟩,e1,h1⟩:∃ q q',attrM ⟨⟨mul,muh⟩,⟨rl,rh⟩,⟨ol,oh⟩,⟨sl,sh⟩,⟨⟨pxl,pxh⟩,⟨pyl,pyh⟩,⟨pzl,pzh⟩⟩⟩ ⟨⟨axl,axh⟩,⟨ayl,ayh⟩,⟨azl,azh⟩⟩ ⟨nl,nh⟩ e=(q,q'):=⟨_,_,rfl⟩;rw [h1] at H1 w_at;unfold CkBox modelV boxV spanV at H1;dsimp only at H1;replace H1:=hZ H1;have H2:=fun w hk=>eachsub_any cb e1 ⟨⟨pxl,pxh⟩,⟨pyl,pyh⟩,⟨pzl,pzh⟩⟩ ⟨⟨gxl,gxh⟩,⟨gyl,gyh⟩,⟨gzl,gzh⟩⟩ w_p w_at w hk;have w_q:=wd_each wd_subM ⟨⟨pxl,pxh⟩,⟨pyl,pyh⟩,⟨pzl,pzh⟩⟩ ⟨⟨gxl,gxh⟩,⟨gyl,gyh⟩,⟨gzl,gzh⟩⟩ e1;obtain ⟨⟨⟨qxl,qxh⟩,⟨qyl,qyh⟩,⟨qzl,qzh⟩⟩,e2,h2⟩:∃ q q',eachM subM ⟨⟨pxl,pxh⟩,⟨pyl,pyh⟩,⟨pzl,pzh⟩⟩ ⟨⟨gxl,gxh⟩,⟨gyl,gyh⟩,⟨gzl,gzh⟩⟩ e1=(q,q'):=⟨_,_,rfl⟩;rw [h2] at H2 w_q;unfold CkBox boxV at H2;dsimp only at H2;replace H2:=hZ H2;have HEQ:=hZ (And.intro h1 h2);clear h1 h2 w_at;go_wp2_with (refine lS (gN HF0 0) mul muh ?_)
  refine mB HF0.out (HZ.out _) fun w1 HF2=>?_;go_upto_region 7 with (fail);refine wrf [.p,.p,.p,.p,.p,.p,.p,.p,.c 0,.c 1,.c 2] [8,9,10] [] (fun k=>[(cb,153,#[(match k with | 0=>.int .i64 e | 1=>.int .i64 e1 | 2=>.int .i64 e2 | _=>.int .i64 e2)])]) (fun k=>[(qb,160,#[mul,muh,rl,rh,ol,oh,sl,sh,pxl,pxh,pyl,pyh,pzl,pzh,time,step,tl,th,fl,fh,dxl,dxh,dyl,dyh,dzl,dzh,.slice A n c,dl,dh]),(qb+1,208,iC [axl,axh,ayl,ayh,azl,azh,bxl,bxh,byl,byh,bzl,bzh]),(qb+1+1,31,iC [ml,mh]),(qb+1+1+1,34,iC [0,0,0,0,0,0]),(b9,34,(if k≤2 then iC [pxl,pxh,pyl,pyh,pzl,pzh] else iC [qxl,qxh,qyl,qyh,qzl,qzh])),(b10,34,iC [axl,axh,ayl,ayh,azl,azh]),(b11,34,iC [bxl,bxh,byl,byh,bzl,bzh]),(b12,31,iC [nl,nh])]) (rV [.pointer (some ⟨cb,0,none⟩),.pointer (some ⟨cb,0,none⟩),.func (.func 57) #[.pointer (some ⟨cb,0,none⟩)] #[],.agg #[pxl,pxh,pyl,pyh,pzl,pzh],.agg #[mul,muh,rl,rh,ol,oh,sl,sh,pxl,pxh,pyl,pyh,pzl,pzh,time,step,tl,th,fl,fh,dxl,dxh,dyl,dyh,dzl,dzh,.slice A n c,dl,dh],.pointer (some ⟨cb,0,none⟩),.agg #[axl,axh,ayl,ayh,azl,azh],.agg #[nl,nh],.agg #[gxl,gxh,gyl,gyh,gzl,gzh],.agg #[qxl,qxh,qyl,qyh,qzl,qzh]]) [] HF2.out ?_ ?_
  ·refine ⟨?_,?_,?_,?_,?_,?_,?_,?_,?_,?_,?_,trivial⟩
   all_goals intro a w1 vs dn k K S hpre KE DE kk
   ·have e1:=KE 1;go_simp;exact kk _ _
   ·have e1:=KE 1;go_simp;exact kk _ _
   ·have e46:=dep (DE 1 46);go_simp;exact kk _ _
   ·exact oL (eT (KE 9)) (gI (S.hi 2 10 rfl rfl) (S.fr.left.get 4 rfl)) u_34 (kk _ _) i_34
   ·exact oL (eT (KE 4)) (S.fr.left.get 0 rfl) u_160 (kk _ _) i_160
   ·have e1:=KE 1;go_simp;exact kk _ _
   ·exact oL (eT (KE 10)) (S.fr.left.get 5 rfl) u_34 (kk _ _) i_34
   ·exact oM (eT (KE 12)) (S.fr.left.get 7 rfl) (kk _ _)
   ·subst hpre;have e49:=dep (DE 4 49);have e50:=dep (DE 5 50);have e51:=dep (DE 6 51);have e52:=dep (DE 7 52);exact oD rfl (H1.out w1 (S.fr.getO 0 rfl)) (by simp [Act.eval,e49,e50,e51,e52]) fun w' hb=>kk _ _ (by simp) (Fr.stage (S.fr.turnO 0 rfl hb) (by exact trivial))
   ·subst hpre;have e45:=dep (DE 0 45);have e47:=dep (DE 2 47);have e48:=dep (DE 3 48);have e53:=dep (DE 8 53);exact oD rfl (H2.out w1 (S.fr.getO 0 rfl)) (by simp [Act.eval,e45,e47,e48,e53]) fun w' hb=>kk _ _ (by simp) (Fr.stage (S.fr.turnO 0 rfl hb) (by exact trivial))
   ·subst hpre;exact oW (eT (KE 9)) (eT (dep (DE 9 54))) (gI (S.hi 2 10 rfl rfl) (S.fr.left.get 4 rfl)) i_34 fun w' hk ho=>kk _ _ (by simp) (Fr.stage (S.fr.only 4 rfl ho hk) (by exact trivial))
  ·intro vs w3 HFr HR;have HF3:=fW HFr;clear HFr HR;simp only [putAll,Act.put,List.setIfInBounds_toArray,List.set_cons_zero,List.set_cons_succ];go_wp2_with fail
   refine HKK.out _ _ ?_
   exact force_b HTL.out HT HV w_r w_m w_n w_a w_b w_q HCB w_t w_d w_s (hZ fun z hz=>HFIN.out z (by unfold tailA;rw [if_neg HZ0.out];unfold CM.bnd;simp only [HEQ.out.1,HEQ.out.2];exact hz)) (hZ (HF3.out.sub (List.sublist_append_left [_,_,_,_,_,_,_,_] _)))
def distM' (mu:SpanD) (n:Nat) (b:BoxD):CM SpanD:=if mu=zeroS∧n=0 then CM.ret zeroS else normM b
theorem force_r {PQ:Ending→World→Prop} {w0 w W:World} {A:Option Addr} {n c cb qb b9 b10 b11 b12:Nat} {tb:Nat→PointD} {mul muh rl rh ol oh sl sh pxl pxh pyl pyh pzl pzh time step tl th fl fh dxl dxh dyl dyh dzl dzh dl dh ml mh e axl axh ayl ayh azl azh bxl bxh byl byh bzl bzh:Int} {s0 s2 s3 s5 s13 s14 s15 s16 s17 s18 s19 s20 s21 s22 s23 s24 s25 s26 s27 s28 s29 s30 s31 s32 s33 s34 s35 s36 s37 s38 s39 s40 s41 s42 s43 s44 s45 s46 s47 s48 s49 s50 s51 s52 s53 s54 s55 s56 s57 s58 s59 s60 s61 s62 s63 s64 s65 s66 s67 s68 s69 s70 s71 s72 s73 s74 s75 s76 s77 s78 s79 s80 s81 s82 s83 s84 s85 s86 s87 s88 s89 s90 s91 s92 s93 s94 s95 s96 s97 s98 s99 s100 s101 s102 s103 s104 s105 s106 s107 s108 s109 s110 s111 s112 s113 s114 s115 s116 s117 s118 s119 s120 s121 s122 s123 s124 s125 s126 s127 s128 s129 s130 s131 s132 s133 s134 s135 s136 s137 s138 s139 s140 s141 s142 s143 s144 s145 s146 s147 s148 s149 s150 s151 s152 s153 s154 s155 s156 s157 s158 s159 s160 s161 s162 s163 s164 s165 s166:Value}
  (hw:Below w0.heap.size w0 w) (HT:Hid (PtsAt w0 w0.heap.size A n tb)) (HV:Hid (∀ i,WdS (tb i).value)) (w_r:WdS ⟨rl,rh⟩) (w_m:WdS ⟨ml,mh⟩) (w_a:WdB ⟨⟨axl,axh⟩,⟨ayl,ayh⟩,⟨azl,azh⟩⟩) (w_b:WdB ⟨⟨bxl,bxh⟩,⟨byl,byh⟩,⟨bzl,bzh⟩⟩) (HCB:Hid (w0.heap.size≤cb)) (w_t:WdS ⟨tl,th⟩) (w_d:WdB ⟨⟨dxl,dxh⟩,⟨dyl,dyh⟩,⟨dzl,dzh⟩⟩) (w_s:WdS ⟨sl,sh⟩) (w_mu:WdS ⟨mul,muh⟩) (w_ob:WdS ⟨ol,oh⟩) (w_p:WdB ⟨⟨pxl,pxh⟩,⟨pyl,pyh⟩,⟨pzl,pzh⟩⟩)
  (HFIN:Hid (∀ z,((distM' ⟨mul,muh⟩ n ⟨⟨axl,axh⟩,⟨ayl,ayh⟩,⟨azl,azh⟩⟩).bnd fun r=>tailA ⟨⟨mul,muh⟩,⟨rl,rh⟩,⟨ol,oh⟩,⟨sl,sh⟩,⟨⟨pxl,pxh⟩,⟨pyl,pyh⟩,⟨pzl,pzh⟩⟩⟩ ⟨⟨axl,axh⟩,⟨ayl,ayh⟩,⟨azl,azh⟩⟩ r (tailB ⟨sl,sh⟩ ⟨⟨axl,axh⟩,⟨ayl,ayh⟩,⟨azl,azh⟩⟩ ⟨⟨bxl,bxh⟩,⟨byl,byh⟩,⟨bzl,bzh⟩⟩ (tailC ⟨tl,th⟩ ⟨⟨dxl,dxh⟩,⟨dyl,dyh⟩,⟨dzl,dzh⟩⟩ ⟨ml,mh⟩ (tailD ⟨rl,rh⟩ n tb ⟨ml,mh⟩ ⟨⟨bxl,bxh⟩,⟨byl,byh⟩,⟨bzl,bzh⟩⟩ r)))) e=z→∀ w',Fr w [(cb,153,#[.int .i64 z.2])] [] w'→PQ (.returned (boxV z.1)) w')) (HF0:Hid (Fr w [(cb,153,iC [e])] [(qb,160,#[mul,muh,rl,rh,ol,oh,sl,sh,pxl,pxh,pyl,pyh,pzl,pzh,time,step,tl,th,fl,fh,dxl,dxh,dyl,dyh,dzl,dzh,.slice A n c,dl,dh]),(qb+1,208,iC [axl,axh,ayl,ayh,azl,azh,bxl,bxh,byl,byh,bzl,bzh]),(qb+1+1,31,iC [ml,mh]),(qb+1+1+1,34,iC [0,0,0,0,0,0]),(b9,34,iC [pxl,pxh,pyl,pyh,pzl,pzh]),(b10,34,iC [axl,axh,ayl,ayh,azl,azh]),(b11,34,iC [bxl,bxh,byl,byh,bzl,bzh]),(b12,31,iC [0,0])] W)) :
  Code.wp Tryz.prog (restC 4 (Tryz.f121).body) (bodyPost Tryz.prog Tryz.f121 PQ) ⟨#[s0,.pointer (some ⟨cb,0,none⟩),s2,s3,.pointer (some ⟨qb,0,none⟩),s5,.pointer (some ⟨qb+1,0,none⟩),.pointer (some ⟨qb+1+1,0,none⟩),.pointer (some ⟨qb+1+1+1,0,none⟩),.pointer (some ⟨b9,0,none⟩),.pointer (some ⟨b10,0,none⟩),.pointer (some ⟨b11,0,none⟩),.pointer (some ⟨b12,0,none⟩),s13,s14,s15,s16,s17,s18,s19,s20,s21,s22,s23,s24,s25,s26,s27,s28,s29,s30,s31,s32,s33,s34,s35,s36,s37,s38,s39,s40,s41,s42,s43,s44,s45,s46,s47,s48,s49,s50,s51,s52,s53,s54,s55,s56,s57,s58,s59,s60,s61,s62,s63,s64,s65,s66,s67,s68,s69,s70,s71,s72,s73,s74,s75,s76,s77,s78,s79,s80,s81,s82,s83,s84,s85,s86,s87,s88,s89,s90,s91,s92,s93,s94,s95,s96,s97,s98,s99,s100,s101,s102,s103,s104,s105,s106,s107,s108,s109,s110,s111,s112,s113,s114,s115,s116,s117,s118,s119,s120,s121,s122,s123,s124,s125,s126,s127,s128,s129,s130,s131,s132,s133,s134,s135,s136,s137,s138,s139,s140,s141,s142,s143,s144,s145,s146,s147,s148,s149,s150,s151,s152,s153,s154,s155,s156,s157,s158,s159,s160,s161,s162,s163,s164,s165,s166],[]⟩ W:=by
 conv=>arg 2;whnf
 refine wp_seq_k fun K hkk=>?_
 have HKK:=hZ hkk;clear hkk;have HTL:Hid (Below w0.heap.size w0 w):=hZ hw;clear hw;unfold CM.bnd at HFIN;have HZ:=fun w=>zeroS_any ⟨mul,muh⟩ w;by_cases hz0:(⟨mul,muh⟩:SpanD)=zeroS
 ·have hzb:=decide_eq_true hz0;rw [hzb] at HZ;unfold spanV at HZ;dsimp only at HZ;replace HZ:=hZ HZ;have HZ0:=hZ hz0;clear hzb hz0;by_cases hn0:n=0
  ·have hnp:¬ (0:Int)<(n:Int):=by omega
   rw [show distM' ⟨mul,muh⟩ n ⟨⟨axl,axh⟩,⟨ayl,ayh⟩,⟨azl,azh⟩⟩ e=(zeroS,e) from by unfold distM';rw [if_pos (by exact ⟨HZ0.out,hn0⟩)];rfl] at HFIN
   dsimp only at HFIN;have HN0:=hZ hn0;clear hn0;go_wp2_with (refine lS (gN HF0 0) mul muh ?_)
   refine mB HF0.out (HZ.out _) fun w1 HF2=>?_;have c3:=cA (gN HF2 0) 26;go_wp2_with fail
   clear c3;refine HKK.out _ _ ?_
   exact force_a HTL.out HT HV w_r w_m wd_zero w_a w_b HCB w_t w_d w_s w_mu w_ob w_p HFIN (hZ (HF2.out.sub (List.sublist_append_left [_,_,_,_,_,_,_,_] _)))
  ·have hnp:(0:Int)<(n:Int):=by omega
   have H1:=fun w hk=>cnorm_any cb e ⟨⟨axl,axh⟩,⟨ayl,ayh⟩,⟨azl,azh⟩⟩ w_a w hk;have w_n:=wd_normM ⟨⟨axl,axh⟩,⟨ayl,ayh⟩,⟨azl,azh⟩⟩ e;obtain ⟨⟨nl,nh⟩,e1,h1⟩:∃ q q',normM ⟨⟨axl,axh⟩,⟨ayl,ayh⟩,⟨azl,azh⟩⟩ e=(q,q'):=⟨_,_,rfl⟩;rw [h1] at H1 w_n;unfold CkPost spanV boxV at H1;dsimp only at H1;replace H1:=hZ H1;have HEQ:=hZ h1;clear h1;rw [show distM' ⟨mul,muh⟩ n ⟨⟨axl,axh⟩,⟨ayl,ayh⟩,⟨azl,azh⟩⟩ e=((⟨nl,nh⟩:SpanD),e1) from by unfold distM';rw [if_neg (by exact fun h=>hn0 h.2)];exact HEQ.out] at HFIN
   dsimp only at HFIN;go_wp2_with (refine lS (gN HF0 0) mul muh ?_)
   refine mB HF0.out (HZ.out _) fun w1 HF2=>?_;have c3:=cA (gN HF2 0) 26;go_wp2_with (refine lF (gN HF2 5) #[axl,axh,ayl,ayh,azl,azh] u_34 i_34 ?_)
   clear c3;refine (H1.out _ (HF2.out.getO 0 rfl)).mono ?_
   rintro e w4 ⟨rfl,hw⟩;have HF5:=fN (HF2.out.turnO 0 rfl hw);clear hw;go_wp2_with (refine sW 7 HF5.out i_span fun w6 HF7=>?_)
   refine HKK.out _ _ ?_
   exact force_a HTL.out HT HV w_r w_m w_n w_a w_b HCB w_t w_d w_s w_mu w_ob w_p HFIN (hZ (HF7.out.sub (List.sublist_append_left [_,_,_,_,_,_,_,_] _)))
 ·have hzb:=decide_eq_false hz0;rw [hzb] at HZ;unfold spanV at HZ;dsimp only at HZ;replace HZ:=hZ HZ;have HZ0:=hZ hz0;clear hzb hz0;have H1:=fun w hk=>cnorm_any cb e ⟨⟨axl,axh⟩,⟨ayl,ayh⟩,⟨azl,azh⟩⟩ w_a w hk;have w_n:=wd_normM ⟨⟨axl,axh⟩,⟨ayl,ayh⟩,⟨azl,azh⟩⟩ e;obtain ⟨⟨nl,nh⟩,e1,h1⟩:∃ q q',normM ⟨⟨axl,axh⟩,⟨ayl,ayh⟩,⟨azl,azh⟩⟩ e=(q,q'):=⟨_,_,rfl⟩;rw [h1] at H1 w_n;unfold CkPost spanV boxV at H1;dsimp only at H1;replace H1:=hZ H1;have HEQ:=hZ h1;clear h1;rw [show distM' ⟨mul,muh⟩ n ⟨⟨axl,axh⟩,⟨ayl,ayh⟩,⟨azl,azh⟩⟩ e=((⟨nl,nh⟩:SpanD),e1) from by unfold distM';rw [if_neg (by exact fun h=>HZ0.out h.1)];exact HEQ.out] at HFIN
  dsimp only at HFIN;go_wp2_with (refine lS (gN HF0 0) mul muh ?_)
  refine mB HF0.out (HZ.out _) fun w1 HF2=>?_;go_wp2_with (refine lF (gN HF2 5) #[axl,axh,ayl,ayh,azl,azh] u_34 i_34 ?_)
  refine (H1.out _ (HF2.out.getO 0 rfl)).mono ?_
  rintro e w3 ⟨rfl,hw⟩;have HF4:=fN (HF2.out.turnO 0 rfl hw);clear hw;go_wp2_with (refine sW 7 HF4.out i_span fun w5 HF6=>?_)
  refine HKK.out _ _ ?_
  exact force_a HTL.out HT HV w_r w_m w_n w_a w_b HCB w_t w_d w_s w_mu w_ob w_p HFIN (hZ (HF6.out.sub (List.sublist_append_left [_,_,_,_,_,_,_,_] _)))
theorem force_any (p:PlanetD) (a:ArcD) (A:Option Addr) (c:Nat) (cb:Nat) (e:Int) (x:SixD) (m:SpanD) (w_mu:WdS p.mu) (w_r:WdS p.radius) (w_ob:WdS p.oblate) (w_s:WdS p.spin) (w_p:WdB p.pull) (w_t:WdS a.thrust) (w_d:WdB a.dir) (hv:∀ i,WdS (ptL a.drag i).value) (hx:WdX x) (w_m:WdS m)
  (w0 w:World) (hT:PtsAt w0 w0.heap.size A a.drag.length (ptL a.drag)) (hw:Below w0.heap.size w0 w) (hcb:w0.heap.size≤cb) (hk:Bk w cb 153 #[.int .i64 e]) :
  Calls Tryz.prog 121 #[modelV p a A a.drag.length c,.pointer (some ⟨cb,0,none⟩),sixV x,spanV m] w (CkBox cb (forceM p a x m e) w):=by
 have HKC:=hZ hk;have HT:=hZ hT;have HV:=hZ hv;have HCB:=hZ hcb;have HTL:=hZ hw;have HPL:=fun w=>place_any x w;have HSPD:=fun w=>speed_any x w;have HR:Hid (∀ z,forceM p a x m e=z→∀ w',Fr w [(cb,153,#[.int .i64 z.2])] [] w'→CkBox cb (forceM p a x m e) w (.returned (boxV z.1)) w'):=hZ fun z hz w' h=>by rw [hz];exact ⟨rfl,h⟩
 refine pQ fun PQ hPQ=>?_
 rw [hPQ] at HR;rw [force_parts] at HR;unfold distM at HR;obtain ⟨⟨mul,muh⟩,⟨rl,rh⟩,⟨ol,oh⟩,⟨sl,sh⟩,⟨⟨pxl,pxh⟩,⟨pyl,pyh⟩,⟨pzl,pzh⟩⟩⟩:=p;obtain ⟨time,step,⟨tl,th⟩,⟨fl,fh⟩,⟨⟨dxl,dxh⟩,⟨dyl,dyh⟩,⟨dzl,dzh⟩⟩,drag,⟨dl,dh⟩⟩:=a;obtain ⟨ml,mh⟩:=m;obtain ⟨⟨⟨axl,axh⟩,⟨ayl,ayh⟩,⟨azl,azh⟩⟩,⟨⟨bxl,bxh⟩,⟨byl,byh⟩,⟨bzl,bzh⟩⟩⟩:=x;obtain ⟨w_a,w_b⟩:=hx;dsimp only at w_mu w_r w_ob w_s w_p w_t w_d w_a w_b HR HT HV ⊢;obtain ⟨n,hn⟩:=eX drag.length;obtain ⟨tb,htb⟩:=eX (ptL drag);rw [hn,htb] at HT HR;rw [htb] at HV;rw [hn];unfold sixV boxV at HPL HSPD;unfold modelV sixV spanV;dsimp only at HPL HSPD ⊢;replace HPL:=hZ HPL;replace HSPD:=hZ HSPD;clear hPQ hT hv hcb hw hn htb;obtain ⟨qb,W0,hqb,hW0,HF0⟩:=fM (Fr.start1 HKC.out) [(#[mul,muh,rl,rh,ol,oh,sl,sh,pxl,pxh,pyl,pyh,pzl,pzh,time,step,tl,th,fl,fh,dxl,dxh,dyl,dyh,dzl,dzh,.slice A n c,dl,dh],160),(#[axl,axh,ayl,ayh,azl,azh,bxl,bxh,byl,byh,bzl,bzh],208),(#[ml,mh],31),(#[(0:Int),(0:Int),(0:Int),(0:Int),(0:Int),(0:Int)],34)];clear hk;go_enter Tryz.func121,Tryz.ntmps121;go_upto_region 1 with (fail);clear hW0 hqb;obtain ⟨g1,hg1⟩:=eX W0.heap.size;obtain ⟨w1,hw1⟩:=eX (W0.alloc (.cells #[(0:Int),(0:Int),(0:Int),(0:Int),(0:Int),(0:Int)] 34));have HF2:=fE hw1 (HF0.out.alloc hg1.symm 34 #[(0:Int),(0:Int),(0:Int),(0:Int),(0:Int),(0:Int)]);go_upto_region 2 with (first
   | (refine lF (gN HF0 0) #[pxl,pxh,pyl,pyh,pzl,pzh] u_34 i_34 ?_)
   | (refine sW 4 HF2.out i_34 fun w3 HF4=>?_;clear hw1 hg1))
 refine wrf [.p,.p,.p,.p,.a 0,.a 1,.c 0,.c 1] [6,7] [(4,34,fun k=>(if k≤0 then iC [0,0,0,0,0,0] else iC [axl,axh,ayl,ayh,azl,azh])),(5,34,fun k=>(if k≤1 then iC [0,0,0,0,0,0] else iC [bxl,bxh,byl,byh,bzl,bzh]))] (fun _=>_) (fun _=>_) (fun ix u _=>match ix with
     | 0=>u=.agg #[axl,axh,ayl,ayh,azl,azh,bxl,bxh,byl,byh,bzl,bzh]
     | 1=>u=.agg #[axl,axh,ayl,ayh,azl,azh]
     | 2=>u=.agg #[axl,axh,ayl,ayh,azl,azh,bxl,bxh,byl,byh,bzl,bzh]
     | 3=>u=.agg #[bxl,bxh,byl,byh,bzl,bzh]
     | 4=>u=.pointer (some ⟨gOf u,0,none⟩)
     | 5=>u=.pointer (some ⟨gOf u,0,none⟩)
     | _=>True) [4,5] HF4.out ?_ ?_
 ·refine ⟨?_,?_,?_,?_,?_,?_,?_,?_,trivial⟩
  all_goals intro a w1 vs dn k K S hpre KE DE kk
  ·exact oL (eT (KE 6)) (S.fr.left.get 1 rfl) u_208 (kk _ _) i_208
  ·have e21:=dep (DE 0 21);exact oE rfl (HPL.out w1) (by simp [Act.eval,e21]) @kk
  ·exact oL (eT (KE 6)) (S.fr.left.get 1 rfl) u_208 (kk _ _) i_208
  ·have e23:=dep (DE 2 23);exact oE rfl (HSPD.out w1) (by simp [Act.eval,e23]) @kk
  ·go_simp;exact kk _ _ (by simp) (by have h:=S.fr.alloc rfl 34 #[(0:Int),(0:Int),(0:Int),(0:Int),(0:Int),(0:Int)];show Fr _ _ (_ ++ [(_,34,if k≤0 then _ else _)]) _;rw [if_pos (S.hi 0 6 rfl rfl)];exact h) rfl
  ·go_simp;exact kk _ _ (by simp) (by have h:=S.fr.alloc rfl 34 #[(0:Int),(0:Int),(0:Int),(0:Int),(0:Int),(0:Int)];show Fr _ _ (_ ++ [(_,34,if k≤1 then _ else _)]) _;rw [if_pos (S.hi 1 7 rfl rfl)];exact h) rfl
  ·subst hpre;have e10:=dep (DE 4 10);have e22:=dep (DE 1 22);have HS:=Fr.done S.fr (by exact ⟨S.done 4 rfl,S.done 5 rfl,trivial⟩)
   exact oW (eT e10) (eT e22) (HS.get 5 rfl) i_34 fun w' hk ho=>kk _ _ (by simp) (Fr.undone (HS.only 5 rfl ho hk) (by exact ⟨S.done 4 rfl,S.done 5 rfl,trivial⟩)) trivial
  ·subst hpre;have e11:=dep (DE 5 11);have e24:=dep (DE 3 24);have HS:=Fr.done S.fr (by exact ⟨S.done 4 rfl,S.done 5 rfl,trivial⟩)
   exact oW (eT e11) (eT e24) (HS.get 6 rfl) i_34 fun w' hk ho=>kk _ _ (by simp) (Fr.undone (HS.only 6 rfl ho hk) (by exact ⟨S.done 4 rfl,S.done 5 rfl,trivial⟩)) trivial
 ·intro vs wf HFr HR;have HFr':Fr w [(cb,153,iC [e])] [(qb,160,#[mul,muh,rl,rh,ol,oh,sl,sh,pxl,pxh,pyl,pyh,pzl,pzh,time,step,tl,th,fl,fh,dxl,dxh,dyl,dyh,dzl,dzh,.slice A n c,dl,dh]),(qb+1,208,iC [axl,axh,ayl,ayh,azl,azh,bxl,bxh,byl,byh,bzl,bzh]),(qb+1+1,31,iC [ml,mh]),(qb+1+1+1,34,iC [0,0,0,0,0,0]),(g1,34,iC [pxl,pxh,pyl,pyh,pzl,pzh]),((gOf (vs 4)),34,iC [axl,axh,ayl,ayh,azl,azh]),((gOf (vs 5)),34,iC [bxl,bxh,byl,byh,bzl,bzh])] wf:=HFr;have v4:vs 4=.pointer (some ⟨(gOf (vs 4)),0,none⟩):=HR 4 _ rfl;have v5:vs 5=.pointer (some ⟨(gOf (vs 5)),0,none⟩):=HR 5 _ rfl;clear HFr HR;obtain ⟨g5_4,hg5_4⟩:=eX (gOf (vs 4));obtain ⟨g5_5,hg5_5⟩:=eX (gOf (vs 5));rw [hg5_4,hg5_5] at HFr';rw [hg5_4] at v4;rw [hg5_5] at v5;clear hg5_4 hg5_5;have HF5:=hZ HFr';clear HFr';simp only [putAll,Act.put,List.setIfInBounds_toArray,List.set_cons_zero,List.set_cons_succ];simp only [v4,v5];clear v4 v5;obtain ⟨w5,rfl⟩:∃ u:World,u=wf:=⟨_,rfl⟩;go_upto_region 3 with (fail);rename_i hkk
  have HKK:=hZ hkk;clear hkk;obtain ⟨g6,w6,hg6,hw6,HF7⟩:=fA HF5.out #[.int .i64 0,.int .i64 0] 31;go_wp2_with fail
  clear hw6 hg6;refine HKK.out _ _ ?_
  exact force_r HTL.out HT HV w_r w_m w_a w_b HCB w_t w_d w_s w_mu w_ob w_p HR HF7
end Go.Proofs.YtmkoegljnebdiaaGreat
