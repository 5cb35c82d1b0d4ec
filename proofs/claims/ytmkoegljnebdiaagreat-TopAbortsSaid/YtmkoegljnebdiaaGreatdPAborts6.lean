/- What is proved: the texts Fi, one behind the other; each says at its head what it proves, and under which conditions. -/
import Derived.Test.YtmkoegljnebdiaaGreatdPAborts5
namespace Go.Proofs.YtmkoegljnebdiaaGreat
open Go.RowKit
set_option maxRecDepth 100000
set_option maxHeartbeats 16000000

section
variable {P:Program}
theorem results_ccT {fn:Func} {p u r:Tmp} {ty ty2:TypeId} (h:fn.results=#[.cell p ty,.cell r ty2,.tmp u]) (tmps:Array Value) (w:World) (g g2:Nat) (t t2:TypeId) (cs cs2:Array Value) (d d2:TypeDesc)
  (hp:tmps.getD p undef=.pointer (some ⟨g,0,none⟩)) (hg:Bk w g t cs) (hp2:tmps.getD r undef=.pointer (some ⟨g2,0,none⟩)) (hg2:Bk w g2 t2 cs2)
  (hu:P.underlying ty=some d) (hd:(match d with | .struct _ | .array _ _=>true | _=>false)=true) (hi:(P.info? ty).map (·.size)=some cs.size)
  (hu2:P.underlying ty2=some d2) (hd2:(match d2 with | .struct _ | .array _ _=>true | _=>false)=true) (hi2:(P.info? ty2).map (·.size)=some cs2.size) :
  (results fn tmps).run P w=.ok (.tuple #[.agg cs,.agg cs2,tmps.getD u undef]) w:=by
 have hl:=run_loadVar_at (P:=P) w g 0 ty cs d (fun j v hj=>by rw [Nat.zero_add,hg.cell];exact hj) hu hd hi
 have hl2:=run_loadVar_at (P:=P) w g2 0 ty2 cs2 d2 (fun j v hj=>by rw [Nat.zero_add,hg2.cell];exact hj) hu2 hd2 hi2
 have hp':tmps[p]?.getD undef=.pointer (some ⟨g,0,none⟩):=by simpa using hp
 have hp2':tmps[r]?.getD undef=.pointer (some ⟨g2,0,none⟩):=by simpa using hp2
 simp [results,h,hp',hp2',asAddr,hl,hl2]
theorem ret_agg3 {fn:Func} {p r u:Tmp} {ty ty2:TypeId} (h:fn.results=#[.cell p ty,.cell r ty2,.tmp u]) {a:Act} (ha:a.defers=[]) {w:World} {g g2:Nat} {t t2:TypeId} {cs cs2:Array Value} {d d2:TypeDesc} {v:Value} {Q:Ending→World→Prop}
  (hp:a.tmps.getD p undef=.pointer (some ⟨g,0,none⟩)) (hk:Bk w g t cs) (hp2:a.tmps.getD r undef=.pointer (some ⟨g2,0,none⟩)) (hk2:Bk w g2 t2 cs2) (hv:a.tmps.getD u undef=v)
  (hu:P.underlying ty=some d) (hd:(match d with | .struct _ | .array _ _=>true | _=>false)=true) (hi:(P.info? ty).map (·.size)=some cs.size)
  (hu2:P.underlying ty2=some d2) (hd2:(match d2 with | .struct _ | .array _ _=>true | _=>false)=true) (hi2:(P.info? ty2).map (·.size)=some cs2.size)
  (hQ:Q (.returned (.tuple #[.agg cs,.agg cs2,v])) w):bodyPost P fn Q .ret a w :=
 bodyPost_ret (v:=.tuple #[.agg cs,.agg cs2,v]) (by subst hv;exact results_ccT h _ _ g g2 t t2 cs cs2 d d2 hp hk hp2 hk2 hu hd hi hu2 hd2 hi2) ha hQ
end
def dS (h:Int):SpanD:=⟨min h 0,max h 0⟩
def massM (a:ArcD) (s:StateD) (h:Int):CM (SpanD × SpanD):=(addM (ptS s.t) (ptS h)).bnd fun en=>(mulM a.flow (dS h)).bnd fun fl=>(subM s.m fl).bnd fun ms=>fun e=>((en,ms),if e=0 then (if ms.lo≤0 then 4 else 0) else e)
def nextM (long half p v f:SpanD):CM (SpanD × SpanD):=(mulM long v).bnd fun a1=>(addM p a1).bnd fun a2=>(mulM half f).bnd fun a3=>(addM a2 a3).bnd fun p2=>(mulM long f).bnd fun b1=>(addM v b1).bnd fun v2=>CM.ret (p2,v2)
def tailM (a:ArcD) (s:StateD) (h:Int) (f:BoxD):CM (BoxD × BoxD × SpanD):=(mulM (ptS h) (ptS h)).bnd fun ll=>(divM ll (wholeS 2)).bnd fun half=>(nextM (ptS h) half s.p.x s.v.x f.x).bnd fun x=>(nextM (ptS h) half s.p.y s.v.y f.y).bnd fun y=>(nextM (ptS h) half s.p.z s.v.z f.z).bnd fun z =>
 (mulM (ptS h) a.flow).bnd fun fl=>(subM s.m fl).bnd fun m=>CM.ret (⟨x.1,y.1,z.1⟩,⟨x.2,y.2,z.2⟩,m)
def zeroB3:BoxD:=⟨zeroS,zeroS,zeroS⟩
def noSt:StateD:=⟨0,zeroB3,zeroB3,zeroS⟩
def noTb:TubeD:=⟨0,0,zeroB3,zeroB3,zeroS⟩
def stepT (F:SixD→SpanD→CM BoxD) (a:ArcD) (s:StateD) (h:Int) (en ms:SpanD) (e:Int):(StateD × TubeD) × Int :=
 if ((tubeK F ⟨s.p,s.v⟩ (dS h) ms 8 ⟨s.p,s.v⟩ e).1.2 && decide ((tubeK F ⟨s.p,s.v⟩ (dS h) ms 8 ⟨s.p,s.v⟩ e).2=0))=true then
  (if (((F (tubeK F ⟨s.p,s.v⟩ (dS h) ms 8 ⟨s.p,s.v⟩ e).1.1 ms).bnd (tailM a s h)) 0).2=0 then
   ((⟨en.lo,(((F (tubeK F ⟨s.p,s.v⟩ (dS h) ms 8 ⟨s.p,s.v⟩ e).1.1 ms).bnd (tailM a s h)) 0).1.1,(((F (tubeK F ⟨s.p,s.v⟩ (dS h) ms 8 ⟨s.p,s.v⟩ e).1.1 ms).bnd (tailM a s h)) 0).1.2.1,(((F (tubeK F ⟨s.p,s.v⟩ (dS h) ms 8 ⟨s.p,s.v⟩ e).1.1 ms).bnd (tailM a s h)) 0).1.2.2⟩,
    ⟨min s.t en.lo,max s.t en.lo,(tubeK F ⟨s.p,s.v⟩ (dS h) ms 8 ⟨s.p,s.v⟩ e).1.1.p,(tubeK F ⟨s.p,s.v⟩ (dS h) ms 8 ⟨s.p,s.v⟩ e).1.1.v,ms⟩),0)
  else ((noSt,noTb),(((F (tubeK F ⟨s.p,s.v⟩ (dS h) ms 8 ⟨s.p,s.v⟩ e).1.1 ms).bnd (tailM a s h)) 0).2))
 else ((noSt,noTb),if (tubeK F ⟨s.p,s.v⟩ (dS h) ms 8 ⟨s.p,s.v⟩ e).2=0 then 9 else (tubeK F ⟨s.p,s.v⟩ (dS h) ms 8 ⟨s.p,s.v⟩ e).2)
def stepF (F:SixD→SpanD→CM BoxD) (a:ArcD) (s:StateD) (h:Int):(StateD × TubeD) × Int:=stepT F a s h (massM a s h 0).1.1 (massM a s h 0).1.2 (massM a s h 0).2
theorem reached_sticky (x:SixD) (d:SpanD) (v f:BoxD):Sticky (reachedM x d v f):=by
 unfold reachedM;exact (eachM_sticky (fun _ _=>doM_sticky _ _ _) _ _).bnd fun _=>(eachM_sticky (fun _ _=>doM_sticky _ _ _) _ _).bnd fun _=>(eachM_sticky (fun _ _=>doM_sticky _ _ _) _ _).bnd fun _=>(eachM_sticky (fun _ _=>doM_sticky _ _ _) _ _).bnd fun _=>Sticky.ret _
theorem tube_sticky {F:SixD→SpanD→CM BoxD} (hF:∀ x m,Sticky (F x m)) (x:SixD) (d m:SpanD) (n:Nat) (b:SixD) {e:Int} (he:e ≠ 0):tubeK F x d m (n+1) b e=((b,false),e):=by
 have h1:=hF b m e he;have h2:=reached_sticky x d b.v (F b m e).1 (F b m e).2 (by rw [h1];exact he)
 rw [h1] at h2;rw [tubeK,h1,h2,if_pos he]
def I64W (s:StateD):Prop:=I64 s.t∧WdB s.p∧WdB s.v∧WdS s.m
theorem wd_dS {h:Int} (hh:I64 h):WdS (dS h):=by
 unfold I64 at hh;unfold dS WdS;dsimp only;omega
theorem wd_tubeK {F:SixD→SpanD→CM BoxD} {x:SixD} {d m:SpanD}:∀ n b e,WdX b→WdX (tubeK F x d m n b e).1.1
 | 0,_,_,h=>h
 | n+1,b,e,h=>by
  rw [tubeK];split
  ·exact h
  ·split
   ·exact wd_reached _ _ _ _ _
   ·exact wd_tubeK n _ _ (wd_widened h _ _)
theorem wholeS2:wholeS 2=⟨8589934592,8589934592⟩:=rfl
theorem wd_whole2:WdS ⟨8589934592,8589934592⟩:=by unfold WdS;decide
theorem step_any (F:SixD→SpanD→CM BoxD) (p:PlanetD) (a:ArcD) (A:Option Addr) (n c:Nat) (s:StateD) (h:Int) (hs:I64W s) (hfl:WdS a.flow) (hh:I64 h) (w:World)
  (hF:∀ cb e x m w',w.heap.size≤cb→Below w.heap.size w w'→WdX x→WdS m→Bk w' cb 153 #[.int .i64 e]→Calls Tryz.prog 121 #[modelV p a A n c,.pointer (some ⟨cb,0,none⟩),sixV x,spanV m] w' (CkBox cb (F x m e) w'))
  (hFw:∀ x m e,WdB (F x m e).1) (hFs:∀ x m,Sticky (F x m)) :
  Calls Tryz.prog 62 #[modelV p a A n c,stateV s,.int .i64 h] w fun v w' =>
   v=.returned (.tuple #[stateV (stepF F a s h).1.1,tubeV (stepF F a s h).1.2,.int .i64 (stepF F a s h).2])∧Below w.heap.size w w':=by
 refine pQ fun PQ hPQ=>?_
 have HFIN:Hid (∀ w' S t e,stepF F a s h=((S,t),e)→Fr w [] [] w'→PQ (.returned (.tuple #[stateV S,tubeV t,.int .i64 e])) w'):=hZ fun w' S t e hr hf=>by
  rw [← hPQ,hr];exact ⟨rfl,hf.toBelow⟩
 have hsx:WdX ⟨s.p,s.v⟩:=⟨hs.2.1,hs.2.2.1⟩;have hd:=wd_dS hh;have hph:=wd_pt hh;have HTUB:Hid (∀ ms cb e w1,w.heap.size≤cb→Below w.heap.size w w1→WdS ms→Bk w1 cb 153 #[.int .i64 e]→∀ b q e5,tubeK F ⟨s.p,s.v⟩ (dS h) ms 8 ⟨s.p,s.v⟩ e=((b,q),e5)→Calls Tryz.prog 120 #[modelV p a A n c,.pointer (some ⟨cb,0,none⟩),sixV ⟨s.p,s.v⟩,spanV (dS h),spanV ms] w1 fun v w'=>v=.returned (.tuple #[sixV b,.bool (q && decide (e5=0))])∧Fr w1 [(cb,153,iC [e5])] [] w') :=
  hZ fun ms cb e w1 hcb hb0 hm hk b q e5 ht=>by
   have:=tube_any F w.heap.size p a A n c cb hcb e ⟨s.p,s.v⟩ (dS h) ms hsx hd hm w1 (fun e x w' hb hx hk=>hF cb e x ms w' hcb (hb0.trans hb) hx hm hk) (fun x e=>hFw x ms e) hk
   rw [ht] at this;exact this
 have HTB:Hid (∀ ms e,e ≠ 0→tubeK F ⟨s.p,s.v⟩ (dS h) ms 8 ⟨s.p,s.v⟩ e=((⟨s.p,s.v⟩,false),e)):=hZ fun ms e he=>tube_sticky hFs _ _ _ 7 _ he;have HTW:Hid (∀ ms e b q e5,tubeK F ⟨s.p,s.v⟩ (dS h) ms 8 ⟨s.p,s.v⟩ e=((b,q),e5)→WdX b):=hZ fun ms e b q e5 ht=>by
  have:=wd_tubeK (F:=F) (x:=⟨s.p,s.v⟩) (d:=dS h) (m:=ms) 8 ⟨s.p,s.v⟩ e hsx
  rw [ht] at this;exact this
 have HBAD:Hid (∀ en ms e,massM a s h 0=((en,ms),e)→∀ b q e5,tubeK F ⟨s.p,s.v⟩ (dS h) ms 8 ⟨s.p,s.v⟩ e=((b,q),e5)→(q && decide (e5=0))=false→stepF F a s h=((noSt,noTb),if e5=0 then 9 else e5)):=hZ fun en ms e hm b q e5 ht hq=>by
  unfold stepF stepT;rw [hm];dsimp only;rw [ht];dsimp only;rw [hq,if_neg (by simp)]
 have HLAT:Hid (∀ en ms e,massM a s h 0=((en,ms),e)→∀ b,tubeK F ⟨s.p,s.v⟩ (dS h) ms 8 ⟨s.p,s.v⟩ e=((b,true),0)→∀ f e6,F b ms 0=(f,e6)→∀ r e7,tailM a s h f e6=(r,e7)→e7 ≠ 0→stepF F a s h=((noSt,noTb),e7)):=hZ fun en ms e hm b ht f e6 hf r e7 hr he=>by
  have hb:((F b ms).bnd (tailM a s h)) 0=(r,e7):=by unfold CM.bnd;rw [hf];exact hr
  unfold stepF stepT;rw [hm];dsimp only;rw [ht];dsimp only;rw [if_pos (by simp),hb];dsimp only;rw [if_neg he]
 have HOK:Hid (∀ en ms e,massM a s h 0=((en,ms),e)→∀ b,tubeK F ⟨s.p,s.v⟩ (dS h) ms 8 ⟨s.p,s.v⟩ e=((b,true),0)→∀ f e6,F b ms 0=(f,e6)→∀ P V M,tailM a s h f e6=((P,V,M),0)→stepF F a s h=((⟨en.lo,P,V,M⟩,⟨min s.t en.lo,max s.t en.lo,b.p,b.v,ms⟩),0)):=hZ fun en ms e hm b ht f e6 hf P V M hr=>by
  have hb:((F b ms).bnd (tailM a s h)) 0=((P,V,M),0):=by unfold CM.bnd;rw [hf];exact hr
  unfold stepF stepT;rw [hm];dsimp only;rw [ht];dsimp only;rw [if_pos (by simp),hb];dsimp only;rw [if_pos rfl]
 obtain ⟨R,hR⟩:=eX (stepF F a s h);rw [hR] at HFIN;simp only [hR] at HBAD HLAT HOK;obtain ⟨TK,hTK⟩:∃ T:SpanD→Int→(SixD × Bool) × Int,(fun ms e=>tubeK F ⟨s.p,s.v⟩ (dS h) ms 8 ⟨s.p,s.v⟩ e)=T:=⟨_,rfl⟩;have hTK':∀ ms e,tubeK F ⟨s.p,s.v⟩ (dS h) ms 8 ⟨s.p,s.v⟩ e=TK ms e:=fun ms e=>by rw [← hTK]
 simp only [hTK'] at HTUB HTB HTW HBAD HLAT HOK;obtain ⟨TL,hTL⟩:∃ T:BoxD→Int→(BoxD × BoxD × SpanD) × Int,(fun f e=>tailM a s h f e)=T:=⟨_,rfl⟩;have hTL':∀ f e,tailM a s h f e=TL f e:=fun f e=>by rw [← hTL]
 simp only [hTL'] at HLAT HOK;have HFO:=hZ hF;have HFW:=hZ hFw;obtain ⟨st,⟨⟨axl,axh⟩,⟨ayl,ayh⟩,⟨azl,azh⟩⟩,⟨⟨bxl,bxh⟩,⟨byl,byh⟩,⟨bzl,bzh⟩⟩,⟨sml,smh⟩⟩:=s;obtain ⟨ht,⟨wpx,wpy,wpz⟩,⟨wvx,wvy,wvz⟩,wm⟩:=hs;obtain ⟨⟨mul,muh⟩,⟨rl,rh⟩,⟨ol,oh⟩,⟨sl,sh⟩,⟨⟨pxl,pxh⟩,⟨pyl,pyh⟩,⟨pzl,pzh⟩⟩⟩:=p;obtain ⟨time,step,⟨tl,th⟩,⟨fl,fh⟩,⟨⟨dxl,dxh⟩,⟨dyl,dyh⟩,⟨dzl,dzh⟩⟩,drag,⟨dl,dh⟩⟩:=a;have wpt:=wd_pt ht;have k1:min h 0=(dS h).lo:=rfl;have k2:max h 0=(dS h).hi:=rfl;have HMA:Hid (∀ o1 e1,addM (ptS st) (ptS h) 0=(o1,e1)→∀ o2 e2,mulM ⟨fl,fh⟩ (dS h) e1=(o2,e2)→∀ o3 e3,subM ⟨sml,smh⟩ o2 e2=(o3,e3)→massM ⟨time,step,⟨tl,th⟩,⟨fl,fh⟩,⟨⟨dxl,dxh⟩,⟨dyl,dyh⟩,⟨dzl,dzh⟩⟩,drag,⟨dl,dh⟩⟩ ⟨st,⟨⟨axl,axh⟩,⟨ayl,ayh⟩,⟨azl,azh⟩⟩,⟨⟨bxl,bxh⟩,⟨byl,byh⟩,⟨bzl,bzh⟩⟩,⟨sml,smh⟩⟩ h 0=((o1,o3),if e3=0 then (if o3.lo≤0 then 4 else 0) else e3)):=hZ fun o1 e1 h1 o2 e2 h2 o3 e3 h3=>by
  unfold massM CM.bnd;simp only [h1,h2,h3]
 obtain ⟨MM,hMM⟩:=eX (massM ⟨time,step,⟨tl,th⟩,⟨fl,fh⟩,⟨⟨dxl,dxh⟩,⟨dyl,dyh⟩,⟨dzl,dzh⟩⟩,drag,⟨dl,dh⟩⟩ ⟨st,⟨⟨axl,axh⟩,⟨ayl,ayh⟩,⟨azl,azh⟩⟩,⟨⟨bxl,bxh⟩,⟨byl,byh⟩,⟨bzl,bzh⟩⟩,⟨sml,smh⟩⟩ h 0);rw [hMM] at HMA;simp only [hMM] at HBAD HLAT HOK;have HTL:Hid (∀ f e,tailM ⟨time,step,⟨tl,th⟩,⟨fl,fh⟩,⟨⟨dxl,dxh⟩,⟨dyl,dyh⟩,⟨dzl,dzh⟩⟩,drag,⟨dl,dh⟩⟩ ⟨st,⟨⟨axl,axh⟩,⟨ayl,ayh⟩,⟨azl,azh⟩⟩,⟨⟨bxl,bxh⟩,⟨byl,byh⟩,⟨bzl,bzh⟩⟩,⟨sml,smh⟩⟩ h f e=TL f e):=hZ hTL';obtain ⟨⟨ql,qh⟩,hdd⟩:=eX (dS h);rw [hdd] at k1 k2 hd HMA HTUB;dsimp only at k1 k2 HFO HTUB;have HWHO:Hid (∀ w,Calls Tryz.prog 123 #[.int .i64 2] w fun e w'=>e=.returned (.agg #[.int .i64 8589934592,.int .i64 8589934592])∧Below w.heap.size w w'):=hZ fun w=>whole_any 2 (by decide) w
 have HPT:=hZ (fun n w=>point_any n w);unfold modelV stateV;unfold modelV sixV spanV at HTUB;unfold modelV spanV at HFO;dsimp only at HTUB HFO ⊢;clear hF hFw hFs hsx hh hPQ hR hTK hTK' hTL hTL' hMM hdd ht;have K1:=fun cb w hk=>cadd_any cb 0 (ptS st) (ptS h) wpt hph w hk;have W1:=wd_addM (ptS st) (ptS h) 0;obtain ⟨⟨⟨o1l,o1h⟩,e1⟩,q1⟩:∃ z:SpanD × Int,addM (ptS st) (ptS h) 0=z:=⟨_,rfl⟩;rw [q1] at K1 W1;unfold CkPost spanV at K1;try unfold ptS at K1
 dsimp only at K1;replace K1:=hZ K1;have K2:=fun cb w hk=>cmul_any cb e1 ⟨fl,fh⟩ ⟨ql,qh⟩ hfl hd w hk;have W2:=wd_mulM ⟨fl,fh⟩ ⟨ql,qh⟩ e1;obtain ⟨⟨⟨o2l,o2h⟩,e2⟩,q2⟩:∃ z:SpanD × Int,mulM ⟨fl,fh⟩ ⟨ql,qh⟩ e1=z:=⟨_,rfl⟩;rw [q2] at K2 W2;unfold CkPost spanV at K2;try unfold ptS at K2
 dsimp only at K2;replace K2:=hZ K2;have K3:=fun cb w hk=>csub_any cb e2 ⟨sml,smh⟩ ⟨o2l,o2h⟩ wm W2 w hk;have W3:=wd_subM ⟨sml,smh⟩ ⟨o2l,o2h⟩ e2;obtain ⟨⟨⟨o3l,o3h⟩,e3⟩,q3⟩:∃ z:SpanD × Int,subM ⟨sml,smh⟩ ⟨o2l,o2h⟩ e2=z:=⟨_,rfl⟩;rw [q3] at K3 W3;unfold CkPost spanV at K3;try unfold ptS at K3
 dsimp only at K3;replace K3:=hZ K3;have HM4:=HMA.out _ _ q1 _ _ q2 _ _ q3;dsimp only at HM4;have W3':WdS ⟨o3l,o3h⟩:=W3;have HW3:=hZ W3';clear q1 q2 q3 W1 W2 W3 W3' HMA wpt hd;obtain ⟨qb,W0,hqb,hW0,HF0⟩:=fM (Fr.start w) [(#[mul,muh,rl,rh,ol,oh,sl,sh,pxl,pxh,pyl,pyh,pzl,pzh,time,step,tl,th,fl,fh,dxl,dxh,dyl,dyh,dzl,dzh,.slice A n c,dl,dh],160),(#[st,axl,axh,ayl,ayh,azl,azh,bxl,bxh,byl,byh,bzl,bzh,sml,smh],38),(#[(0:Int),(0:Int),(0:Int),(0:Int),(0:Int),(0:Int),(0:Int),(0:Int),(0:Int),(0:Int),(0:Int),(0:Int),(0:Int),(0:Int),(0:Int)],38),(#[(0:Int),(0:Int),(0:Int),(0:Int),(0:Int),(0:Int),(0:Int),(0:Int),(0:Int),(0:Int),(0:Int),(0:Int),(0:Int),(0:Int),(0:Int),(0:Int)],58)];go_enter Tryz.func62,Tryz.ntmps62;go_upto_region 1 with (fail);clear hW0 hqb;obtain ⟨g1,hg1⟩:=eX W0.heap.size;obtain ⟨w1,hw1⟩:=eX (W0.alloc (.cells #[.int .i64 0] 153));have HF2:=fE hw1 (HF0.out.alloc hg1.symm 153 #[.int .i64 0]);have c3:=cA (gN HF2 1) 0;go_wp2_with fail
 clear hw1 hg1 c3;refine mB HF2.out (HPT.out st _) fun w4 HF5=>?_;go_wp2_with fail
 refine mB HF5.out (HPT.out h _) fun w6 HF7=>?_;go_wp2_with fail
 refine (K1.out g1 _ (HF7.out.get 4 rfl)).mono ?_
 rintro e w8 ⟨rfl,hw⟩;have HF9:=fN (HF7.out.turn 4 rfl hw);clear hw;obtain ⟨g10,w10,hg10,hw10,HF11⟩:=fA HF9.out #[.int .i64 0,.int .i64 0] 31;go_upto_region 4 with (first
   | (refine sW 5 HF11.out i_span fun w12 HF13=>?_;clear hw10 hg10;obtain ⟨g14,w14,hg14,hw14,HF15⟩:=fA HF13.out #[.int .i64 0,.int .i64 0] 31)
   | (refine sW 6 HF15.out i_span fun w16 HF17=>?_;clear hw14 hg14))
 refine wrf [.p,.p,.p,.p,.p,.p,.p,.p,.c 0,.c 1,.a 0,.c 2] [8,9,11] [(10,31,fun k=>(if k≤2 then iC [0,0] else iC [o3l,o3h]))] (fun _=>[]) (fun k=>[(qb,160,#[mul,muh,rl,rh,ol,oh,sl,sh,pxl,pxh,pyl,pyh,pzl,pzh,time,step,tl,th,fl,fh,dxl,dxh,dyl,dyh,dzl,dzh,.slice A n c,dl,dh]),(qb+1,38,iC [st,axl,axh,ayl,ayh,azl,azh,bxl,bxh,byl,byh,bzl,bzh,sml,smh]),(qb+1+1,38,iC [0,0,0,0,0,0,0,0,0,0,0,0,0,0,0]),(qb+1+1+1,58,iC [0,0,0,0,0,0,0,0,0,0,0,0,0,0,0,0]),(g1,153,#[(match k with | 0=>.int .i64 e1 | 1=>.int .i64 e2 | 2=>.int .i64 e3 | _=>.int .i64 e3)]),(g10,31,iC [o1l,o1h]),(g14,31,iC [ql,qh])]) (fun ix u _=>match ix with
     | 0=>u=.pointer (some ⟨g1,0,none⟩)
     | 1=>u=.pointer (some ⟨qb+1,13,none⟩)
     | 2=>u=.agg #[sml,smh]
     | 3=>u=.pointer (some ⟨g1,0,none⟩)
     | 4=>u=.pointer (some ⟨qb,14,none⟩)
     | 5=>u=.pointer (some ⟨qb,18,none⟩)
     | 6=>u=.agg #[fl,fh]
     | 7=>u=.agg #[ql,qh]
     | 8=>u=.agg #[o2l,o2h]
     | 9=>u=.agg #[o3l,o3h]
     | 10=>u=.pointer (some ⟨gOf u,0,none⟩)
     | _=>True) [10] HF17.out ?_ ?_
 ·refine ⟨?_,?_,?_,?_,?_,?_,?_,?_,?_,?_,?_,?_,trivial⟩
  all_goals intro a w1 vs dn k K S hpre KE DE kk
  ·have e9:=KE 9;go_simp;exact kk _ _
  ·have e4:=KE 4;go_simp;exact kk _ _
  ·exact oM (eT (dep (DE 1 35))) (S.fr.left.get 1 rfl) (kk _ _)
  ·have e9:=KE 9;go_simp;exact kk _ _
  ·have e3:=KE 3;go_simp;exact kk _ _
  ·have e38:=dep (DE 4 38);go_simp;exact kk _ _
  ·exact oM (eT (dep (DE 5 39))) (S.fr.left.get 0 rfl) (kk _ _)
  ·exact oM (eT (KE 11)) (S.fr.left.get 6 rfl) (kk _ _)
  ·subst hpre;have e37:=dep (DE 3 37);have e40:=dep (DE 6 40);have e41:=dep (DE 7 41);exact oD rfl (K2.out g1 w1 (S.fr.left.get 4 rfl)) (by simp [Act.eval,e37,e40,e41]) fun w' hb=>kk _ _ (by simp) (Fr.stage (S.fr.turn 4 rfl hb) (by exact ⟨rfl,trivial⟩))
  ·subst hpre;have e34:=dep (DE 0 34);have e36:=dep (DE 2 36);have e42:=dep (DE 8 42);exact oD rfl (K3.out g1 w1 (S.fr.left.get 4 rfl)) (by simp [Act.eval,e34,e36,e42]) fun w' hb=>kk _ _ (by simp) (Fr.stage (S.fr.turn 4 rfl hb) (by exact ⟨rfl,trivial⟩))
  ·go_simp;exact kk _ _ (by simp) (by have h:=S.fr.alloc rfl 31 #[.int .i64 0,.int .i64 0];show Fr _ _ (_ ++ [(_,31,if k≤2 then _ else _)]) _;rw [if_pos (S.hi 2 11 rfl rfl)];exact h) rfl
  ·subst hpre;have e12:=dep (DE 10 12);have e43:=dep (DE 9 43);have HS:=Fr.done S.fr (by exact ⟨S.done 10 rfl,trivial⟩)
   exact oW (eT e12) (eT e43) (HS.get 7 rfl) i_span fun w' hk ho=>kk _ _ (by simp) (Fr.undone (HS.only 7 rfl ho hk) (by exact ⟨S.done 10 rfl,trivial⟩)) trivial
 ·intro vs wf HFr HR;have HFr':Fr w [] [(qb,160,#[mul,muh,rl,rh,ol,oh,sl,sh,pxl,pxh,pyl,pyh,pzl,pzh,time,step,tl,th,fl,fh,dxl,dxh,dyl,dyh,dzl,dzh,.slice A n c,dl,dh]),(qb+1,38,iC [st,axl,axh,ayl,ayh,azl,azh,bxl,bxh,byl,byh,bzl,bzh,sml,smh]),(qb+1+1,38,iC [0,0,0,0,0,0,0,0,0,0,0,0,0,0,0]),(qb+1+1+1,58,iC [0,0,0,0,0,0,0,0,0,0,0,0,0,0,0,0]),(g1,153,iC [e3]),(g10,31,iC [o1l,o1h]),(g14,31,iC [ql,qh]),((gOf (vs 10)),31,iC [o3l,o3h])] wf:=HFr;have v10:vs 10=.pointer (some ⟨(gOf (vs 10)),0,none⟩):=HR 10 _ rfl;clear HFr HR;obtain ⟨g18_10,hg18_10⟩:=eX (gOf (vs 10));rw [hg18_10] at HFr';rw [hg18_10] at v10;clear hg18_10;have HF18:=hZ HFr';clear HFr';simp only [putAll,Act.put,List.setIfInBounds_toArray,List.set_cons_zero,List.set_cons_succ];simp only [v10];clear v10;obtain ⟨w18,rfl⟩:∃ u:World,u=wf:=⟨_,rfl⟩;have HOX:=hZ (fun w=>fof_any ⟨⟨axl,axh⟩,⟨ayl,ayh⟩,⟨azl,azh⟩⟩ ⟨⟨bxl,bxh⟩,⟨byl,byh⟩,⟨bzl,bzh⟩⟩ w);unfold boxV sixV at HOX;dsimp only at HOX;clear K1 K2 K3 k1 k2;by_cases he3:e3=0
  ·subst he3;rw [if_pos rfl] at HM4;by_cases hml:o3l≤0
   ·rw [if_pos hml] at HM4;have hg:decide (o3l≤0)=true:=decide_eq_true hml;have H120:=fun cb w1 h1 h2 h3=>HTUB.out ⟨o3l,o3h⟩ cb 4 w1 h1 h2 HW3.out h3 _ _ _ (HTB.out _ 4 (by decide))
    have HR:=HBAD.out _ _ _ HM4 _ _ _ (HTB.out _ 4 (by decide)) rfl
    rw [if_neg (by decide)] at HR
    simp only [Bool.false_and] at H120;try dsimp only at H120
    replace H120:=hZ H120;replace HR:=hZ HR;clear HTUB HTB HBAD HLAT HOK HM4 HTW HFO HFW HTL;have c19:=cA (gN HF18 4) 0;have c20:=cA (gN HF18 7) 0;go_wp2_with (first
      | (refine lF (gN HF22 1) #[axl,axh,ayl,ayh,azl,azh] u_34 i_34 ?_)
      | (refine lF (gN HF22 1) #[bxl,bxh,byl,byh,bzl,bzh] u_34 i_34 ?_)
      | (refine wpStoreCell rfl rfl 41 _ _ rfl g1 0 rfl (.int .i64 4) rfl _ _ (HF18.out.get 4 rfl) (by show 0<1;omega) rfl (by kernel_rfl) ?_;intro w21 hk ho;clear c19 c20;have HF22:=fN (HF18.out.only 4 rfl ho hk);clear ho hk))
    refine mB HF22.out (HOX.out _) fun w23 HF24=>?_;obtain ⟨g25,w25,hg25,hw25,HF26⟩:=fA HF24.out #[(0:Int),(0:Int),(0:Int),(0:Int),(0:Int),(0:Int),(0:Int),(0:Int),(0:Int),(0:Int),(0:Int),(0:Int)] 208;go_wp2_with (first
      | (refine lF (gN HF28 0) #[mul,muh,rl,rh,ol,oh,sl,sh,pxl,pxh,pyl,pyh,pzl,pzh,time,step,tl,th,fl,fh,dxl,dxh,dyl,dyh,dzl,dzh,.slice A n c,dl,dh] u_160 i_160 ?_)
      | (refine lF (gN HF28 8) #[axl,axh,ayl,ayh,azl,azh,bxl,bxh,byl,byh,bzl,bzh] u_208 i_208 ?_)
      | (refine lS (gN HF28 6) ql qh ?_)
      | (refine lS (gN HF28 7) o3l o3h ?_)
      | (refine sW 8 HF26.out i_208 fun w27 HF28=>?_;clear hw25 hg25))
    refine (H120.out g1 _ (HF28.out.ge 4 rfl) HF28.out.toBelow (HF28.out.get 4 rfl)).mono ?_
    rintro e w29 ⟨rfl,hw⟩;have HF30:=fN (HF28.out.turn 4 rfl hw);clear hw;obtain ⟨g31,w31,hg31,hw31,HF32⟩:=fA HF30.out #[(0:Int),(0:Int),(0:Int),(0:Int),(0:Int),(0:Int),(0:Int),(0:Int),(0:Int),(0:Int),(0:Int),(0:Int)] 208;go_upto_region 12 with (refine sW 9 HF32.out i_208 fun w33 HF34=>?_;clear hw31 hg31;have c35:=cA (gN HF34 4) 0)
    clear c35;refine wrf [.p,.p,.p,.p,.p,.p,.c 0,.c 1,.p] [6,7] [] (fun _=>[]) (fun _=>_) (rM [(0,.agg #[(0:Int),(0:Int),(0:Int),(0:Int),(0:Int),(0:Int),(0:Int),(0:Int),(0:Int),(0:Int),(0:Int),(0:Int),(0:Int),(0:Int),(0:Int)]),(1,.agg #[(0:Int),(0:Int),(0:Int),(0:Int),(0:Int),(0:Int),(0:Int),(0:Int),(0:Int),(0:Int),(0:Int),(0:Int),(0:Int),(0:Int),(0:Int),(0:Int)]),(2,.pointer (some ⟨g1,0,none⟩)),(3,.pointer (some ⟨g1,0,none⟩)),(4,.pointer (some ⟨g1,0,none⟩)),(5,.int .i64 4),(8,.int .i64 4)]) [] HF34.out ?_ ?_
    ·refine ⟨?_,?_,?_,?_,?_,?_,?_,?_,?_,trivial⟩
     all_goals intro a w1 vs dn k K S hpre KE DE kk
     ·go_simp;exact kk _ _
     ·go_simp;exact kk _ _
     ·have e9:=KE 9;go_simp;exact kk _ _
     ·have e83:=dep (DE 2 83);go_simp;exact kk _ _
     ·have e84:=dep (DE 3 84);go_simp;exact kk _ _
     ·have e85:=dep (DE 4 85);have ca:w1.cell? ⟨g1,0,none⟩=some (.int .i64 4):=(S.fr.left.get 4 rfl).cell 0;go_simp;exact kk _ _
     ·subst hpre;exact oW (eT (KE 6)) (eT (dep (DE 0 81))) (S.fr.left.get 2 rfl) i_38 fun w' hk ho=>kk _ _ (by simp) (Fr.stage (S.fr.only 2 rfl ho hk) (by exact trivial))
     ·subst hpre;exact oW (eT (KE 7)) (eT (dep (DE 1 82))) (S.fr.left.get 3 rfl) i_58 fun w' hk ho=>kk _ _ (by simp) (Fr.stage (S.fr.only 3 rfl ho hk) (by exact trivial))
     ·have e86:=dep (DE 5 86);go_simp;exact kk _ _
    ·intro vs w36 HFr HR;have v8:vs 8=.int .i64 4:=HR 8 _ rfl;have HF36:=fW HFr;clear HFr HR;simp only [putAll,Act.put,List.setIfInBounds_toArray,List.set_cons_zero,List.set_cons_succ,v8];clear v8;go_wp2_with fail
     refine ret_agg3 rfl rfl rfl (HF36.out.get 2 rfl) rfl (HF36.out.get 3 rfl) rfl u_38 rfl i_38 u_58 rfl i_58 ?_
     exact HFIN.out _ noSt noTb 4 (HR.out) HF36.out.drop
   ·rw [if_neg hml] at HM4;have hg:decide (o3l≤0)=false:=decide_eq_false hml;clear hml;obtain ⟨⟨⟨b,q⟩,et⟩,ht⟩:=eX (TK ⟨o3l,o3h⟩ 0);have H120:=fun cb w1 h1 h2 h3=>HTUB.out ⟨o3l,o3h⟩ cb 0 w1 h1 h2 HW3.out h3 _ _ _ ht;have wb:=HTW.out _ _ _ _ _ ht;have HB2:=HBAD.out _ _ _ HM4 _ _ _ ht;obtain ⟨r,hr⟩:∃ r,(q && decide (et=0))=r:=⟨_,rfl⟩;rw [hr] at H120 HB2;obtain ⟨⟨⟨bpxl,bpxh⟩,⟨bpyl,bpyh⟩,⟨bpzl,bpzh⟩⟩,⟨bvxl,bvxh⟩,⟨bvyl,bvyh⟩,⟨bvzl,bvzh⟩⟩:=b;dsimp only at H120;replace H120:=hZ H120;replace HB2:=hZ HB2;clear HTUB HTB HTW HBAD;have c19:=cA (gN HF18 4) 0;have c20:=cA (gN HF18 7) 0;go_wp2_with (first
      | (refine lF (gN HF18 1) #[axl,axh,ayl,ayh,azl,azh] u_34 i_34 ?_)
      | (refine lF (gN HF18 1) #[bxl,bxh,byl,byh,bzl,bzh] u_34 i_34 ?_))
    clear c19 c20;refine mB HF18.out (HOX.out _) fun w21 HF22=>?_;obtain ⟨g23,w23,hg23,hw23,HF24⟩:=fA HF22.out #[(0:Int),(0:Int),(0:Int),(0:Int),(0:Int),(0:Int),(0:Int),(0:Int),(0:Int),(0:Int),(0:Int),(0:Int)] 208;go_wp2_with (first
      | (refine lF (gN HF26 0) #[mul,muh,rl,rh,ol,oh,sl,sh,pxl,pxh,pyl,pyh,pzl,pzh,time,step,tl,th,fl,fh,dxl,dxh,dyl,dyh,dzl,dzh,.slice A n c,dl,dh] u_160 i_160 ?_)
      | (refine lF (gN HF26 8) #[axl,axh,ayl,ayh,azl,azh,bxl,bxh,byl,byh,bzl,bzh] u_208 i_208 ?_)
      | (refine lS (gN HF26 6) ql qh ?_)
      | (refine lS (gN HF26 7) o3l o3h ?_)
      | (refine sW 8 HF24.out i_208 fun w25 HF26=>?_;clear hw23 hg23))
    refine (H120.out g1 _ (HF26.out.ge 4 rfl) HF26.out.toBelow (HF26.out.get 4 rfl)).mono ?_
    rintro e w27 ⟨rfl,hw⟩;have HF28:=fN (HF26.out.turn 4 rfl hw);clear hw;obtain ⟨g29,w29,hg29,hw29,HF30⟩:=fA HF28.out #[(0:Int),(0:Int),(0:Int),(0:Int),(0:Int),(0:Int),(0:Int),(0:Int),(0:Int),(0:Int),(0:Int),(0:Int)] 208;go_upto_region 9 with (refine sW 9 HF30.out i_208 fun w31 HF32=>?_;clear hw29 hg29)
    cases r with
    | false =>
     have HR:=HB2.out rfl;clear HLAT HOK HM4 HFO HFW HTL hr wb ht;by_cases he:et=0
     ·subst he;rw [if_pos rfl] at HR;replace HR:=hZ HR;have c33:=cA (gN HF32 4) 0;go_upto_region 12 with (refine wpStoreCell rfl rfl 41 _ _ rfl g1 0 rfl (.int .i64 9) rfl _ _ (HF32.out.get 4 rfl) (by show 0<1;omega) rfl (by kernel_rfl) ?_;intro w34 hk ho;clear c33;have HF35:=fN (HF32.out.only 4 rfl ho hk);clear ho hk)
      refine wrf [.p,.p,.p,.p,.p,.p,.c 0,.c 1,.p] [6,7] [] (fun _=>[]) (fun _=>_) (rM [(0,.agg #[(0:Int),(0:Int),(0:Int),(0:Int),(0:Int),(0:Int),(0:Int),(0:Int),(0:Int),(0:Int),(0:Int),(0:Int),(0:Int),(0:Int),(0:Int)]),(1,.agg #[(0:Int),(0:Int),(0:Int),(0:Int),(0:Int),(0:Int),(0:Int),(0:Int),(0:Int),(0:Int),(0:Int),(0:Int),(0:Int),(0:Int),(0:Int),(0:Int)]),(2,.pointer (some ⟨g1,0,none⟩)),(3,.pointer (some ⟨g1,0,none⟩)),(4,.pointer (some ⟨g1,0,none⟩)),(5,.int .i64 9),(8,.int .i64 9)]) [] HF35.out ?_ ?_
      ·refine ⟨?_,?_,?_,?_,?_,?_,?_,?_,?_,trivial⟩
       all_goals intro a w1 vs dn k K S hpre KE DE kk
       ·go_simp;exact kk _ _
       ·go_simp;exact kk _ _
       ·have e9:=KE 9;go_simp;exact kk _ _
       ·have e83:=dep (DE 2 83);go_simp;exact kk _ _
       ·have e84:=dep (DE 3 84);go_simp;exact kk _ _
       ·have e85:=dep (DE 4 85);have ca:w1.cell? ⟨g1,0,none⟩=some (.int .i64 9):=(S.fr.left.get 4 rfl).cell 0;go_simp;exact kk _ _
       ·subst hpre;exact oW (eT (KE 6)) (eT (dep (DE 0 81))) (S.fr.left.get 2 rfl) i_38 fun w' hk ho=>kk _ _ (by simp) (Fr.stage (S.fr.only 2 rfl ho hk) (by exact trivial))
       ·subst hpre;exact oW (eT (KE 7)) (eT (dep (DE 1 82))) (S.fr.left.get 3 rfl) i_58 fun w' hk ho=>kk _ _ (by simp) (Fr.stage (S.fr.only 3 rfl ho hk) (by exact trivial))
       ·have e86:=dep (DE 5 86);go_simp;exact kk _ _
      ·intro vs w36 HFr HR;have v8:vs 8=.int .i64 9:=HR 8 _ rfl;have HF36:=fW HFr;clear HFr HR;simp only [putAll,Act.put,List.setIfInBounds_toArray,List.set_cons_zero,List.set_cons_succ,v8];clear v8;go_wp2_with fail
       refine ret_agg3 rfl rfl rfl (HF36.out.get 2 rfl) rfl (HF36.out.get 3 rfl) rfl u_38 rfl i_38 u_58 rfl i_58 ?_
       exact HFIN.out _ noSt noTb 9 (HR.out) HF36.out.drop
     ·rw [if_neg he] at HR;have hb4:(et == 0)=false:=by simpa using he
      replace HR:=hZ HR;clear he;have c33:=cA (gN HF32 4) 0;go_upto_region 12 with (fail);clear c33;refine wrf [.p,.p,.p,.p,.p,.p,.c 0,.c 1,.p] [6,7] [] (fun _=>[]) (fun _=>_) (rM [(0,.agg #[(0:Int),(0:Int),(0:Int),(0:Int),(0:Int),(0:Int),(0:Int),(0:Int),(0:Int),(0:Int),(0:Int),(0:Int),(0:Int),(0:Int),(0:Int)]),(1,.agg #[(0:Int),(0:Int),(0:Int),(0:Int),(0:Int),(0:Int),(0:Int),(0:Int),(0:Int),(0:Int),(0:Int),(0:Int),(0:Int),(0:Int),(0:Int),(0:Int)]),(2,.pointer (some ⟨g1,0,none⟩)),(3,.pointer (some ⟨g1,0,none⟩)),(4,.pointer (some ⟨g1,0,none⟩)),(5,.int .i64 et),(8,.int .i64 et)]) [] HF32.out ?_ ?_
      ·refine ⟨?_,?_,?_,?_,?_,?_,?_,?_,?_,trivial⟩
       all_goals intro a w1 vs dn k K S hpre KE DE kk
       ·go_simp;exact kk _ _
       ·go_simp;exact kk _ _
       ·have e9:=KE 9;go_simp;exact kk _ _
       ·have e83:=dep (DE 2 83);go_simp;exact kk _ _
       ·have e84:=dep (DE 3 84);go_simp;exact kk _ _
       ·have e85:=dep (DE 4 85);have ca:w1.cell? ⟨g1,0,none⟩=some (.int .i64 et):=(S.fr.left.get 4 rfl).cell 0;go_simp;exact kk _ _
       ·subst hpre;exact oW (eT (KE 6)) (eT (dep (DE 0 81))) (S.fr.left.get 2 rfl) i_38 fun w' hk ho=>kk _ _ (by simp) (Fr.stage (S.fr.only 2 rfl ho hk) (by exact trivial))
       ·subst hpre;exact oW (eT (KE 7)) (eT (dep (DE 1 82))) (S.fr.left.get 3 rfl) i_58 fun w' hk ho=>kk _ _ (by simp) (Fr.stage (S.fr.only 3 rfl ho hk) (by exact trivial))
       ·have e86:=dep (DE 5 86);go_simp;exact kk _ _
      ·intro vs w34 HFr HR;have v8:vs 8=.int .i64 et:=HR 8 _ rfl;have HF34:=fW HFr;clear HFr HR;simp only [putAll,Act.put,List.setIfInBounds_toArray,List.set_cons_zero,List.set_cons_succ,v8];clear v8;go_wp2_with fail
       refine ret_agg3 rfl rfl rfl (HF34.out.get 2 rfl) rfl (HF34.out.get 3 rfl) rfl u_38 rfl i_38 u_58 rfl i_58 ?_
       exact HFIN.out _ noSt noTb et (HR.out) HF34.out.drop
    | true =>
     rw [Bool.and_eq_true,decide_eq_true_eq] at hr;obtain ⟨hq1,he1⟩:=hr;subst hq1 he1;obtain ⟨⟨f,ef⟩,hf⟩:=eX (F ⟨⟨⟨bpxl,bpxh⟩,⟨bpyl,bpyh⟩,⟨bpzl,bpzh⟩⟩,⟨bvxl,bvxh⟩,⟨bvyl,bvyh⟩,⟨bvzl,bvzh⟩⟩ ⟨o3l,o3h⟩ 0);have H121:=fun cb w' h1 h2 hk=>HFO.out cb 0 ⟨⟨⟨bpxl,bpxh⟩,⟨bpyl,bpyh⟩,⟨bpzl,bpzh⟩⟩,⟨bvxl,bvxh⟩,⟨bvyl,bvyh⟩,⟨bvzl,bvzh⟩⟩ ⟨o3l,o3h⟩ w' h1 h2 wb HW3.out hk;have wf:=HFW.out ⟨⟨⟨bpxl,bpxh⟩,⟨bpyl,bpyh⟩,⟨bpzl,bpzh⟩⟩,⟨bvxl,bvxh⟩,⟨bvyl,bvyh⟩,⟨bvzl,bvzh⟩⟩ ⟨o3l,o3h⟩ 0;rw [hf] at H121 wf;have HLA:=HLAT.out _ _ _ HM4 _ ht _ _ hf;have HOO:=HOK.out _ _ _ HM4 _ ht _ _ hf;obtain ⟨⟨fxl,fxh⟩,⟨fyl,fyh⟩,⟨fzl,fzh⟩⟩:=f;obtain ⟨wfx,wfy,wfz⟩:=wf;unfold CkBox sixV boxV at H121;dsimp only at H121;replace H121:=hZ H121;replace HLA:=hZ HLA;replace HOO:=hZ HOO;have HPLA:=hZ (fun w=>place_any ⟨⟨⟨bpxl,bpxh⟩,⟨bpyl,bpyh⟩,⟨bpzl,bpzh⟩⟩,⟨bvxl,bvxh⟩,⟨bvyl,bvyh⟩,⟨bvzl,bvzh⟩⟩ w);have HSPE:=hZ (fun w=>speed_any ⟨⟨⟨bpxl,bpxh⟩,⟨bpyl,bpyh⟩,⟨bpzl,bpzh⟩⟩,⟨bvxl,bvxh⟩,⟨bvyl,bvyh⟩,⟨bvzl,bvzh⟩⟩ w);unfold sixV boxV at HPLA HSPE;dsimp only at HPLA HSPE;clear hf HLAT HOK HFO HFW HM4 ht HB2 H120 HOX;have K4:=fun cb w hk=>cmul_any cb ef (ptS h) (ptS h) hph hph w hk;have W4:=wd_mulM (ptS h) (ptS h) ef;obtain ⟨⟨⟨o4l,o4h⟩,e4⟩,q4⟩:∃ z:SpanD × Int,mulM (ptS h) (ptS h) ef=z:=⟨_,rfl⟩;rw [q4] at K4 W4;unfold CkPost spanV at K4;try unfold ptS at K4
     dsimp only at K4;replace K4:=hZ K4;have K5:=fun cb w hk=>cdiv_any cb e4 ⟨o4l,o4h⟩ ⟨8589934592,8589934592⟩ W4 (wd_whole2) w hk;have W5:=wd_divM ⟨o4l,o4h⟩ ⟨8589934592,8589934592⟩ e4;obtain ⟨⟨⟨o5l,o5h⟩,e5⟩,q5⟩:∃ z:SpanD × Int,divM ⟨o4l,o4h⟩ ⟨8589934592,8589934592⟩ e4=z:=⟨_,rfl⟩;rw [q5] at K5 W5;unfold CkPost spanV at K5;try unfold ptS at K5
     dsimp only at K5;replace K5:=hZ K5;have K6:=fun cb w hk=>cmul_any cb e5 (ptS h) ⟨bxl,bxh⟩ hph wvx w hk;have W6:=wd_mulM (ptS h) ⟨bxl,bxh⟩ e5;obtain ⟨⟨⟨o6l,o6h⟩,e6⟩,q6⟩:∃ z:SpanD × Int,mulM (ptS h) ⟨bxl,bxh⟩ e5=z:=⟨_,rfl⟩;rw [q6] at K6 W6;unfold CkPost spanV at K6;try unfold ptS at K6
     dsimp only at K6;replace K6:=hZ K6;have K7:=fun cb w hk=>cadd_any cb e6 ⟨axl,axh⟩ ⟨o6l,o6h⟩ wpx W6 w hk;have W7:=wd_addM ⟨axl,axh⟩ ⟨o6l,o6h⟩ e6;obtain ⟨⟨⟨o7l,o7h⟩,e7⟩,q7⟩:∃ z:SpanD × Int,addM ⟨axl,axh⟩ ⟨o6l,o6h⟩ e6=z:=⟨_,rfl⟩;rw [q7] at K7 W7;unfold CkPost spanV at K7;try unfold ptS at K7
     dsimp only at K7;replace K7:=hZ K7;have K8:=fun cb w hk=>cmul_any cb e7 ⟨o5l,o5h⟩ ⟨fxl,fxh⟩ W5 wfx w hk;have W8:=wd_mulM ⟨o5l,o5h⟩ ⟨fxl,fxh⟩ e7;obtain ⟨⟨⟨o8l,o8h⟩,e8⟩,q8⟩:∃ z:SpanD × Int,mulM ⟨o5l,o5h⟩ ⟨fxl,fxh⟩ e7=z:=⟨_,rfl⟩;rw [q8] at K8 W8;unfold CkPost spanV at K8;try unfold ptS at K8
     dsimp only at K8;replace K8:=hZ K8;have K9:=fun cb w hk=>cadd_any cb e8 ⟨o7l,o7h⟩ ⟨o8l,o8h⟩ W7 W8 w hk;have W9:=wd_addM ⟨o7l,o7h⟩ ⟨o8l,o8h⟩ e8;obtain ⟨⟨⟨o9l,o9h⟩,e9⟩,q9⟩:∃ z:SpanD × Int,addM ⟨o7l,o7h⟩ ⟨o8l,o8h⟩ e8=z:=⟨_,rfl⟩;rw [q9] at K9 W9;unfold CkPost spanV at K9;try unfold ptS at K9
     dsimp only at K9;replace K9:=hZ K9;have K10:=fun cb w hk=>cmul_any cb e9 (ptS h) ⟨fxl,fxh⟩ hph wfx w hk;have W10:=wd_mulM (ptS h) ⟨fxl,fxh⟩ e9;obtain ⟨⟨⟨o10l,o10h⟩,e10⟩,q10⟩:∃ z:SpanD × Int,mulM (ptS h) ⟨fxl,fxh⟩ e9=z:=⟨_,rfl⟩;rw [q10] at K10 W10;unfold CkPost spanV at K10;try unfold ptS at K10
     dsimp only at K10;replace K10:=hZ K10;have K11:=fun cb w hk=>cadd_any cb e10 ⟨bxl,bxh⟩ ⟨o10l,o10h⟩ wvx W10 w hk;have W11:=wd_addM ⟨bxl,bxh⟩ ⟨o10l,o10h⟩ e10;obtain ⟨⟨⟨o11l,o11h⟩,e11⟩,q11⟩:∃ z:SpanD × Int,addM ⟨bxl,bxh⟩ ⟨o10l,o10h⟩ e10=z:=⟨_,rfl⟩;rw [q11] at K11 W11;unfold CkPost spanV at K11;try unfold ptS at K11
     dsimp only at K11;replace K11:=hZ K11;have K12:=fun cb w hk=>cmul_any cb e11 (ptS h) ⟨byl,byh⟩ hph wvy w hk;have W12:=wd_mulM (ptS h) ⟨byl,byh⟩ e11;obtain ⟨⟨⟨o12l,o12h⟩,e12⟩,q12⟩:∃ z:SpanD × Int,mulM (ptS h) ⟨byl,byh⟩ e11=z:=⟨_,rfl⟩;rw [q12] at K12 W12;unfold CkPost spanV at K12;try unfold ptS at K12
     dsimp only at K12;replace K12:=hZ K12;have K13:=fun cb w hk=>cadd_any cb e12 ⟨ayl,ayh⟩ ⟨o12l,o12h⟩ wpy W12 w hk;have W13:=wd_addM ⟨ayl,ayh⟩ ⟨o12l,o12h⟩ e12;obtain ⟨⟨⟨o13l,o13h⟩,e13⟩,q13⟩:∃ z:SpanD × Int,addM ⟨ayl,ayh⟩ ⟨o12l,o12h⟩ e12=z:=⟨_,rfl⟩;rw [q13] at K13 W13;unfold CkPost spanV at K13;try unfold ptS at K13
     dsimp only at K13;replace K13:=hZ K13;have K14:=fun cb w hk=>cmul_any cb e13 ⟨o5l,o5h⟩ ⟨fyl,fyh⟩ W5 wfy w hk;have W14:=wd_mulM ⟨o5l,o5h⟩ ⟨fyl,fyh⟩ e13;obtain ⟨⟨⟨o14l,o14h⟩,e14⟩,q14⟩:∃ z:SpanD × Int,mulM ⟨o5l,o5h⟩ ⟨fyl,fyh⟩ e13=z:=⟨_,rfl⟩;rw [q14] at K14 W14;unfold CkPost spanV at K14;try unfold ptS at K14
     dsimp only at K14;replace K14:=hZ K14;have K15:=fun cb w hk=>cadd_any cb e14 ⟨o13l,o13h⟩ ⟨o14l,o14h⟩ W13 W14 w hk;have W15:=wd_addM ⟨o13l,o13h⟩ ⟨o14l,o14h⟩ e14;obtain ⟨⟨⟨o15l,o15h⟩,e15⟩,q15⟩:∃ z:SpanD × Int,addM ⟨o13l,o13h⟩ ⟨o14l,o14h⟩ e14=z:=⟨_,rfl⟩;rw [q15] at K15 W15;unfold CkPost spanV at K15;try unfold ptS at K15
     dsimp only at K15;replace K15:=hZ K15;have K16:=fun cb w hk=>cmul_any cb e15 (ptS h) ⟨fyl,fyh⟩ hph wfy w hk;have W16:=wd_mulM (ptS h) ⟨fyl,fyh⟩ e15;obtain ⟨⟨⟨o16l,o16h⟩,e16⟩,q16⟩:∃ z:SpanD × Int,mulM (ptS h) ⟨fyl,fyh⟩ e15=z:=⟨_,rfl⟩;rw [q16] at K16 W16;unfold CkPost spanV at K16;try unfold ptS at K16
     dsimp only at K16;replace K16:=hZ K16;have K17:=fun cb w hk=>cadd_any cb e16 ⟨byl,byh⟩ ⟨o16l,o16h⟩ wvy W16 w hk;have W17:=wd_addM ⟨byl,byh⟩ ⟨o16l,o16h⟩ e16;obtain ⟨⟨⟨o17l,o17h⟩,e17⟩,q17⟩:∃ z:SpanD × Int,addM ⟨byl,byh⟩ ⟨o16l,o16h⟩ e16=z:=⟨_,rfl⟩;rw [q17] at K17 W17;unfold CkPost spanV at K17;try unfold ptS at K17
     dsimp only at K17;replace K17:=hZ K17;have K18:=fun cb w hk=>cmul_any cb e17 (ptS h) ⟨bzl,bzh⟩ hph wvz w hk;have W18:=wd_mulM (ptS h) ⟨bzl,bzh⟩ e17;obtain ⟨⟨⟨o18l,o18h⟩,e18⟩,q18⟩:∃ z:SpanD × Int,mulM (ptS h) ⟨bzl,bzh⟩ e17=z:=⟨_,rfl⟩;rw [q18] at K18 W18;unfold CkPost spanV at K18;try unfold ptS at K18
     dsimp only at K18;replace K18:=hZ K18;have K19:=fun cb w hk=>cadd_any cb e18 ⟨azl,azh⟩ ⟨o18l,o18h⟩ wpz W18 w hk;have W19:=wd_addM ⟨azl,azh⟩ ⟨o18l,o18h⟩ e18;obtain ⟨⟨⟨o19l,o19h⟩,e19⟩,q19⟩:∃ z:SpanD × Int,addM ⟨azl,azh⟩ ⟨o18l,o18h⟩ e18=z:=⟨_,rfl⟩;rw [q19] at K19 W19;unfold CkPost spanV at K19;try unfold ptS at K19
     dsimp only at K19;replace K19:=hZ K19;have K20:=fun cb w hk=>cmul_any cb e19 ⟨o5l,o5h⟩ ⟨fzl,fzh⟩ W5 wfz w hk;have W20:=wd_mulM ⟨o5l,o5h⟩ ⟨fzl,fzh⟩ e19;obtain ⟨⟨⟨o20l,o20h⟩,e20⟩,q20⟩:∃ z:SpanD × Int,mulM ⟨o5l,o5h⟩ ⟨fzl,fzh⟩ e19=z:=⟨_,rfl⟩;rw [q20] at K20 W20;unfold CkPost spanV at K20;try unfold ptS at K20
     dsimp only at K20;replace K20:=hZ K20;have K21:=fun cb w hk=>cadd_any cb e20 ⟨o19l,o19h⟩ ⟨o20l,o20h⟩ W19 W20 w hk;have W21:=wd_addM ⟨o19l,o19h⟩ ⟨o20l,o20h⟩ e20;obtain ⟨⟨⟨o21l,o21h⟩,e21⟩,q21⟩:∃ z:SpanD × Int,addM ⟨o19l,o19h⟩ ⟨o20l,o20h⟩ e20=z:=⟨_,rfl⟩;rw [q21] at K21 W21;unfold CkPost spanV at K21;try unfold ptS at K21
     dsimp only at K21;replace K21:=hZ K21;have K22:=fun cb w hk=>cmul_any cb e21 (ptS h) ⟨fzl,fzh⟩ hph wfz w hk;have W22:=wd_mulM (ptS h) ⟨fzl,fzh⟩ e21;obtain ⟨⟨⟨o22l,o22h⟩,e22⟩,q22⟩:∃ z:SpanD × Int,mulM (ptS h) ⟨fzl,fzh⟩ e21=z:=⟨_,rfl⟩;rw [q22] at K22 W22;unfold CkPost spanV at K22;try unfold ptS at K22
     dsimp only at K22;replace K22:=hZ K22;have K23:=fun cb w hk=>cadd_any cb e22 ⟨bzl,bzh⟩ ⟨o22l,o22h⟩ wvz W22 w hk;have W23:=wd_addM ⟨bzl,bzh⟩ ⟨o22l,o22h⟩ e22;obtain ⟨⟨⟨o23l,o23h⟩,e23⟩,q23⟩:∃ z:SpanD × Int,addM ⟨bzl,bzh⟩ ⟨o22l,o22h⟩ e22=z:=⟨_,rfl⟩;rw [q23] at K23 W23;unfold CkPost spanV at K23;try unfold ptS at K23
     dsimp only at K23;replace K23:=hZ K23;have K24:=fun cb w hk=>cmul_any cb e23 (ptS h) ⟨fl,fh⟩ hph hfl w hk;have W24:=wd_mulM (ptS h) ⟨fl,fh⟩ e23;obtain ⟨⟨⟨o24l,o24h⟩,e24⟩,q24⟩:∃ z:SpanD × Int,mulM (ptS h) ⟨fl,fh⟩ e23=z:=⟨_,rfl⟩;rw [q24] at K24 W24;unfold CkPost spanV at K24;try unfold ptS at K24
     dsimp only at K24;replace K24:=hZ K24;have K25:=fun cb w hk=>csub_any cb e24 ⟨sml,smh⟩ ⟨o24l,o24h⟩ wm W24 w hk;have W25:=wd_subM ⟨sml,smh⟩ ⟨o24l,o24h⟩ e24;obtain ⟨⟨⟨o25l,o25h⟩,e25⟩,q25⟩:∃ z:SpanD × Int,subM ⟨sml,smh⟩ ⟨o24l,o24h⟩ e24=z:=⟨_,rfl⟩;rw [q25] at K25 W25;unfold CkPost spanV at K25;try unfold ptS at K25
     dsimp only at K25;replace K25:=hZ K25;have HT:=HTL.out ⟨⟨fxl,fxh⟩,⟨fyl,fyh⟩,⟨fzl,fzh⟩⟩ ef;unfold tailM nextM CM.bnd CM.ret at HT;rw [wholeS2] at HT;simp only [q4,q5,q6,q7,q8,q9,q10,q11,q12,q13,q14,q15,q16,q17,q18,q19,q20,q21,q22,q23,q24,q25] at HT;replace HT:=hZ HT.symm;clear HTL q4 W4 q5 W5 q6 W6 q7 W7 q8 W8 q9 W9 q10 W10 q11 W11 q12 W12 q13 W13 q14 W14 q15 W15 q16 W16 q17 W17 q18 W18 q19 W19 q20 W20 q21 W21 q22 W22 q23 W23 q24 W24 q25 W25;go_wp2_with (first
       | (refine lF (gN HF32 0) #[mul,muh,rl,rh,ol,oh,sl,sh,pxl,pxh,pyl,pyh,pzl,pzh,time,step,tl,th,fl,fh,dxl,dxh,dyl,dyh,dzl,dzh,.slice A n c,dl,dh] u_160 i_160 ?_)
       | (refine lF (gN HF32 9) #[bpxl,bpxh,bpyl,bpyh,bpzl,bpzh,bvxl,bvxh,bvyl,bvyh,bvzl,bvzh] u_208 i_208 ?_)
       | (refine lS (gN HF32 7) o3l o3h ?_))
     refine (H121.out g1 _ (HF32.out.ge 4 rfl) HF32.out.toBelow (HF32.out.get 4 rfl)).mono ?_
     rintro e w33 ⟨rfl,hw⟩;have HF34:=fN (HF32.out.turn 4 rfl hw);clear hw;obtain ⟨g35,w35,hg35,hw35,HF36⟩:=fA HF34.out #[(0:Int),(0:Int),(0:Int),(0:Int),(0:Int),(0:Int)] 34;go_wp2_with (refine sW 10 HF36.out i_34 fun w37 HF38=>?_;clear hw35 hg35)
     refine mB HF38.out (HPT.out h _) fun w39 HF40=>?_;obtain ⟨g41,w41,hg41,hw41,HF42⟩:=fA HF40.out #[.int .i64 0,.int .i64 0] 31;go_wp2_with (first
       | (refine lS (gN HF44 11) h h ?_)
       | (refine sW 11 HF42.out i_span fun w43 HF44=>?_;clear hw41 hg41))
     refine (K4.out g1 _ (HF44.out.get 4 rfl)).mono ?_
     rintro e w45 ⟨rfl,hw⟩;have HF46:=fN (HF44.out.turn 4 rfl hw);clear hw;go_wp2_with fail
     refine mB HF46.out (HWHO.out _) fun w47 HF48=>?_;go_wp2_with fail
     refine (K5.out g1 _ (HF48.out.get 4 rfl)).mono ?_
     rintro e w49 ⟨rfl,hw⟩;have HF50:=fN (HF48.out.turn 4 rfl hw);clear hw;obtain ⟨g51,w51,hg51,hw51,HF52⟩:=fA HF50.out #[.int .i64 0,.int .i64 0] 31;go_wp2_with (first
       | (refine sW 12 HF52.out i_span fun w53 HF54=>?_;clear hw51 hg51;have c55:=cA (gN HF54 5) 0)
       | (refine sW 2 HF54.out i_38 fun w56 HF57=>?_;clear c55))
     refine wp_loop_rounds 4 ?_
     rw [rounds_succ];go_upto_region 20 with (fail);refine wrf [.p,.p,.p,.p,.p,.p,.p,.p,.p,.p,.p,.p,.p,.c 0,.c 1,.p,.p,.p,.p,.p,.c 2,.c 3,.p,.p,.c 4] [13,14,20,21,24] [] (fun _=>[]) (fun k=>[(qb,160,#[mul,muh,rl,rh,ol,oh,sl,sh,pxl,pxh,pyl,pyh,pzl,pzh,time,step,tl,th,fl,fh,dxl,dxh,dyl,dyh,dzl,dzh,.slice A n c,dl,dh]),(qb+1,38,iC [st,axl,axh,ayl,ayh,azl,azh,bxl,bxh,byl,byh,bzl,bzh,sml,smh]),(qb+1+1,38,(if k≤4 then iC [o1l,0,0,0,0,0,0,0,0,0,0,0,0,0,0] else iC [o1l,o9l,o9h,0,0,0,0,0,0,0,0,0,0,0,0])),(qb+1+1+1,58,iC [0,0,0,0,0,0,0,0,0,0,0,0,0,0,0,0]),(g1,153,#[(match k with | 0=>.int .i64 e5 | 1=>.int .i64 e6 | 2=>.int .i64 e7 | 3=>.int .i64 e8 | 4=>.int .i64 e9 | _=>.int .i64 e9)]),(g10,31,iC [o1l,o1h]),(g14,31,iC [ql,qh]),(g18_10,31,iC [o3l,o3h]),(g23,208,iC [axl,axh,ayl,ayh,azl,azh,bxl,bxh,byl,byh,bzl,bzh]),(g29,208,iC [bpxl,bpxh,bpyl,bpyh,bpzl,bpzh,bvxl,bvxh,bvyl,bvyh,bvzl,bvzh]),(g35,34,iC [fxl,fxh,fyl,fyh,fzl,fzh]),(g41,31,iC [h,h]),(g51,31,iC [o5l,o5h])]) (rV [.int .i64 0,.pointer (some ⟨g1,0,none⟩),.pointer (some ⟨g1,0,none⟩),.int .i64 0,.pointer (some ⟨qb+1,1,none⟩),.pointer (some ⟨qb+1,1,none⟩),.agg #[axl,axh],.pointer (some ⟨g1,0,none⟩),.agg #[.int .i64 h,.int .i64 h],.int .i64 0,.pointer (some ⟨qb+1,7,none⟩),.pointer (some ⟨qb+1,7,none⟩),.agg #[bxl,bxh],.agg #[o6l,o6h],.agg #[o7l,o7h],.pointer (some ⟨g1,0,none⟩),.agg #[o5l,o5h],.int .i64 0,.pointer (some ⟨g35,0,none⟩),.agg #[fxl,fxh],.agg #[o8l,o8h],.agg #[o9l,o9h],.pointer (some ⟨qb+1+1,1,none⟩),.pointer (some ⟨qb+1+1,1,none⟩)]) [] HF57.out ?_ ?_
     ·refine ⟨?_,?_,?_,?_,?_,?_,?_,?_,?_,?_,?_,?_,?_,?_,?_,?_,?_,?_,?_,?_,?_,?_,?_,?_,?_,trivial⟩
      all_goals intro a w1 vs dn k K S hpre KE DE kk
      ·have e19:=KE 19;go_simp;exact kk _ _
      ·have e9:=KE 9;go_simp;exact kk _ _
      ·have e9:=KE 9;go_simp;exact kk _ _
      ·have e19:=KE 19;go_simp;exact kk _ _
      ·have e4:=KE 4;go_simp;exact kk _ _
      ·have e111:=dep (DE 4 111);have e110:=dep (DE 3 110);go_simp;exact kk _ _
      ·exact oM (eT (dep (DE 5 112))) (S.fr.left.get 1 rfl) (kk _ _)
      ·have e9:=KE 9;go_simp;exact kk _ _
      ·exact oM (eT (KE 17)) (S.fr.left.get 11 rfl) (kk _ _)
      ·have e19:=KE 19;go_simp;exact kk _ _
      ·have e4:=KE 4;go_simp;exact kk _ _
      ·have e117:=dep (DE 10 117);have e116:=dep (DE 9 116);go_simp;exact kk _ _
      ·exact oM (eT (dep (DE 11 118))) (S.fr.left.get 1 rfl) (kk _ _)
      ·subst hpre;have e114:=dep (DE 7 114);have e115:=dep (DE 8 115);have e119:=dep (DE 12 119);exact oD rfl (K6.out g1 w1 (S.fr.left.get 4 rfl)) (by simp [Act.eval,e114,e115,e119]) fun w' hb=>kk _ _ (by simp) (Fr.stage (S.fr.turn 4 rfl hb) (by exact trivial))
      ·subst hpre;have e109:=dep (DE 2 109);have e113:=dep (DE 6 113);have e120:=dep (DE 13 120);exact oD rfl (K7.out g1 w1 (S.fr.left.get 4 rfl)) (by simp [Act.eval,e109,e113,e120]) fun w' hb=>kk _ _ (by simp) (Fr.stage (S.fr.turn 4 rfl hb) (by exact trivial))
      ·have e9:=KE 9;go_simp;exact kk _ _
      ·exact oM (eT (KE 18)) (S.fr.left.get 12 rfl) (kk _ _)
      ·have e19:=KE 19;go_simp;exact kk _ _
      ·have e16:=KE 16;have e124:=dep (DE 17 124);go_simp;exact kk _ _
      ·exact oM (eT (dep (DE 18 125))) (S.fr.left.get 10 rfl) (kk _ _)
      ·subst hpre;have e122:=dep (DE 15 122);have e123:=dep (DE 16 123);have e126:=dep (DE 19 126);exact oD rfl (K8.out g1 w1 (S.fr.left.get 4 rfl)) (by simp [Act.eval,e122,e123,e126]) fun w' hb=>kk _ _ (by simp) (Fr.stage (S.fr.turn 4 rfl hb) (by exact trivial))
      ·subst hpre;have e108:=dep (DE 1 108);have e121:=dep (DE 14 121);have e127:=dep (DE 20 127);exact oD rfl (K9.out g1 w1 (S.fr.left.get 4 rfl)) (by simp [Act.eval,e108,e121,e127]) fun w' hb=>kk _ _ (by simp) (Fr.stage (S.fr.turn 4 rfl hb) (by exact trivial))
      ·have e6:=KE 6;go_simp;exact kk _ _
      ·have e129:=dep (DE 22 129);have e107:=dep (DE 0 107);go_simp;exact kk _ _
      ·subst hpre;exact oS (eT (dep (DE 23 130))) (eT (dep (DE 21 128))) (gI (S.hi 4 24 rfl rfl) (S.fr.left.get 2 rfl)) (iC [o1l,o9l,o9h,0,0,0,0,0,0,0,0,0,0,0,0]) i_span fun w' hk ho=>kk _ _ (by simp) (Fr.stage (S.fr.only 2 rfl ho hk) (by exact trivial))
     ·intro vs w58 HFr HR;have HF58:=fW HFr;clear HFr HR;simp only [putAll,Act.put,List.setIfInBounds_toArray,List.set_cons_zero,List.set_cons_succ];clear K6 K7 K8 K9;go_upto_region 21 with (fail);refine wrf [.p,.p,.p,.p,.p,.p,.p,.p,.p,.p,.p,.c 0,.c 1,.p,.p,.c 2] [11,12,15] [] (fun _=>[]) (fun k=>[(qb,160,#[mul,muh,rl,rh,ol,oh,sl,sh,pxl,pxh,pyl,pyh,pzl,pzh,time,step,tl,th,fl,fh,dxl,dxh,dyl,dyh,dzl,dzh,.slice A n c,dl,dh]),(qb+1,38,iC [st,axl,axh,ayl,ayh,azl,azh,bxl,bxh,byl,byh,bzl,bzh,sml,smh]),(qb+1+1,38,(if k≤2 then iC [o1l,o9l,o9h,0,0,0,0,0,0,0,0,0,0,0,0] else iC [o1l,o9l,o9h,0,0,0,0,o11l,o11h,0,0,0,0,0,0])),(qb+1+1+1,58,iC [0,0,0,0,0,0,0,0,0,0,0,0,0,0,0,0]),(g1,153,#[(match k with | 0=>.int .i64 e9 | 1=>.int .i64 e10 | 2=>.int .i64 e11 | _=>.int .i64 e11)]),(g10,31,iC [o1l,o1h]),(g14,31,iC [ql,qh]),(g18_10,31,iC [o3l,o3h]),(g23,208,iC [axl,axh,ayl,ayh,azl,azh,bxl,bxh,byl,byh,bzl,bzh]),(g29,208,iC [bpxl,bpxh,bpyl,bpyh,bpzl,bpzh,bvxl,bvxh,bvyl,bvyh,bvzl,bvzh]),(g35,34,iC [fxl,fxh,fyl,fyh,fzl,fzh]),(g41,31,iC [h,h]),(g51,31,iC [o5l,o5h])]) (rV [.int .i64 0,.pointer (some ⟨g1,0,none⟩),.int .i64 0,.pointer (some ⟨qb+1,7,none⟩),.pointer (some ⟨qb+1,7,none⟩),.agg #[bxl,bxh],.pointer (some ⟨g1,0,none⟩),.agg #[.int .i64 h,.int .i64 h],.int .i64 0,.pointer (some ⟨g35,0,none⟩),.agg #[fxl,fxh],.agg #[o10l,o10h],.agg #[o11l,o11h],.pointer (some ⟨qb+1+1,7,none⟩),.pointer (some ⟨qb+1+1,7,none⟩)]) [] HF58.out ?_ ?_
      ·refine ⟨?_,?_,?_,?_,?_,?_,?_,?_,?_,?_,?_,?_,?_,?_,?_,?_,trivial⟩
       all_goals intro a w1 vs dn k K S hpre KE DE kk
       ·have e19:=KE 19;go_simp;exact kk _ _
       ·have e9:=KE 9;go_simp;exact kk _ _
       ·have e19:=KE 19;go_simp;exact kk _ _
       ·have e4:=KE 4;go_simp;exact kk _ _
       ·have e134:=dep (DE 3 134);have e133:=dep (DE 2 133);go_simp;exact kk _ _
       ·exact oM (eT (dep (DE 4 135))) (S.fr.left.get 1 rfl) (kk _ _)
       ·have e9:=KE 9;go_simp;exact kk _ _
       ·exact oM (eT (KE 17)) (S.fr.left.get 11 rfl) (kk _ _)
       ·have e19:=KE 19;go_simp;exact kk _ _
       ·have e16:=KE 16;have e139:=dep (DE 8 139);go_simp;exact kk _ _
       ·exact oM (eT (dep (DE 9 140))) (S.fr.left.get 10 rfl) (kk _ _)
       ·subst hpre;have e137:=dep (DE 6 137);have e138:=dep (DE 7 138);have e141:=dep (DE 10 141);exact oD rfl (K10.out g1 w1 (S.fr.left.get 4 rfl)) (by simp [Act.eval,e137,e138,e141]) fun w' hb=>kk _ _ (by simp) (Fr.stage (S.fr.turn 4 rfl hb) (by exact trivial))
       ·subst hpre;have e132:=dep (DE 1 132);have e136:=dep (DE 5 136);have e142:=dep (DE 11 142);exact oD rfl (K11.out g1 w1 (S.fr.left.get 4 rfl)) (by simp [Act.eval,e132,e136,e142]) fun w' hb=>kk _ _ (by simp) (Fr.stage (S.fr.turn 4 rfl hb) (by exact trivial))
       ·have e6:=KE 6;go_simp;exact kk _ _
       ·have e144:=dep (DE 13 144);have e131:=dep (DE 0 131);go_simp;exact kk _ _
       ·subst hpre;exact oS (eT (dep (DE 14 145))) (eT (dep (DE 12 143))) (gI (S.hi 2 15 rfl rfl) (S.fr.left.get 2 rfl)) (iC [o1l,o9l,o9h,0,0,0,0,o11l,o11h,0,0,0,0,0,0]) i_span fun w' hk ho=>kk _ _ (by simp) (Fr.stage (S.fr.only 2 rfl ho hk) (by exact trivial))
      ·intro vs w59 HFr HR;have HF59:=fW HFr;clear HFr HR;simp only [putAll,Act.put,List.setIfInBounds_toArray,List.set_cons_zero,List.set_cons_succ];clear K10 K11;go_wp2_with fail
       rw [rounds_succ];go_upto_region 20 with (fail);refine wrf [.p,.p,.p,.p,.p,.p,.p,.p,.p,.p,.p,.p,.p,.c 0,.c 1,.p,.p,.p,.p,.p,.c 2,.c 3,.p,.p,.c 4] [13,14,20,21,24] [] (fun _=>[]) (fun k=>[(qb,160,#[mul,muh,rl,rh,ol,oh,sl,sh,pxl,pxh,pyl,pyh,pzl,pzh,time,step,tl,th,fl,fh,dxl,dxh,dyl,dyh,dzl,dzh,.slice A n c,dl,dh]),(qb+1,38,iC [st,axl,axh,ayl,ayh,azl,azh,bxl,bxh,byl,byh,bzl,bzh,sml,smh]),(qb+1+1,38,(if k≤4 then iC [o1l,o9l,o9h,0,0,0,0,o11l,o11h,0,0,0,0,0,0] else iC [o1l,o9l,o9h,o15l,o15h,0,0,o11l,o11h,0,0,0,0,0,0])),(qb+1+1+1,58,iC [0,0,0,0,0,0,0,0,0,0,0,0,0,0,0,0]),(g1,153,#[(match k with | 0=>.int .i64 e11 | 1=>.int .i64 e12 | 2=>.int .i64 e13 | 3=>.int .i64 e14 | 4=>.int .i64 e15 | _=>.int .i64 e15)]),(g10,31,iC [o1l,o1h]),(g14,31,iC [ql,qh]),(g18_10,31,iC [o3l,o3h]),(g23,208,iC [axl,axh,ayl,ayh,azl,azh,bxl,bxh,byl,byh,bzl,bzh]),(g29,208,iC [bpxl,bpxh,bpyl,bpyh,bpzl,bpzh,bvxl,bvxh,bvyl,bvyh,bvzl,bvzh]),(g35,34,iC [fxl,fxh,fyl,fyh,fzl,fzh]),(g41,31,iC [h,h]),(g51,31,iC [o5l,o5h])]) (rV [.int .i64 1,.pointer (some ⟨g1,0,none⟩),.pointer (some ⟨g1,0,none⟩),.int .i64 1,.pointer (some ⟨qb+1,1,none⟩),.pointer (some ⟨qb+1,3,none⟩),.agg #[ayl,ayh],.pointer (some ⟨g1,0,none⟩),.agg #[.int .i64 h,.int .i64 h],.int .i64 1,.pointer (some ⟨qb+1,7,none⟩),.pointer (some ⟨qb+1,9,none⟩),.agg #[byl,byh],.agg #[o12l,o12h],.agg #[o13l,o13h],.pointer (some ⟨g1,0,none⟩),.agg #[o5l,o5h],.int .i64 1,.pointer (some ⟨g35,2,none⟩),.agg #[fyl,fyh],.agg #[o14l,o14h],.agg #[o15l,o15h],.pointer (some ⟨qb+1+1,1,none⟩),.pointer (some ⟨qb+1+1,3,none⟩)]) [] HF59.out ?_ ?_
       ·refine ⟨?_,?_,?_,?_,?_,?_,?_,?_,?_,?_,?_,?_,?_,?_,?_,?_,?_,?_,?_,?_,?_,?_,?_,?_,?_,trivial⟩
        all_goals intro a w1 vs dn k K S hpre KE DE kk
        ·have e19:=KE 19;go_simp;exact kk _ _
        ·have e9:=KE 9;go_simp;exact kk _ _
        ·have e9:=KE 9;go_simp;exact kk _ _
        ·have e19:=KE 19;go_simp;exact kk _ _
        ·have e4:=KE 4;go_simp;exact kk _ _
        ·have e111:=dep (DE 4 111);have e110:=dep (DE 3 110);go_simp;exact kk _ _
        ·exact oM (eT (dep (DE 5 112))) (S.fr.left.get 1 rfl) (kk _ _)
        ·have e9:=KE 9;go_simp;exact kk _ _
        ·exact oM (eT (KE 17)) (S.fr.left.get 11 rfl) (kk _ _)
        ·have e19:=KE 19;go_simp;exact kk _ _
        ·have e4:=KE 4;go_simp;exact kk _ _
        ·have e117:=dep (DE 10 117);have e116:=dep (DE 9 116);go_simp;exact kk _ _
        ·exact oM (eT (dep (DE 11 118))) (S.fr.left.get 1 rfl) (kk _ _)
        ·subst hpre;have e114:=dep (DE 7 114);have e115:=dep (DE 8 115);have e119:=dep (DE 12 119);exact oD rfl (K12.out g1 w1 (S.fr.left.get 4 rfl)) (by simp [Act.eval,e114,e115,e119]) fun w' hb=>kk _ _ (by simp) (Fr.stage (S.fr.turn 4 rfl hb) (by exact trivial))
        ·subst hpre;have e109:=dep (DE 2 109);have e113:=dep (DE 6 113);have e120:=dep (DE 13 120);exact oD rfl (K13.out g1 w1 (S.fr.left.get 4 rfl)) (by simp [Act.eval,e109,e113,e120]) fun w' hb=>kk _ _ (by simp) (Fr.stage (S.fr.turn 4 rfl hb) (by exact trivial))
        ·have e9:=KE 9;go_simp;exact kk _ _
        ·exact oM (eT (KE 18)) (S.fr.left.get 12 rfl) (kk _ _)
        ·have e19:=KE 19;go_simp;exact kk _ _
        ·have e16:=KE 16;have e124:=dep (DE 17 124);go_simp;exact kk _ _
        ·exact oM (eT (dep (DE 18 125))) (S.fr.left.get 10 rfl) (kk _ _)
        ·subst hpre;have e122:=dep (DE 15 122);have e123:=dep (DE 16 123);have e126:=dep (DE 19 126);exact oD rfl (K14.out g1 w1 (S.fr.left.get 4 rfl)) (by simp [Act.eval,e122,e123,e126]) fun w' hb=>kk _ _ (by simp) (Fr.stage (S.fr.turn 4 rfl hb) (by exact trivial))
        ·subst hpre;have e108:=dep (DE 1 108);have e121:=dep (DE 14 121);have e127:=dep (DE 20 127);exact oD rfl (K15.out g1 w1 (S.fr.left.get 4 rfl)) (by simp [Act.eval,e108,e121,e127]) fun w' hb=>kk _ _ (by simp) (Fr.stage (S.fr.turn 4 rfl hb) (by exact trivial))
        ·have e6:=KE 6;go_simp;exact kk _ _
        ·have e129:=dep (DE 22 129);have e107:=dep (DE 0 107);go_simp;exact kk _ _
        ·subst hpre;exact oS (eT (dep (DE 23 130))) (eT (dep (DE 21 128))) (gI (S.hi 4 24 rfl rfl) (S.fr.left.get 2 rfl)) (iC [o1l,o9l,o9h,o15l,o15h,0,0,o11l,o11h,0,0,0,0,0,0]) i_span fun w' hk ho=>kk _ _ (by simp) (Fr.stage (S.fr.only 2 rfl ho hk) (by exact trivial))
       ·intro vs w60 HFr HR;have HF60:=fW HFr;clear HFr HR;simp only [putAll,Act.put,List.setIfInBounds_toArray,List.set_cons_zero,List.set_cons_succ];clear K12 K13 K14 K15;go_upto_region 21 with (fail);refine wrf [.p,.p,.p,.p,.p,.p,.p,.p,.p,.p,.p,.c 0,.c 1,.p,.p,.c 2] [11,12,15] [] (fun _=>[]) (fun k=>[(qb,160,#[mul,muh,rl,rh,ol,oh,sl,sh,pxl,pxh,pyl,pyh,pzl,pzh,time,step,tl,th,fl,fh,dxl,dxh,dyl,dyh,dzl,dzh,.slice A n c,dl,dh]),(qb+1,38,iC [st,axl,axh,ayl,ayh,azl,azh,bxl,bxh,byl,byh,bzl,bzh,sml,smh]),(qb+1+1,38,(if k≤2 then iC [o1l,o9l,o9h,o15l,o15h,0,0,o11l,o11h,0,0,0,0,0,0] else iC [o1l,o9l,o9h,o15l,o15h,0,0,o11l,o11h,o17l,o17h,0,0,0,0])),(qb+1+1+1,58,iC [0,0,0,0,0,0,0,0,0,0,0,0,0,0,0,0]),(g1,153,#[(match k with | 0=>.int .i64 e15 | 1=>.int .i64 e16 | 2=>.int .i64 e17 | _=>.int .i64 e17)]),(g10,31,iC [o1l,o1h]),(g14,31,iC [ql,qh]),(g18_10,31,iC [o3l,o3h]),(g23,208,iC [axl,axh,ayl,ayh,azl,azh,bxl,bxh,byl,byh,bzl,bzh]),(g29,208,iC [bpxl,bpxh,bpyl,bpyh,bpzl,bpzh,bvxl,bvxh,bvyl,bvyh,bvzl,bvzh]),(g35,34,iC [fxl,fxh,fyl,fyh,fzl,fzh]),(g41,31,iC [h,h]),(g51,31,iC [o5l,o5h])]) (rV [.int .i64 1,.pointer (some ⟨g1,0,none⟩),.int .i64 1,.pointer (some ⟨qb+1,7,none⟩),.pointer (some ⟨qb+1,9,none⟩),.agg #[byl,byh],.pointer (some ⟨g1,0,none⟩),.agg #[.int .i64 h,.int .i64 h],.int .i64 1,.pointer (some ⟨g35,2,none⟩),.agg #[fyl,fyh],.agg #[o16l,o16h],.agg #[o17l,o17h],.pointer (some ⟨qb+1+1,7,none⟩),.pointer (some ⟨qb+1+1,9,none⟩)]) [] HF60.out ?_ ?_
        ·refine ⟨?_,?_,?_,?_,?_,?_,?_,?_,?_,?_,?_,?_,?_,?_,?_,?_,trivial⟩
         all_goals intro a w1 vs dn k K S hpre KE DE kk
         ·have e19:=KE 19;go_simp;exact kk _ _
         ·have e9:=KE 9;go_simp;exact kk _ _
         ·have e19:=KE 19;go_simp;exact kk _ _
         ·have e4:=KE 4;go_simp;exact kk _ _
         ·have e134:=dep (DE 3 134);have e133:=dep (DE 2 133);go_simp;exact kk _ _
         ·exact oM (eT (dep (DE 4 135))) (S.fr.left.get 1 rfl) (kk _ _)
         ·have e9:=KE 9;go_simp;exact kk _ _
         ·exact oM (eT (KE 17)) (S.fr.left.get 11 rfl) (kk _ _)
         ·have e19:=KE 19;go_simp;exact kk _ _
         ·have e16:=KE 16;have e139:=dep (DE 8 139);go_simp;exact kk _ _
         ·exact oM (eT (dep (DE 9 140))) (S.fr.left.get 10 rfl) (kk _ _)
         ·subst hpre;have e137:=dep (DE 6 137);have e138:=dep (DE 7 138);have e141:=dep (DE 10 141);exact oD rfl (K16.out g1 w1 (S.fr.left.get 4 rfl)) (by simp [Act.eval,e137,e138,e141]) fun w' hb=>kk _ _ (by simp) (Fr.stage (S.fr.turn 4 rfl hb) (by exact trivial))
         ·subst hpre;have e132:=dep (DE 1 132);have e136:=dep (DE 5 136);have e142:=dep (DE 11 142);exact oD rfl (K17.out g1 w1 (S.fr.left.get 4 rfl)) (by simp [Act.eval,e132,e136,e142]) fun w' hb=>kk _ _ (by simp) (Fr.stage (S.fr.turn 4 rfl hb) (by exact trivial))
         ·have e6:=KE 6;go_simp;exact kk _ _
         ·have e144:=dep (DE 13 144);have e131:=dep (DE 0 131);go_simp;exact kk _ _
         ·subst hpre;exact oS (eT (dep (DE 14 145))) (eT (dep (DE 12 143))) (gI (S.hi 2 15 rfl rfl) (S.fr.left.get 2 rfl)) (iC [o1l,o9l,o9h,o15l,o15h,0,0,o11l,o11h,o17l,o17h,0,0,0,0]) i_span fun w' hk ho=>kk _ _ (by simp) (Fr.stage (S.fr.only 2 rfl ho hk) (by exact trivial))
        ·intro vs w61 HFr HR;have HF61:=fW HFr;clear HFr HR;simp only [putAll,Act.put,List.setIfInBounds_toArray,List.set_cons_zero,List.set_cons_succ];clear K16 K17;go_wp2_with fail
         rw [rounds_succ];go_upto_region 20 with (fail);refine wrf [.p,.p,.p,.p,.p,.p,.p,.p,.p,.p,.p,.p,.p,.c 0,.c 1,.p,.p,.p,.p,.p,.c 2,.c 3,.p,.p,.c 4] [13,14,20,21,24] [] (fun _=>[]) (fun k=>[(qb,160,#[mul,muh,rl,rh,ol,oh,sl,sh,pxl,pxh,pyl,pyh,pzl,pzh,time,step,tl,th,fl,fh,dxl,dxh,dyl,dyh,dzl,dzh,.slice A n c,dl,dh]),(qb+1,38,iC [st,axl,axh,ayl,ayh,azl,azh,bxl,bxh,byl,byh,bzl,bzh,sml,smh]),(qb+1+1,38,(if k≤4 then iC [o1l,o9l,o9h,o15l,o15h,0,0,o11l,o11h,o17l,o17h,0,0,0,0] else iC [o1l,o9l,o9h,o15l,o15h,o21l,o21h,o11l,o11h,o17l,o17h,0,0,0,0])),(qb+1+1+1,58,iC [0,0,0,0,0,0,0,0,0,0,0,0,0,0,0,0]),(g1,153,#[(match k with | 0=>.int .i64 e17 | 1=>.int .i64 e18 | 2=>.int .i64 e19 | 3=>.int .i64 e20 | 4=>.int .i64 e21 | _=>.int .i64 e21)]),(g10,31,iC [o1l,o1h]),(g14,31,iC [ql,qh]),(g18_10,31,iC [o3l,o3h]),(g23,208,iC [axl,axh,ayl,ayh,azl,azh,bxl,bxh,byl,byh,bzl,bzh]),(g29,208,iC [bpxl,bpxh,bpyl,bpyh,bpzl,bpzh,bvxl,bvxh,bvyl,bvyh,bvzl,bvzh]),(g35,34,iC [fxl,fxh,fyl,fyh,fzl,fzh]),(g41,31,iC [h,h]),(g51,31,iC [o5l,o5h])]) (rV [.int .i64 2,.pointer (some ⟨g1,0,none⟩),.pointer (some ⟨g1,0,none⟩),.int .i64 2,.pointer (some ⟨qb+1,1,none⟩),.pointer (some ⟨qb+1,5,none⟩),.agg #[azl,azh],.pointer (some ⟨g1,0,none⟩),.agg #[.int .i64 h,.int .i64 h],.int .i64 2,.pointer (some ⟨qb+1,7,none⟩),.pointer (some ⟨qb+1,11,none⟩),.agg #[bzl,bzh],.agg #[o18l,o18h],.agg #[o19l,o19h],.pointer (some ⟨g1,0,none⟩),.agg #[o5l,o5h],.int .i64 2,.pointer (some ⟨g35,4,none⟩),.agg #[fzl,fzh],.agg #[o20l,o20h],.agg #[o21l,o21h],.pointer (some ⟨qb+1+1,1,none⟩),.pointer (some ⟨qb+1+1,5,none⟩)]) [] HF61.out ?_ ?_
         ·refine ⟨?_,?_,?_,?_,?_,?_,?_,?_,?_,?_,?_,?_,?_,?_,?_,?_,?_,?_,?_,?_,?_,?_,?_,?_,?_,trivial⟩
          all_goals intro a w1 vs dn k K S hpre KE DE kk
          ·have e19:=KE 19;go_simp;exact kk _ _
          ·have e9:=KE 9;go_simp;exact kk _ _
          ·have e9:=KE 9;go_simp;exact kk _ _
          ·have e19:=KE 19;go_simp;exact kk _ _
          ·have e4:=KE 4;go_simp;exact kk _ _
          ·have e111:=dep (DE 4 111);have e110:=dep (DE 3 110);go_simp;exact kk _ _
          ·exact oM (eT (dep (DE 5 112))) (S.fr.left.get 1 rfl) (kk _ _)
          ·have e9:=KE 9;go_simp;exact kk _ _
          ·exact oM (eT (KE 17)) (S.fr.left.get 11 rfl) (kk _ _)
          ·have e19:=KE 19;go_simp;exact kk _ _
          ·have e4:=KE 4;go_simp;exact kk _ _
          ·have e117:=dep (DE 10 117);have e116:=dep (DE 9 116);go_simp;exact kk _ _
          ·exact oM (eT (dep (DE 11 118))) (S.fr.left.get 1 rfl) (kk _ _)
          ·subst hpre;have e114:=dep (DE 7 114);have e115:=dep (DE 8 115);have e119:=dep (DE 12 119);exact oD rfl (K18.out g1 w1 (S.fr.left.get 4 rfl)) (by simp [Act.eval,e114,e115,e119]) fun w' hb=>kk _ _ (by simp) (Fr.stage (S.fr.turn 4 rfl hb) (by exact trivial))
          ·subst hpre;have e109:=dep (DE 2 109);have e113:=dep (DE 6 113);have e120:=dep (DE 13 120);exact oD rfl (K19.out g1 w1 (S.fr.left.get 4 rfl)) (by simp [Act.eval,e109,e113,e120]) fun w' hb=>kk _ _ (by simp) (Fr.stage (S.fr.turn 4 rfl hb) (by exact trivial))
          ·have e9:=KE 9;go_simp;exact kk _ _
          ·exact oM (eT (KE 18)) (S.fr.left.get 12 rfl) (kk _ _)
          ·have e19:=KE 19;go_simp;exact kk _ _
          ·have e16:=KE 16;have e124:=dep (DE 17 124);go_simp;exact kk _ _
          ·exact oM (eT (dep (DE 18 125))) (S.fr.left.get 10 rfl) (kk _ _)
          ·subst hpre;have e122:=dep (DE 15 122);have e123:=dep (DE 16 123);have e126:=dep (DE 19 126);exact oD rfl (K20.out g1 w1 (S.fr.left.get 4 rfl)) (by simp [Act.eval,e122,e123,e126]) fun w' hb=>kk _ _ (by simp) (Fr.stage (S.fr.turn 4 rfl hb) (by exact trivial))
          ·subst hpre;have e108:=dep (DE 1 108);have e121:=dep (DE 14 121);have e127:=dep (DE 20 127);exact oD rfl (K21.out g1 w1 (S.fr.left.get 4 rfl)) (by simp [Act.eval,e108,e121,e127]) fun w' hb=>kk _ _ (by simp) (Fr.stage (S.fr.turn 4 rfl hb) (by exact trivial))
          ·have e6:=KE 6;go_simp;exact kk _ _
          ·have e129:=dep (DE 22 129);have e107:=dep (DE 0 107);go_simp;exact kk _ _
          ·subst hpre;exact oS (eT (dep (DE 23 130))) (eT (dep (DE 21 128))) (gI (S.hi 4 24 rfl rfl) (S.fr.left.get 2 rfl)) (iC [o1l,o9l,o9h,o15l,o15h,o21l,o21h,o11l,o11h,o17l,o17h,0,0,0,0]) i_span fun w' hk ho=>kk _ _ (by simp) (Fr.stage (S.fr.only 2 rfl ho hk) (by exact trivial))
         ·intro vs w62 HFr HR;have HF62:=fW HFr;clear HFr HR;simp only [putAll,Act.put,List.setIfInBounds_toArray,List.set_cons_zero,List.set_cons_succ];clear K18 K19 K20 K21;go_upto_region 21 with (fail);refine wrf [.p,.p,.p,.p,.p,.p,.p,.p,.p,.p,.p,.c 0,.c 1,.p,.p,.c 2] [11,12,15] [] (fun _=>[]) (fun k=>[(qb,160,#[mul,muh,rl,rh,ol,oh,sl,sh,pxl,pxh,pyl,pyh,pzl,pzh,time,step,tl,th,fl,fh,dxl,dxh,dyl,dyh,dzl,dzh,.slice A n c,dl,dh]),(qb+1,38,iC [st,axl,axh,ayl,ayh,azl,azh,bxl,bxh,byl,byh,bzl,bzh,sml,smh]),(qb+1+1,38,(if k≤2 then iC [o1l,o9l,o9h,o15l,o15h,o21l,o21h,o11l,o11h,o17l,o17h,0,0,0,0] else iC [o1l,o9l,o9h,o15l,o15h,o21l,o21h,o11l,o11h,o17l,o17h,o23l,o23h,0,0])),(qb+1+1+1,58,iC [0,0,0,0,0,0,0,0,0,0,0,0,0,0,0,0]),(g1,153,#[(match k with | 0=>.int .i64 e21 | 1=>.int .i64 e22 | 2=>.int .i64 e23 | _=>.int .i64 e23)]),(g10,31,iC [o1l,o1h]),(g14,31,iC [ql,qh]),(g18_10,31,iC [o3l,o3h]),(g23,208,iC [axl,axh,ayl,ayh,azl,azh,bxl,bxh,byl,byh,bzl,bzh]),(g29,208,iC [bpxl,bpxh,bpyl,bpyh,bpzl,bpzh,bvxl,bvxh,bvyl,bvyh,bvzl,bvzh]),(g35,34,iC [fxl,fxh,fyl,fyh,fzl,fzh]),(g41,31,iC [h,h]),(g51,31,iC [o5l,o5h])]) (rV [.int .i64 2,.pointer (some ⟨g1,0,none⟩),.int .i64 2,.pointer (some ⟨qb+1,7,none⟩),.pointer (some ⟨qb+1,11,none⟩),.agg #[bzl,bzh],.pointer (some ⟨g1,0,none⟩),.agg #[.int .i64 h,.int .i64 h],.int .i64 2,.pointer (some ⟨g35,4,none⟩),.agg #[fzl,fzh],.agg #[o22l,o22h],.agg #[o23l,o23h],.pointer (some ⟨qb+1+1,7,none⟩),.pointer (some ⟨qb+1+1,11,none⟩)]) [] HF62.out ?_ ?_
          ·refine ⟨?_,?_,?_,?_,?_,?_,?_,?_,?_,?_,?_,?_,?_,?_,?_,?_,trivial⟩
           all_goals intro a w1 vs dn k K S hpre KE DE kk
           ·have e19:=KE 19;go_simp;exact kk _ _
           ·have e9:=KE 9;go_simp;exact kk _ _
           ·have e19:=KE 19;go_simp;exact kk _ _
           ·have e4:=KE 4;go_simp;exact kk _ _
           ·have e134:=dep (DE 3 134);have e133:=dep (DE 2 133);go_simp;exact kk _ _
           ·exact oM (eT (dep (DE 4 135))) (S.fr.left.get 1 rfl) (kk _ _)
           ·have e9:=KE 9;go_simp;exact kk _ _
           ·exact oM (eT (KE 17)) (S.fr.left.get 11 rfl) (kk _ _)
           ·have e19:=KE 19;go_simp;exact kk _ _
           ·have e16:=KE 16;have e139:=dep (DE 8 139);go_simp;exact kk _ _
           ·exact oM (eT (dep (DE 9 140))) (S.fr.left.get 10 rfl) (kk _ _)
           ·subst hpre;have e137:=dep (DE 6 137);have e138:=dep (DE 7 138);have e141:=dep (DE 10 141);exact oD rfl (K22.out g1 w1 (S.fr.left.get 4 rfl)) (by simp [Act.eval,e137,e138,e141]) fun w' hb=>kk _ _ (by simp) (Fr.stage (S.fr.turn 4 rfl hb) (by exact trivial))
           ·subst hpre;have e132:=dep (DE 1 132);have e136:=dep (DE 5 136);have e142:=dep (DE 11 142);exact oD rfl (K23.out g1 w1 (S.fr.left.get 4 rfl)) (by simp [Act.eval,e132,e136,e142]) fun w' hb=>kk _ _ (by simp) (Fr.stage (S.fr.turn 4 rfl hb) (by exact trivial))
           ·have e6:=KE 6;go_simp;exact kk _ _
           ·have e144:=dep (DE 13 144);have e131:=dep (DE 0 131);go_simp;exact kk _ _
           ·subst hpre;exact oS (eT (dep (DE 14 145))) (eT (dep (DE 12 143))) (gI (S.hi 2 15 rfl rfl) (S.fr.left.get 2 rfl)) (iC [o1l,o9l,o9h,o15l,o15h,o21l,o21h,o11l,o11h,o17l,o17h,o23l,o23h,0,0]) i_span fun w' hk ho=>kk _ _ (by simp) (Fr.stage (S.fr.only 2 rfl ho hk) (by exact trivial))
          ·intro vs w63 HFr HR;have HF63:=fW HFr;clear HFr HR;simp only [putAll,Act.put,List.setIfInBounds_toArray,List.set_cons_zero,List.set_cons_succ];clear K22 K23;go_wp2_with fail
           rw [rounds_succ];go_upto_region 23 with (fail);refine wrf [.p,.p,.p,.p,.p,.p,.p,.p,.c 0,.c 1,.p,.c 2] [8,9,11] [] (fun _=>[]) (fun k=>[(qb,160,#[mul,muh,rl,rh,ol,oh,sl,sh,pxl,pxh,pyl,pyh,pzl,pzh,time,step,tl,th,fl,fh,dxl,dxh,dyl,dyh,dzl,dzh,.slice A n c,dl,dh]),(qb+1,38,iC [st,axl,axh,ayl,ayh,azl,azh,bxl,bxh,byl,byh,bzl,bzh,sml,smh]),(qb+1+1,38,(if k≤2 then iC [o1l,o9l,o9h,o15l,o15h,o21l,o21h,o11l,o11h,o17l,o17h,o23l,o23h,0,0] else iC [o1l,o9l,o9h,o15l,o15h,o21l,o21h,o11l,o11h,o17l,o17h,o23l,o23h,o25l,o25h])),(qb+1+1+1,58,iC [0,0,0,0,0,0,0,0,0,0,0,0,0,0,0,0]),(g1,153,#[(match k with | 0=>.int .i64 e23 | 1=>.int .i64 e24 | 2=>.int .i64 e25 | _=>.int .i64 e25)]),(g10,31,iC [o1l,o1h]),(g14,31,iC [ql,qh]),(g18_10,31,iC [o3l,o3h]),(g23,208,iC [axl,axh,ayl,ayh,azl,azh,bxl,bxh,byl,byh,bzl,bzh]),(g29,208,iC [bpxl,bpxh,bpyl,bpyh,bpzl,bpzh,bvxl,bvxh,bvyl,bvyh,bvzl,bvzh]),(g35,34,iC [fxl,fxh,fyl,fyh,fzl,fzh]),(g41,31,iC [h,h]),(g51,31,iC [o5l,o5h])]) (rV [.pointer (some ⟨g1,0,none⟩),.pointer (some ⟨qb+1,13,none⟩),.agg #[sml,smh],.pointer (some ⟨g1,0,none⟩),.agg #[.int .i64 h,.int .i64 h],.pointer (some ⟨qb,14,none⟩),.pointer (some ⟨qb,18,none⟩),.agg #[fl,fh],.agg #[o24l,o24h],.agg #[o25l,o25h],.pointer (some ⟨qb+1+1,13,none⟩)]) [] HF63.out ?_ ?_
           ·refine ⟨?_,?_,?_,?_,?_,?_,?_,?_,?_,?_,?_,?_,trivial⟩
            all_goals intro a w1 vs dn k K S hpre KE DE kk
            ·have e9:=KE 9;go_simp;exact kk _ _
            ·have e4:=KE 4;go_simp;exact kk _ _
            ·exact oM (eT (dep (DE 1 148))) (S.fr.left.get 1 rfl) (kk _ _)
            ·have e9:=KE 9;go_simp;exact kk _ _
            ·exact oM (eT (KE 17)) (S.fr.left.get 11 rfl) (kk _ _)
            ·have e3:=KE 3;go_simp;exact kk _ _
            ·have e152:=dep (DE 5 152);go_simp;exact kk _ _
            ·exact oM (eT (dep (DE 6 153))) (S.fr.left.get 0 rfl) (kk _ _)
            ·subst hpre;have e150:=dep (DE 3 150);have e151:=dep (DE 4 151);have e154:=dep (DE 7 154);exact oD rfl (K24.out g1 w1 (S.fr.left.get 4 rfl)) (by simp [Act.eval,e150,e151,e154]) fun w' hb=>kk _ _ (by simp) (Fr.stage (S.fr.turn 4 rfl hb) (by exact trivial))
            ·subst hpre;have e147:=dep (DE 0 147);have e149:=dep (DE 2 149);have e155:=dep (DE 8 155);exact oD rfl (K25.out g1 w1 (S.fr.left.get 4 rfl)) (by simp [Act.eval,e147,e149,e155]) fun w' hb=>kk _ _ (by simp) (Fr.stage (S.fr.turn 4 rfl hb) (by exact trivial))
            ·have e6:=KE 6;go_simp;exact kk _ _
            ·subst hpre;exact oS (eT (dep (DE 10 157))) (eT (dep (DE 9 156))) (gI (S.hi 2 11 rfl rfl) (S.fr.left.get 2 rfl)) (iC [o1l,o9l,o9h,o15l,o15h,o21l,o21h,o11l,o11h,o17l,o17h,o23l,o23h,o25l,o25h]) i_span fun w' hk ho=>kk _ _ (by simp) (Fr.stage (S.fr.only 2 rfl ho hk) (by exact trivial))
           ·intro vs w64 HFr HR;have HF64:=fW HFr;clear HFr HR;simp only [putAll,Act.put,List.setIfInBounds_toArray,List.set_cons_zero,List.set_cons_succ];by_cases he:e25=0
            ·subst he;have HR:=HOO.out _ _ _ HT.out;replace HR:=hZ HR;clear HT HLA HOO;have c65:=cA (gN HF64 4) 0;go_upto_region 26 with (fail);clear c65;refine wrf [.p,.p,.p,.p,.p,.p,.p,.p,.p,.p,.p,.p,.p,.p,.p,.p,.p,.c 0,.c 1,.p] [17,18] [] (fun _=>[]) (fun k=>[(qb,160,#[mul,muh,rl,rh,ol,oh,sl,sh,pxl,pxh,pyl,pyh,pzl,pzh,time,step,tl,th,fl,fh,dxl,dxh,dyl,dyh,dzl,dzh,.slice A n c,dl,dh]),(qb+1,38,iC [st,axl,axh,ayl,ayh,azl,azh,bxl,bxh,byl,byh,bzl,bzh,sml,smh]),(qb+1+1,38,iC [o1l,o9l,o9h,o15l,o15h,o21l,o21h,o11l,o11h,o17l,o17h,o23l,o23h,o25l,o25h]),(qb+1+1+1,58,(if k≤1 then iC [0,0,0,0,0,0,0,0,0,0,0,0,0,0,0,0] else iC [min st o1l,max st o1l,bpxl,bpxh,bpyl,bpyh,bpzl,bpzh,bvxl,bvxh,bvyl,bvyh,bvzl,bvzh,o3l,o3h])),(g1,153,iC [0]),(g10,31,iC [o1l,o1h]),(g14,31,iC [ql,qh]),(g18_10,31,iC [o3l,o3h]),(g23,208,iC [axl,axh,ayl,ayh,azl,azh,bxl,bxh,byl,byh,bzl,bzh]),(g29,208,iC [bpxl,bpxh,bpyl,bpyh,bpzl,bpzh,bvxl,bvxh,bvyl,bvyh,bvzl,bvzh]),(g35,34,iC [fxl,fxh,fyl,fyh,fzl,fzh]),(g41,31,iC [h,h]),(g51,31,iC [o5l,o5h])]) (rM [(0,.agg #[o1l,o9l,o9h,o15l,o15h,o21l,o21h,o11l,o11h,o17l,o17h,o23l,o23h,o25l,o25h]),(1,.pointer (some ⟨qb+1,0,none⟩)),(2,.int .i64 st),(3,.pointer (some ⟨g10,0,none⟩)),(4,.int .i64 o1l),(5,.int .i64 (min st o1l)),(6,.pointer (some ⟨qb+1,0,none⟩)),(7,.int .i64 st),(8,.pointer (some ⟨g10,0,none⟩)),(9,.int .i64 o1l),(10,.int .i64 (max st o1l)),(11,.agg #[bpxl,bpxh,bpyl,bpyh,bpzl,bpzh,bvxl,bvxh,bvyl,bvyh,bvzl,bvzh]),(12,.agg #[bpxl,bpxh,bpyl,bpyh,bpzl,bpzh]),(13,.agg #[bpxl,bpxh,bpyl,bpyh,bpzl,bpzh,bvxl,bvxh,bvyl,bvyh,bvzl,bvzh]),(14,.agg #[bvxl,bvxh,bvyl,bvyh,bvzl,bvzh]),(15,.agg #[o3l,o3h]),(16,.agg #[.int .i64 (min st o1l),.int .i64 (max st o1l),bpxl,bpxh,bpyl,bpyh,bpzl,bpzh,bvxl,bvxh,bvyl,bvyh,bvzl,bvzh,o3l,o3h]),(19,.int .i64 0)]) [] HF64.out ?_ ?_
             ·refine ⟨?_,?_,?_,?_,?_,?_,?_,?_,?_,?_,?_,?_,?_,?_,?_,?_,?_,?_,?_,?_,trivial⟩
              all_goals intro a w1 vs dn k K S hpre KE DE kk
              ·exact oL (eT (KE 6)) (S.fr.left.get 2 rfl) u_38 (kk _ _) i_38
              ·have e4:=KE 4;go_simp;exact kk _ _
              ·have e170:=dep (DE 1 170);have ca:w1.cell? ⟨qb+1,0,none⟩=some (.int .i64 st):=(S.fr.left.get 1 rfl).cell 0;go_simp;exact kk _ _
              ·have e10:=KE 10;go_simp;exact kk _ _
              ·have e172:=dep (DE 3 172);have ca:w1.cell? ⟨g10,0,none⟩=some (.int .i64 o1l):=(S.fr.left.get 5 rfl).cell 0;go_simp;exact kk _ _
              ·have e171:=dep (DE 2 171);have e173:=dep (DE 4 173);go_simp;exact kk _ _
              ·have e4:=KE 4;go_simp;exact kk _ _
              ·have e175:=dep (DE 6 175);have ca:w1.cell? ⟨qb+1,0,none⟩=some (.int .i64 st):=(S.fr.left.get 1 rfl).cell 0;go_simp;exact kk _ _
              ·have e10:=KE 10;go_simp;exact kk _ _
              ·have e177:=dep (DE 8 177);have ca:w1.cell? ⟨g10,0,none⟩=some (.int .i64 o1l):=(S.fr.left.get 5 rfl).cell 0;go_simp;exact kk _ _
              ·have e176:=dep (DE 7 176);have e178:=dep (DE 9 178);go_simp;exact kk _ _
              ·exact oL (eT (KE 14)) (S.fr.left.get 9 rfl) u_208 (kk _ _) i_208
              ·have e180:=dep (DE 11 180);exact oE rfl (HPLA.out w1) (by simp [Act.eval,e180]) @kk
              ·exact oL (eT (KE 14)) (S.fr.left.get 9 rfl) u_208 (kk _ _) i_208
              ·have e182:=dep (DE 13 182);exact oE rfl (HSPE.out w1) (by simp [Act.eval,e182]) @kk
              ·exact oM (eT (KE 12)) (S.fr.left.get 7 rfl) (kk _ _)
              ·have e174:=dep (DE 5 174);have e179:=dep (DE 10 179);have e181:=dep (DE 12 181);have e183:=dep (DE 14 183);have e184:=dep (DE 15 184);go_simp;exact kk _ _
              ·subst hpre;exact oW (eT (KE 6)) (eT (dep (DE 0 169))) (S.fr.left.get 2 rfl) i_38 fun w' hk ho=>kk _ _ (by simp) (Fr.stage (S.fr.only 2 rfl ho hk) (by exact trivial))
              ·subst hpre;exact oW (eT (KE 7)) (eT (dep (DE 16 185))) (gI (S.hi 1 18 rfl rfl) (S.fr.left.get 3 rfl)) i_58 fun w' hk ho=>kk _ _ (by simp) (Fr.stage (S.fr.only 3 rfl ho hk) (by exact trivial))
              ·go_simp;exact kk _ _
             ·intro vs w66 HFr HR;have v19:vs 19=.int .i64 0:=HR 19 _ rfl;have HF66:=fW HFr;clear HFr HR;simp only [putAll,Act.put,List.setIfInBounds_toArray,List.set_cons_zero,List.set_cons_succ,v19];clear v19;go_wp2_with fail
              refine ret_agg3 rfl rfl rfl (HF66.out.get 2 rfl) rfl (HF66.out.get 3 rfl) rfl u_38 rfl i_38 u_58 rfl i_58 ?_
              exact HFIN.out _ ⟨o1l,⟨⟨o9l,o9h⟩,⟨o15l,o15h⟩,⟨o21l,o21h⟩⟩,⟨⟨o11l,o11h⟩,⟨o17l,o17h⟩,⟨o23l,o23h⟩⟩,⟨o25l,o25h⟩⟩ ⟨min st o1l,max st o1l,⟨⟨bpxl,bpxh⟩,⟨bpyl,bpyh⟩,⟨bpzl,bpzh⟩⟩,⟨⟨bvxl,bvxh⟩,⟨bvyl,bvyh⟩,⟨bvzl,bvzh⟩⟩,⟨o3l,o3h⟩⟩ 0 HR.out HF66.out.drop
            ·have hb5:(e25 != 0)=true:=by simpa using he
             have HR:=HLA.out _ _ HT.out he;replace HR:=hZ HR;clear HT HLA HOO he;have c65:=cA (gN HF64 4) 0;go_upto_region 25 with (fail);clear c65;refine wrf [.p,.p,.p,.p,.p,.p,.c 0,.c 1,.p] [6,7] [] (fun _=>[]) (fun k=>[(qb,160,#[mul,muh,rl,rh,ol,oh,sl,sh,pxl,pxh,pyl,pyh,pzl,pzh,time,step,tl,th,fl,fh,dxl,dxh,dyl,dyh,dzl,dzh,.slice A n c,dl,dh]),(qb+1,38,iC [st,axl,axh,ayl,ayh,azl,azh,bxl,bxh,byl,byh,bzl,bzh,sml,smh]),(qb+1+1,38,(if k≤0 then iC [o1l,o9l,o9h,o15l,o15h,o21l,o21h,o11l,o11h,o17l,o17h,o23l,o23h,o25l,o25h] else iC [0,0,0,0,0,0,0,0,0,0,0,0,0,0,0])),(qb+1+1+1,58,iC [0,0,0,0,0,0,0,0,0,0,0,0,0,0,0,0]),(g1,153,iC [e25]),(g10,31,iC [o1l,o1h]),(g14,31,iC [ql,qh]),(g18_10,31,iC [o3l,o3h]),(g23,208,iC [axl,axh,ayl,ayh,azl,azh,bxl,bxh,byl,byh,bzl,bzh]),(g29,208,iC [bpxl,bpxh,bpyl,bpyh,bpzl,bpzh,bvxl,bvxh,bvyl,bvyh,bvzl,bvzh]),(g35,34,iC [fxl,fxh,fyl,fyh,fzl,fzh]),(g41,31,iC [h,h]),(g51,31,iC [o5l,o5h])]) (rM [(0,.agg #[(0:Int),(0:Int),(0:Int),(0:Int),(0:Int),(0:Int),(0:Int),(0:Int),(0:Int),(0:Int),(0:Int),(0:Int),(0:Int),(0:Int),(0:Int)]),(1,.agg #[(0:Int),(0:Int),(0:Int),(0:Int),(0:Int),(0:Int),(0:Int),(0:Int),(0:Int),(0:Int),(0:Int),(0:Int),(0:Int),(0:Int),(0:Int),(0:Int)]),(2,.pointer (some ⟨g1,0,none⟩)),(3,.pointer (some ⟨g1,0,none⟩)),(4,.pointer (some ⟨g1,0,none⟩)),(5,.int .i64 e25),(8,.int .i64 e25)]) [] HF64.out ?_ ?_
             ·refine ⟨?_,?_,?_,?_,?_,?_,?_,?_,?_,trivial⟩
              all_goals intro a w1 vs dn k K S hpre KE DE kk
              ·go_simp;exact kk _ _
              ·go_simp;exact kk _ _
              ·have e9:=KE 9;go_simp;exact kk _ _
              ·have e165:=dep (DE 2 165);go_simp;exact kk _ _
              ·have e166:=dep (DE 3 166);go_simp;exact kk _ _
              ·have e167:=dep (DE 4 167);have ca:w1.cell? ⟨g1,0,none⟩=some (.int .i64 e25):=(S.fr.left.get 4 rfl).cell 0;go_simp;exact kk _ _
              ·subst hpre;exact oW (eT (KE 6)) (eT (dep (DE 0 163))) (gI (S.hi 0 6 rfl rfl) (S.fr.left.get 2 rfl)) i_38 fun w' hk ho=>kk _ _ (by simp) (Fr.stage (S.fr.only 2 rfl ho hk) (by exact trivial))
              ·subst hpre;exact oW (eT (KE 7)) (eT (dep (DE 1 164))) (S.fr.left.get 3 rfl) i_58 fun w' hk ho=>kk _ _ (by simp) (Fr.stage (S.fr.only 3 rfl ho hk) (by exact trivial))
              ·have e168:=dep (DE 5 168);go_simp;exact kk _ _
             ·intro vs w66 HFr HR;have v8:vs 8=.int .i64 e25:=HR 8 _ rfl;have HF66:=fW HFr;clear HFr HR;simp only [putAll,Act.put,List.setIfInBounds_toArray,List.set_cons_zero,List.set_cons_succ,v8];clear v8;go_wp2_with fail
              refine ret_agg3 rfl rfl rfl (HF66.out.get 2 rfl) rfl (HF66.out.get 3 rfl) rfl u_38 rfl i_38 u_58 rfl i_58 ?_
              exact HFIN.out _ noSt noTb e25 HR.out HF66.out.drop
  ·rw [if_neg he3] at HM4;have hb3:(e3 == 0)=false:=by simpa using he3
   have H120:=fun cb w1 h1 h2 h3=>HTUB.out ⟨o3l,o3h⟩ cb e3 w1 h1 h2 HW3.out h3 _ _ _ (HTB.out _ e3 he3);have HR:=HBAD.out _ _ _ HM4 _ _ _ (HTB.out _ e3 he3) rfl;rw [if_neg he3] at HR;clear he3;simp only [Bool.false_and] at H120;try dsimp only at H120
   replace H120:=hZ H120;replace HR:=hZ HR;clear HTUB HTB HBAD HLAT HOK HM4 HTW HFO HFW HTL;have c19:=cA (gN HF18 4) 0;go_wp2_with (first
     | (refine lF (gN HF18 1) #[axl,axh,ayl,ayh,azl,azh] u_34 i_34 ?_)
     | (refine lF (gN HF18 1) #[bxl,bxh,byl,byh,bzl,bzh] u_34 i_34 ?_))
   clear c19;refine mB HF18.out (HOX.out _) fun w20 HF21=>?_;obtain ⟨g22,w22,hg22,hw22,HF23⟩:=fA HF21.out #[(0:Int),(0:Int),(0:Int),(0:Int),(0:Int),(0:Int),(0:Int),(0:Int),(0:Int),(0:Int),(0:Int),(0:Int)] 208;go_wp2_with (first
     | (refine lF (gN HF25 0) #[mul,muh,rl,rh,ol,oh,sl,sh,pxl,pxh,pyl,pyh,pzl,pzh,time,step,tl,th,fl,fh,dxl,dxh,dyl,dyh,dzl,dzh,.slice A n c,dl,dh] u_160 i_160 ?_)
     | (refine lF (gN HF25 8) #[axl,axh,ayl,ayh,azl,azh,bxl,bxh,byl,byh,bzl,bzh] u_208 i_208 ?_)
     | (refine lS (gN HF25 6) ql qh ?_)
     | (refine lS (gN HF25 7) o3l o3h ?_)
     | (refine sW 8 HF23.out i_208 fun w24 HF25=>?_;clear hw22 hg22))
   refine (H120.out g1 _ (HF25.out.ge 4 rfl) HF25.out.toBelow (HF25.out.get 4 rfl)).mono ?_
   rintro e w26 ⟨rfl,hw⟩;have HF27:=fN (HF25.out.turn 4 rfl hw);clear hw;obtain ⟨g28,w28,hg28,hw28,HF29⟩:=fA HF27.out #[(0:Int),(0:Int),(0:Int),(0:Int),(0:Int),(0:Int),(0:Int),(0:Int),(0:Int),(0:Int),(0:Int),(0:Int)] 208;go_upto_region 12 with (refine sW 9 HF29.out i_208 fun w30 HF31=>?_;clear hw28 hg28;have c32:=cA (gN HF31 4) 0)
   clear c32;refine wrf [.p,.p,.p,.p,.p,.p,.c 0,.c 1,.p] [6,7] [] (fun _=>[]) (fun _=>_) (rM [(0,.agg #[(0:Int),(0:Int),(0:Int),(0:Int),(0:Int),(0:Int),(0:Int),(0:Int),(0:Int),(0:Int),(0:Int),(0:Int),(0:Int),(0:Int),(0:Int)]),(1,.agg #[(0:Int),(0:Int),(0:Int),(0:Int),(0:Int),(0:Int),(0:Int),(0:Int),(0:Int),(0:Int),(0:Int),(0:Int),(0:Int),(0:Int),(0:Int),(0:Int)]),(2,.pointer (some ⟨g1,0,none⟩)),(3,.pointer (some ⟨g1,0,none⟩)),(4,.pointer (some ⟨g1,0,none⟩)),(5,.int .i64 e3),(8,.int .i64 e3)]) [] HF31.out ?_ ?_
   ·refine ⟨?_,?_,?_,?_,?_,?_,?_,?_,?_,trivial⟩
    all_goals intro a w1 vs dn k K S hpre KE DE kk
    ·go_simp;exact kk _ _
    ·go_simp;exact kk _ _
    ·have e9:=KE 9;go_simp;exact kk _ _
    ·have e83:=dep (DE 2 83);go_simp;exact kk _ _
    ·have e84:=dep (DE 3 84);go_simp;exact kk _ _
    ·have e85:=dep (DE 4 85);have ca:w1.cell? ⟨g1,0,none⟩=some (.int .i64 e3):=(S.fr.left.get 4 rfl).cell 0;go_simp;exact kk _ _
    ·subst hpre;exact oW (eT (KE 6)) (eT (dep (DE 0 81))) (S.fr.left.get 2 rfl) i_38 fun w' hk ho=>kk _ _ (by simp) (Fr.stage (S.fr.only 2 rfl ho hk) (by exact trivial))
    ·subst hpre;exact oW (eT (KE 7)) (eT (dep (DE 1 82))) (S.fr.left.get 3 rfl) i_58 fun w' hk ho=>kk _ _ (by simp) (Fr.stage (S.fr.only 3 rfl ho hk) (by exact trivial))
    ·have e86:=dep (DE 5 86);go_simp;exact kk _ _
   ·intro vs w33 HFr HR;have v8:vs 8=.int .i64 e3:=HR 8 _ rfl;have HF33:=fW HFr;clear HFr HR;simp only [putAll,Act.put,List.setIfInBounds_toArray,List.set_cons_zero,List.set_cons_succ,v8];clear v8;go_wp2_with fail
    refine ret_agg3 rfl rfl rfl (HF33.out.get 2 rfl) rfl (HF33.out.get 3 rfl) rfl u_38 rfl i_38 u_58 rfl i_58 ?_
    exact HFIN.out _ noSt noTb e3 (HR.out) HF33.out.drop
end Go.Proofs.YtmkoegljnebdiaaGreat
