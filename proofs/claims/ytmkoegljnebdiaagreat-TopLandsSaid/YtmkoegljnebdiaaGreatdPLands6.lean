/- What is proved: the texts Fi, one behind the other; each says at its head what it proves, and under which conditions. -/
import Derived.Test.YtmkoegljnebdiaaGreatdPLands5
namespace Go.Proofs.YtmkoegljnebdiaaGreat
open Go.RowKit
set_option maxRecDepth 100000
set_option maxHeartbeats 16000000

section
variable {P:Program}
theorem results_ccT {fn:Func} {p u r:Tmp} {ty ty2:TypeId} (h:fn.results=#[.cell p ty,.cell r ty2,.tmp u]) (tmps:Array Value) (w:World) (g g2:Nat) (t t2:TypeId) (cs cs2:Array Value) (d d2:TypeDesc)
  (hp:tmps.getD p undef=.pointer (some ⟨g,0,none⟩)) (hg:Bk w g t cs) (hp2:tmps.getD r undef=.pointer (some ⟨g2,0,none⟩)) (hg2:Bk w g2 t2 cs2)
  (hu:P.underlying ty=some d) (hd:(match d with | .struct _ | .array _ _=>true | _=>false)=true) (hi:(P.info? ty).map (·.size)=some cs.size)
  (hu2:P.underlying ty2=some d2) (hd2:(match d2 with | .struct _ | .array _ _=>true | _=>false)=true) (hi2:(P.info? ty2).map (·.size)=some cs2.size) :
  (results fn tmps).run P w=.ok (.tuple #[.agg cs,.agg cs2,tmps.getD u undef]) w:=by
 have hl:=run_loadVar_at (P:=P) w g 0 ty cs d (fun j v hj=>by rw [Nat.zero_add,hg.cell];exact hj) hu hd hi
 have hl2:=run_loadVar_at (P:=P) w g2 0 ty2 cs2 d2 (fun j v hj=>by rw [Nat.zero_add,hg2.cell];exact hj) hu2 hd2 hi2
 have hp':tmps[p]?.getD undef=.pointer (some ⟨g,0,none⟩):=by simpa using hp
 have hp2':tmps[r]?.getD undef=.pointer (some ⟨g2,0,none⟩):=by simpa using hp2
 simp [results,h,hp',hp2',asAddr,hl,hl2]
theorem ret_agg3 {fn:Func} {p r u:Tmp} {ty ty2:TypeId} (h:fn.results=#[.cell p ty,.cell r ty2,.tmp u]) {a:Act} (ha:a.defers=[]) {w:World} {g g2:Nat} {t t2:TypeId} {cs cs2:Array Value} {d d2:TypeDesc} {v:Value} {Q:Ending→World→Prop}
  (hp:a.tmps.getD p undef=.pointer (some ⟨g,0,none⟩)) (hk:Bk w g t cs) (hp2:a.tmps.getD r undef=.pointer (some ⟨g2,0,none⟩)) (hk2:Bk w g2 t2 cs2) (hv:a.tmps.getD u undef=v)
  (hu:P.underlying ty=some d) (hd:(match d with | .struct _ | .array _ _=>true | _=>false)=true) (hi:(P.info? ty).map (·.size)=some cs.size)
  (hu2:P.underlying ty2=some d2) (hd2:(match d2 with | .struct _ | .array _ _=>true | _=>false)=true) (hi2:(P.info? ty2).map (·.size)=some cs2.size)
  (hQ:Q (.returned (.tuple #[.agg cs,.agg cs2,v])) w):bodyPost P fn Q .ret a w :=
 bodyPost_ret (v:=.tuple #[.agg cs,.agg cs2,v]) (by subst hv;exact results_ccT h _ _ g g2 t t2 cs cs2 d d2 hp hk hp2 hk2 hu hd hi hu2 hd2 hi2) ha hQ
end
/-- From 0 to h. -/
def dS (h:Int):SpanD:=⟨min h 0,max h 0⟩
def massM (a:ArcD) (s:StateD) (h:Int):CM (SpanD × SpanD):=(addM (ptS s.t) (ptS h)).bnd fun en=>(mulM a.flow (dS h)).bnd fun fl=>(subM s.m fl).bnd fun ms=>fun e=>((en,ms),if e=0 then (if ms.lo≤0 then 4 else 0) else e)
def nextM (long half p v f:SpanD):CM (SpanD × SpanD):=(mulM long v).bnd fun a1=>(addM p a1).bnd fun a2=>(mulM half f).bnd fun a3=>(addM a2 a3).bnd fun p2=>(mulM long f).bnd fun b1=>(addM v b1).bnd fun v2=>CM.ret (p2,v2)
def tailM (a:ArcD) (s:StateD) (h:Int) (f:BoxD):CM (BoxD × BoxD × SpanD):=(mulM (ptS h) (ptS h)).bnd fun ll=>(divM ll (wholeS 2)).bnd fun half=>(nextM (ptS h) half s.p.x s.v.x f.x).bnd fun x=>(nextM (ptS h) half s.p.y s.v.y f.y).bnd fun y=>(nextM (ptS h) half s.p.z s.v.z f.z).bnd fun z =>
 (mulM (ptS h) a.flow).bnd fun fl=>(subM s.m fl).bnd fun m=>CM.ret (⟨x.1,y.1,z.1⟩,⟨x.2,y.2,z.2⟩,m)
def zeroB3:BoxD:=⟨zeroS,zeroS,zeroS⟩
def noSt:StateD:=⟨0,zeroB3,zeroB3,zeroS⟩
def noTb:TubeD:=⟨0,0,zeroB3,zeroB3,zeroS⟩
/-- A step, behind its mass. -/
def stepT (F:SixD→SpanD→CM BoxD) (a:ArcD) (s:StateD) (h:Int) (en ms:SpanD) (e:Int):(StateD × TubeD) × Int :=
 if ((tubeK F ⟨s.p,s.v⟩ (dS h) ms 8 ⟨s.p,s.v⟩ e).1.2 && decide ((tubeK F ⟨s.p,s.v⟩ (dS h) ms 8 ⟨s.p,s.v⟩ e).2=0))=true then
  (if (((F (tubeK F ⟨s.p,s.v⟩ (dS h) ms 8 ⟨s.p,s.v⟩ e).1.1 ms).bnd (tailM a s h)) 0).2=0 then
   ((⟨en.lo,(((F (tubeK F ⟨s.p,s.v⟩ (dS h) ms 8 ⟨s.p,s.v⟩ e).1.1 ms).bnd (tailM a s h)) 0).1.1,(((F (tubeK F ⟨s.p,s.v⟩ (dS h) ms 8 ⟨s.p,s.v⟩ e).1.1 ms).bnd (tailM a s h)) 0).1.2.1,(((F (tubeK F ⟨s.p,s.v⟩ (dS h) ms 8 ⟨s.p,s.v⟩ e).1.1 ms).bnd (tailM a s h)) 0).1.2.2⟩,
    ⟨min s.t en.lo,max s.t en.lo,(tubeK F ⟨s.p,s.v⟩ (dS h) ms 8 ⟨s.p,s.v⟩ e).1.1.p,(tubeK F ⟨s.p,s.v⟩ (dS h) ms 8 ⟨s.p,s.v⟩ e).1.1.v,ms⟩),0)
  else ((noSt,noTb),(((F (tubeK F ⟨s.p,s.v⟩ (dS h) ms 8 ⟨s.p,s.v⟩ e).1.1 ms).bnd (tailM a s h)) 0).2))
 else ((noSt,noTb),if (tubeK F ⟨s.p,s.v⟩ (dS h) ms 8 ⟨s.p,s.v⟩ e).2=0 then 9 else (tubeK F ⟨s.p,s.v⟩ (dS h) ms 8 ⟨s.p,s.v⟩ e).2)
def stepF (F:SixD→SpanD→CM BoxD) (a:ArcD) (s:StateD) (h:Int):(StateD × TubeD) × Int:=stepT F a s h (massM a s h 0).1.1 (massM a s h 0).1.2 (massM a s h 0).2
theorem reached_sticky (x:SixD) (d:SpanD) (v f:BoxD):Sticky (reachedM x d v f):=by
 unfold reachedM
 exact (eachM_sticky (fun _ _=>doM_sticky _ _ _) _ _).bnd fun _=>(eachM_sticky (fun _ _=>doM_sticky _ _ _) _ _).bnd fun _=>(eachM_sticky (fun _ _=>doM_sticky _ _ _) _ _).bnd fun _=>(eachM_sticky (fun _ _=>doM_sticky _ _ _) _ _).bnd fun _=>Sticky.ret _
theorem tube_sticky {F:SixD→SpanD→CM BoxD} (hF:∀ x m,Sticky (F x m)) (x:SixD) (d m:SpanD) (n:Nat) (b:SixD) {e:Int} (he:e ≠ 0):tubeK F x d m (n+1) b e=((b,false),e):=by
 have h1:=hF b m e he
 have h2:=reached_sticky x d b.v (F b m e).1 (F b m e).2 (by rw [h1];exact he)
 rw [h1] at h2
 rw [tubeK,h1,h2,if_pos he]
def I64W (s:StateD):Prop:=I64 s.t∧WdB s.p∧WdB s.v∧WdS s.m
theorem wd_dS {h:Int} (hh:I64 h):WdS (dS h):=by
 unfold I64 at hh
 unfold dS WdS
 dsimp only
 omega
theorem wd_tubeK {F:SixD→SpanD→CM BoxD} {x:SixD} {d m:SpanD}:∀ n b e,WdX b→WdX (tubeK F x d m n b e).1.1
 | 0,_,_,h=>h
 | n+1,b,e,h=>by
  rw [tubeK]
  split
  ·exact h
  ·split
   ·exact wd_reached _ _ _ _ _
   ·exact wd_tubeK n _ _ (wd_widened h _ _)
theorem wholeS2:wholeS 2=⟨8589934592,8589934592⟩:=rfl
theorem wd_whole2:WdS ⟨8589934592,8589934592⟩:=by unfold WdS;decide
theorem step_any (F:SixD→SpanD→CM BoxD) (p:PlanetD) (a:ArcD) (A:Option Addr) (n c:Nat) (s:StateD) (h:Int) (hs:I64W s) (hfl:WdS a.flow) (hh:I64 h) (w:World)
  (hF:∀ cb e x m w',w.heap.size≤cb→Below w.heap.size w w'→WdX x→WdS m→Bk w' cb 153 #[.int .i64 e]→Calls Tryz.prog 121 #[modelV p a A n c,.pointer (some ⟨cb,0,none⟩),sixV x,spanV m] w' (CkBox cb (F x m e) w'))
  (hFw:∀ x m e,WdB (F x m e).1) (hFs:∀ x m,Sticky (F x m)) :
  Calls Tryz.prog 62 #[modelV p a A n c,stateV s,.int .i64 h] w fun v w' =>
   v=.returned (.tuple #[stateV (stepF F a s h).1.1,tubeV (stepF F a s h).1.2,.int .i64 (stepF F a s h).2])∧Below w.heap.size w w':=by
 obtain ⟨PQ,hPQ⟩:∃ Q:Ending→World→Prop,(fun v w'=>v=.returned (.tuple #[stateV (stepF F a s h).1.1,tubeV (stepF F a s h).1.2,.int .i64 (stepF F a s h).2])∧Below w.heap.size w w')=Q:=⟨_,rfl⟩
 have HFIN:Hid (∀ w' S t e,stepF F a s h=((S,t),e)→Fr w [] [] w'→PQ (.returned (.tuple #[stateV S,tubeV t,.int .i64 e])) w'):=Lib.hid fun w' S t e hr hf=>by
  rw [← hPQ,hr];exact ⟨rfl,hf.toBelow⟩
 rw [hPQ]
 have hsx:WdX ⟨s.p,s.v⟩:=⟨hs.2.1,hs.2.2.1⟩
 have hd:=wd_dS hh
 have hph:=wd_pt hh
 have HTUB:Hid (∀ ms cb e w1,w.heap.size≤cb→Below w.heap.size w w1→WdS ms→Bk w1 cb 153 #[.int .i64 e]→∀ b q e5,tubeK F ⟨s.p,s.v⟩ (dS h) ms 8 ⟨s.p,s.v⟩ e=((b,q),e5)→Calls Tryz.prog 120 #[modelV p a A n c,.pointer (some ⟨cb,0,none⟩),sixV ⟨s.p,s.v⟩,spanV (dS h),spanV ms] w1 fun v w'=>v=.returned (.tuple #[sixV b,.bool (q && decide (e5=0))])∧Fr w1 [(cb,153,iC [e5])] [] w') :=
  Lib.hid fun ms cb e w1 hcb hb0 hm hk b q e5 ht=>by
   have:=tube_any F w.heap.size p a A n c cb hcb e ⟨s.p,s.v⟩ (dS h) ms hsx hd hm w1 (fun e x w' hb hx hk=>hF cb e x ms w' hcb (hb0.trans hb) hx hm hk) (fun x e=>hFw x ms e) hk
   rw [ht] at this
   exact this
 have HTB:Hid (∀ ms e,e ≠ 0→tubeK F ⟨s.p,s.v⟩ (dS h) ms 8 ⟨s.p,s.v⟩ e=((⟨s.p,s.v⟩,false),e)):=Lib.hid fun ms e he=>tube_sticky hFs _ _ _ 7 _ he
 have HTW:Hid (∀ ms e b q e5,tubeK F ⟨s.p,s.v⟩ (dS h) ms 8 ⟨s.p,s.v⟩ e=((b,q),e5)→WdX b):=Lib.hid fun ms e b q e5 ht=>by
  have:=wd_tubeK (F:=F) (x:=⟨s.p,s.v⟩) (d:=dS h) (m:=ms) 8 ⟨s.p,s.v⟩ e hsx
  rw [ht] at this;exact this
 have HBAD:Hid (∀ en ms e,massM a s h 0=((en,ms),e)→∀ b q e5,tubeK F ⟨s.p,s.v⟩ (dS h) ms 8 ⟨s.p,s.v⟩ e=((b,q),e5)→(q && decide (e5=0))=false→stepF F a s h=((noSt,noTb),if e5=0 then 9 else e5)):=Lib.hid fun en ms e hm b q e5 ht hq=>by
  unfold stepF stepT
  rw [hm];dsimp only;rw [ht];dsimp only;rw [hq,if_neg (by simp)]
 have HLAT:Hid (∀ en ms e,massM a s h 0=((en,ms),e)→∀ b,tubeK F ⟨s.p,s.v⟩ (dS h) ms 8 ⟨s.p,s.v⟩ e=((b,true),0)→∀ f e6,F b ms 0=(f,e6)→∀ r e7,tailM a s h f e6=(r,e7)→e7 ≠ 0→stepF F a s h=((noSt,noTb),e7)):=Lib.hid fun en ms e hm b ht f e6 hf r e7 hr he=>by
  have hb:((F b ms).bnd (tailM a s h)) 0=(r,e7):=by unfold CM.bnd;rw [hf];exact hr
  unfold stepF stepT
  rw [hm];dsimp only;rw [ht];dsimp only;rw [if_pos (by simp),hb];dsimp only;rw [if_neg he]
 have HOK:Hid (∀ en ms e,massM a s h 0=((en,ms),e)→∀ b,tubeK F ⟨s.p,s.v⟩ (dS h) ms 8 ⟨s.p,s.v⟩ e=((b,true),0)→∀ f e6,F b ms 0=(f,e6)→∀ P V M,tailM a s h f e6=((P,V,M),0)→stepF F a s h=((⟨en.lo,P,V,M⟩,⟨min s.t en.lo,max s.t en.lo,b.p,b.v,ms⟩),0)):=Lib.hid fun en ms e hm b ht f e6 hf P V M hr=>by
  have hb:((F b ms).bnd (tailM a s h)) 0=((P,V,M),0):=by unfold CM.bnd;rw [hf];exact hr
  unfold stepF stepT
  rw [hm];dsimp only;rw [ht];dsimp only;rw [if_pos (by simp),hb];dsimp only;rw [if_pos rfl]
 obtain ⟨R,hR⟩:∃ R,stepF F a s h=R:=⟨_,rfl⟩
 rw [hR] at HFIN
 simp only [hR] at HBAD HLAT HOK
 obtain ⟨TK,hTK⟩:∃ T:SpanD→Int→(SixD × Bool) × Int,(fun ms e=>tubeK F ⟨s.p,s.v⟩ (dS h) ms 8 ⟨s.p,s.v⟩ e)=T:=⟨_,rfl⟩
 have hTK':∀ ms e,tubeK F ⟨s.p,s.v⟩ (dS h) ms 8 ⟨s.p,s.v⟩ e=TK ms e:=fun ms e=>by rw [← hTK]
 simp only [hTK'] at HTUB HTB HTW HBAD HLAT HOK
 obtain ⟨TL,hTL⟩:∃ T:BoxD→Int→(BoxD × BoxD × SpanD) × Int,(fun f e=>tailM a s h f e)=T:=⟨_,rfl⟩
 have hTL':∀ f e,tailM a s h f e=TL f e:=fun f e=>by rw [← hTL]
 simp only [hTL'] at HLAT HOK
 have HFO:=Lib.hid hF
 have HFW:=Lib.hid hFw
 obtain ⟨st,⟨⟨axl,axh⟩,⟨ayl,ayh⟩,⟨azl,azh⟩⟩,⟨⟨bxl,bxh⟩,⟨byl,byh⟩,⟨bzl,bzh⟩⟩,⟨sml,smh⟩⟩:=s
 obtain ⟨ht,⟨wpx,wpy,wpz⟩,⟨wvx,wvy,wvz⟩,wm⟩:=hs
 obtain ⟨⟨mul,muh⟩,⟨rl,rh⟩,⟨ol,oh⟩,⟨sl,sh⟩,⟨⟨pxl,pxh⟩,⟨pyl,pyh⟩,⟨pzl,pzh⟩⟩⟩:=p
 obtain ⟨time,step,⟨tl,th⟩,⟨fl,fh⟩,⟨⟨dxl,dxh⟩,⟨dyl,dyh⟩,⟨dzl,dzh⟩⟩,drag,⟨dl,dh⟩⟩:=a
 have wpt:=wd_pt ht
 have k1:min h 0=(dS h).lo:=rfl
 have k2:max h 0=(dS h).hi:=rfl
 have HMA:Hid (∀ o1 e1,addM (ptS st) (ptS h) 0=(o1,e1)→∀ o2 e2,mulM ⟨fl,fh⟩ (dS h) e1=(o2,e2)→∀ o3 e3,subM ⟨sml,smh⟩ o2 e2=(o3,e3)→massM ⟨time,step,⟨tl,th⟩,⟨fl,fh⟩,⟨⟨dxl,dxh⟩,⟨dyl,dyh⟩,⟨dzl,dzh⟩⟩,drag,⟨dl,dh⟩⟩ ⟨st,⟨⟨axl,axh⟩,⟨ayl,ayh⟩,⟨azl,azh⟩⟩,⟨⟨bxl,bxh⟩,⟨byl,byh⟩,⟨bzl,bzh⟩⟩,⟨sml,smh⟩⟩ h 0=((o1,o3),if e3=0 then (if o3.lo≤0 then 4 else 0) else e3)):=Lib.hid fun o1 e1 h1 o2 e2 h2 o3 e3 h3=>by
  unfold massM CM.bnd
  simp only [h1,h2,h3]
 obtain ⟨MM,hMM⟩:∃ M,massM ⟨time,step,⟨tl,th⟩,⟨fl,fh⟩,⟨⟨dxl,dxh⟩,⟨dyl,dyh⟩,⟨dzl,dzh⟩⟩,drag,⟨dl,dh⟩⟩ ⟨st,⟨⟨axl,axh⟩,⟨ayl,ayh⟩,⟨azl,azh⟩⟩,⟨⟨bxl,bxh⟩,⟨byl,byh⟩,⟨bzl,bzh⟩⟩,⟨sml,smh⟩⟩ h 0=M:=⟨_,rfl⟩
 rw [hMM] at HMA
 simp only [hMM] at HBAD HLAT HOK
 have HTL:Hid (∀ f e,tailM ⟨time,step,⟨tl,th⟩,⟨fl,fh⟩,⟨⟨dxl,dxh⟩,⟨dyl,dyh⟩,⟨dzl,dzh⟩⟩,drag,⟨dl,dh⟩⟩ ⟨st,⟨⟨axl,axh⟩,⟨ayl,ayh⟩,⟨azl,azh⟩⟩,⟨⟨bxl,bxh⟩,⟨byl,byh⟩,⟨bzl,bzh⟩⟩,⟨sml,smh⟩⟩ h f e=TL f e):=Lib.hid hTL'
 obtain ⟨⟨ql,qh⟩,hdd⟩:∃ d,dS h=d:=⟨_,rfl⟩
 rw [hdd] at k1 k2 hd HMA HTUB
 dsimp only at k1 k2 HFO HTUB
 have HWHO:Hid (∀ w,Calls Tryz.prog 123 #[.int .i64 2] w fun e w'=>e=.returned (.agg #[.int .i64 8589934592,.int .i64 8589934592])∧Below w.heap.size w w'):=Lib.hid fun w=>whole_any 2 (by decide) w
 have HPT:=Lib.hid (fun n w=>point_any n w)
 unfold modelV stateV
 unfold modelV sixV spanV at HTUB
 unfold modelV spanV at HFO
 dsimp only at HTUB HFO ⊢
 clear hF hFw hFs hsx hh hPQ hR hTK hTK' hTL hTL' hMM hdd ht
 have K1:=fun cb w hk=>cadd_any cb 0 (ptS st) (ptS h) wpt hph w hk
 have W1:=wd_addM (ptS st) (ptS h) 0
 obtain ⟨⟨⟨o1l,o1h⟩,e1⟩,q1⟩:∃ z:SpanD × Int,addM (ptS st) (ptS h) 0=z:=⟨_,rfl⟩
 rw [q1] at K1 W1
 unfold CkPost spanV at K1
 try unfold ptS at K1
 dsimp only at K1
 replace K1:=Lib.hid K1
 have K2:=fun cb w hk=>cmul_any cb e1 ⟨fl,fh⟩ ⟨ql,qh⟩ hfl hd w hk
 have W2:=wd_mulM ⟨fl,fh⟩ ⟨ql,qh⟩ e1
 obtain ⟨⟨⟨o2l,o2h⟩,e2⟩,q2⟩:∃ z:SpanD × Int,mulM ⟨fl,fh⟩ ⟨ql,qh⟩ e1=z:=⟨_,rfl⟩
 rw [q2] at K2 W2
 unfold CkPost spanV at K2
 try unfold ptS at K2
 dsimp only at K2
 replace K2:=Lib.hid K2
 have K3:=fun cb w hk=>csub_any cb e2 ⟨sml,smh⟩ ⟨o2l,o2h⟩ wm W2 w hk
 have W3:=wd_subM ⟨sml,smh⟩ ⟨o2l,o2h⟩ e2
 obtain ⟨⟨⟨o3l,o3h⟩,e3⟩,q3⟩:∃ z:SpanD × Int,subM ⟨sml,smh⟩ ⟨o2l,o2h⟩ e2=z:=⟨_,rfl⟩
 rw [q3] at K3 W3
 unfold CkPost spanV at K3
 try unfold ptS at K3
 dsimp only at K3
 replace K3:=Lib.hid K3
 have HM4:=HMA.out _ _ q1 _ _ q2 _ _ q3
 dsimp only at HM4
 have W3':WdS ⟨o3l,o3h⟩:=W3
 have HW3:=Lib.hid W3'
 clear q1 q2 q3 W1 W2 W3 W3' HMA wpt hd
 obtain ⟨qb,hqb⟩:∃ qb,w.heap.size=qb:=⟨_,rfl⟩
 obtain ⟨W0,hW0⟩:∃ W0,(((w.alloc (.cells #[.int .i64 mul,.int .i64 muh,.int .i64 rl,.int .i64 rh,.int .i64 ol,.int .i64 oh,.int .i64 sl,.int .i64 sh,.int .i64 pxl,.int .i64 pxh,.int .i64 pyl,.int .i64 pyh,.int .i64 pzl,.int .i64 pzh,.int .i64 time,.int .i64 step,.int .i64 tl,.int .i64 th,.int .i64 fl,.int .i64 fh,.int .i64 dxl,.int .i64 dxh,.int .i64 dyl,.int .i64 dyh,.int .i64 dzl,.int .i64 dzh,.slice A n c,.int .i64 dl,.int .i64 dh] 160)).alloc (.cells #[.int .i64 st,.int .i64 axl,.int .i64 axh,.int .i64 ayl,.int .i64 ayh,.int .i64 azl,.int .i64 azh,.int .i64 bxl,.int .i64 bxh,.int .i64 byl,.int .i64 byh,.int .i64 bzl,.int .i64 bzh,.int .i64 sml,.int .i64 smh] 38)).alloc (.cells #[.int .i64 0,.int .i64 0,.int .i64 0,.int .i64 0,.int .i64 0,.int .i64 0,.int .i64 0,.int .i64 0,.int .i64 0,.int .i64 0,.int .i64 0,.int .i64 0,.int .i64 0,.int .i64 0,.int .i64 0] 38)).alloc (.cells #[.int .i64 0,.int .i64 0,.int .i64 0,.int .i64 0,.int .i64 0,.int .i64 0,.int .i64 0,.int .i64 0,.int .i64 0,.int .i64 0,.int .i64 0,.int .i64 0,.int .i64 0,.int .i64 0,.int .i64 0,.int .i64 0] 58)=W0:=⟨_,rfl⟩
 have HF0:Hid (Fr w [] [(qb,160,#[.int .i64 mul,.int .i64 muh,.int .i64 rl,.int .i64 rh,.int .i64 ol,.int .i64 oh,.int .i64 sl,.int .i64 sh,.int .i64 pxl,.int .i64 pxh,.int .i64 pyl,.int .i64 pyh,.int .i64 pzl,.int .i64 pzh,.int .i64 time,.int .i64 step,.int .i64 tl,.int .i64 th,.int .i64 fl,.int .i64 fh,.int .i64 dxl,.int .i64 dxh,.int .i64 dyl,.int .i64 dyh,.int .i64 dzl,.int .i64 dzh,.slice A n c,.int .i64 dl,.int .i64 dh]),(qb+1,38,iC [st,axl,axh,ayl,ayh,azl,azh,bxl,bxh,byl,byh,bzl,bzh,sml,smh]),(qb+1+1,38,iC [0,0,0,0,0,0,0,0,0,0,0,0,0,0,0]),(qb+1+1+1,58,iC [0,0,0,0,0,0,0,0,0,0,0,0,0,0,0,0])] W0):=Lib.hid (by rw [← hW0];exact ((((Fr.start w).alloc (by simp [← hqb]) 160 #[.int .i64 mul,.int .i64 muh,.int .i64 rl,.int .i64 rh,.int .i64 ol,.int .i64 oh,.int .i64 sl,.int .i64 sh,.int .i64 pxl,.int .i64 pxh,.int .i64 pyl,.int .i64 pyh,.int .i64 pzl,.int .i64 pzh,.int .i64 time,.int .i64 step,.int .i64 tl,.int .i64 th,.int .i64 fl,.int .i64 fh,.int .i64 dxl,.int .i64 dxh,.int .i64 dyl,.int .i64 dyh,.int .i64 dzl,.int .i64 dzh,.slice A n c,.int .i64 dl,.int .i64 dh]).alloc (by simp [← hqb]) 38 #[.int .i64 st,.int .i64 axl,.int .i64 axh,.int .i64 ayl,.int .i64 ayh,.int .i64 azl,.int .i64 azh,.int .i64 bxl,.int .i64 bxh,.int .i64 byl,.int .i64 byh,.int .i64 bzl,.int .i64 bzh,.int .i64 sml,.int .i64 smh]).alloc (by simp [← hqb]) 38 #[.int .i64 0,.int .i64 0,.int .i64 0,.int .i64 0,.int .i64 0,.int .i64 0,.int .i64 0,.int .i64 0,.int .i64 0,.int .i64 0,.int .i64 0,.int .i64 0,.int .i64 0,.int .i64 0,.int .i64 0]).alloc (by simp [← hqb]) 58 #[.int .i64 0,.int .i64 0,.int .i64 0,.int .i64 0,.int .i64 0,.int .i64 0,.int .i64 0,.int .i64 0,.int .i64 0,.int .i64 0,.int .i64 0,.int .i64 0,.int .i64 0,.int .i64 0,.int .i64 0,.int .i64 0])
 go_enter Tryz.func62,Tryz.ntmps62
 go_upto_region 1 with (fail)
 clear hW0 hqb
 obtain ⟨g1,hg1⟩:∃ g,W0.heap.size=g:=⟨_,rfl⟩
 obtain ⟨w1,hw1⟩:∃ u,W0.alloc (.cells #[.int .i64 0] 153)=u:=⟨_,rfl⟩
 have HF2:=Lib.hid (frE hw1 (HF0.out.alloc hg1.symm 153 #[.int .i64 0]))
 have c3:w1.cell? ⟨qb+1,0,none⟩=some (.int .i64 st):=(HF2.out.get 1 rfl).cell 0
 go_wp2_with fail
 clear hw1 hg1 c3
 refine (HPT.out st _).mono ?_
 rintro e w4 ⟨rfl,hw⟩
 have HF5:=Lib.hid (HF2.out.below hw)
 clear hw
 go_wp2_with fail
 refine (HPT.out h _).mono ?_
 rintro e w6 ⟨rfl,hw⟩
 have HF7:=Lib.hid (HF5.out.below hw)
 clear hw
 go_wp2_with fail
 refine (K1.out g1 _ (HF7.out.get 4 rfl)).mono ?_
 rintro e w8 ⟨rfl,hw⟩
 have HF9:=Lib.hid (HF7.out.turn 4 rfl hw)
 clear hw
 obtain ⟨g10,hg10⟩:∃ g,w8.heap.size=g:=⟨_,rfl⟩
 obtain ⟨w10,hw10⟩:∃ u,w8.alloc (.cells #[.int .i64 0,.int .i64 0] 31)=u:=⟨_,rfl⟩
 have HF11:=Lib.hid (frE hw10 (HF9.out.alloc hg10.symm 31 #[.int .i64 0,.int .i64 0]))
 go_upto_region 4 with (first
   | (refine wpStoreF rfl rfl 31 _ _ rfl g10 0 rfl #[.int .i64 o1l,.int .i64 o1h] rfl _ _ (iC [o1l,o1h]) (HF11.out.get 5 rfl) rfl (by show 0+2≤2;omega) (one_all rfl) info_span ?_;intro w12 hk ho;clear hw10 hg10;have HF13:=Lib.hid (HF11.out.only 5 rfl ho hk);clear ho hk;obtain ⟨g14,hg14⟩:∃ g,w12.heap.size=g:=⟨_,rfl⟩;obtain ⟨w14,hw14⟩:∃ u,w12.alloc (.cells #[.int .i64 0,.int .i64 0] 31)=u:=⟨_,rfl⟩;have HF15:=Lib.hid (frE hw14 (HF13.out.alloc hg14.symm 31 #[.int .i64 0,.int .i64 0])))
   | (refine wpStoreF rfl rfl 31 _ _ rfl g14 0 rfl #[.int .i64 ql,.int .i64 qh] rfl _ _ (iC [ql,qh]) (HF15.out.get 6 rfl) rfl (by show 0+2≤2;omega) (one_all rfl) info_span ?_;intro w16 hk ho;clear hw14 hg14;have HF17:=Lib.hid (HF15.out.only 6 rfl ho hk);clear ho hk))
 refine wp_region_fr [Kind.p,Kind.p,Kind.p,Kind.p,Kind.p,Kind.p,Kind.p,Kind.p,Kind.c 0,Kind.c 1,Kind.a 0,Kind.c 2] [8,9,11] [(10,31,fun k=>(if k≤2 then iC [0,0] else iC [o3l,o3h]))] w (fun _=>[]) (fun k=>[(qb,160,#[.int .i64 mul,.int .i64 muh,.int .i64 rl,.int .i64 rh,.int .i64 ol,.int .i64 oh,.int .i64 sl,.int .i64 sh,.int .i64 pxl,.int .i64 pxh,.int .i64 pyl,.int .i64 pyh,.int .i64 pzl,.int .i64 pzh,.int .i64 time,.int .i64 step,.int .i64 tl,.int .i64 th,.int .i64 fl,.int .i64 fh,.int .i64 dxl,.int .i64 dxh,.int .i64 dyl,.int .i64 dyh,.int .i64 dzl,.int .i64 dzh,.slice A n c,.int .i64 dl,.int .i64 dh]),(qb+1,38,iC [st,axl,axh,ayl,ayh,azl,azh,bxl,bxh,byl,byh,bzl,bzh,sml,smh]),(qb+1+1,38,iC [0,0,0,0,0,0,0,0,0,0,0,0,0,0,0]),(qb+1+1+1,58,iC [0,0,0,0,0,0,0,0,0,0,0,0,0,0,0,0]),(g1,153,#[(match k with | 0=>.int .i64 e1 | 1=>.int .i64 e2 | 2=>.int .i64 e3 | _=>.int .i64 e3)]),(g10,31,iC [o1l,o1h]),(g14,31,iC [ql,qh])])
    (fun ix u _=>match ix with
     | 0=>u=.pointer (some ⟨g1,0,none⟩)
     | 1=>u=.pointer (some ⟨qb+1,13,none⟩)
     | 2=>u=.agg #[.int .i64 sml,.int .i64 smh]
     | 3=>u=.pointer (some ⟨g1,0,none⟩)
     | 4=>u=.pointer (some ⟨qb,14,none⟩)
     | 5=>u=.pointer (some ⟨qb,18,none⟩)
     | 6=>u=.agg #[.int .i64 fl,.int .i64 fh]
     | 7=>u=.agg #[.int .i64 ql,.int .i64 qh]
     | 8=>u=.agg #[.int .i64 o2l,.int .i64 o2h]
     | 9=>u=.agg #[.int .i64 o3l,.int .i64 o3h]
     | 10=>u=.pointer (some ⟨gOf u,0,none⟩)
     | _=>True)
    (by kernel_rfl) (by kernel_rfl) (by kernel_rfl) [10] rfl (by decide) (by kernel_rfl) (by kernel_rfl) HF17.out ?_ ?_
 ·refine ⟨?_,?_,?_,?_,?_,?_,?_,?_,?_,?_,?_,?_,trivial⟩
  all_goals intro a w1 vs dn k K S hpre KE DE kk
  ·have e9:=KE 9 (by decide)
   go_simp;exact kk _ _ (by simp) bR rfl
  ·have e4:=KE 4 (by decide)
   go_simp;exact kk _ _ (by simp) bR rfl
  ·have e35:=dep (DE 1 _ 35 rfl rfl rfl)
   exact wpo_loadF 31 (.tmp 35) rfl (qb+1) 13 (by simpa [Act.eval] using e35) _ _ (S.fr.left.get 1 rfl) #[.int .i64 sml,.int .i64 smh] rfl _ und_span rfl info_span (kk _ _ (by simp) bR rfl)
  ·have e9:=KE 9 (by decide)
   go_simp;exact kk _ _ (by simp) bR rfl
  ·have e3:=KE 3 (by decide)
   go_simp;exact kk _ _ (by simp) bR rfl
  ·have e38:=dep (DE 4 _ 38 rfl rfl rfl)
   go_simp;exact kk _ _ (by simp) bR rfl
  ·have e39:=dep (DE 5 _ 39 rfl rfl rfl)
   exact wpo_loadF 31 (.tmp 39) rfl qb 18 (by simpa [Act.eval] using e39) _ _ (S.fr.left.get 0 rfl) #[.int .i64 fl,.int .i64 fh] rfl _ und_span rfl info_span (kk _ _ (by simp) bR rfl)
  ·have e11:=KE 11 (by decide)
   exact wpo_loadF 31 (.tmp 11) rfl g14 0 (by simpa [Act.eval] using e11) _ _ (S.fr.left.get 6 rfl) #[.int .i64 ql,.int .i64 qh] rfl _ und_span rfl info_span (kk _ _ (by simp) bR rfl)
  ·subst hpre
   have e37:=dep (DE 3 _ 37 rfl rfl rfl)
   have e40:=dep (DE 6 _ 40 rfl rfl rfl)
   have e41:=dep (DE 7 _ 41 rfl rfl rfl)
   exact wpo_call 118 _ _ rfl #[.pointer (some ⟨g1,0,none⟩),.agg #[.int .i64 fl,.int .i64 fh],.agg #[.int .i64 ql,.int .i64 qh]] (by simp [Act.eval,e37,e40,e41]) (fun args w=>by kernel_rfl)
    ((K2.out g1 w1 (S.fr.left.get 4 rfl)).mono fun e w' ⟨he,hb⟩=>⟨_,he,kk _ _ (by simp) (Fr.stage (S.fr.turn 4 rfl hb) (by exact ⟨rfl,trivial⟩)) rfl⟩)
  ·subst hpre
   have e34:=dep (DE 0 _ 34 rfl rfl rfl)
   have e36:=dep (DE 2 _ 36 rfl rfl rfl)
   have e42:=dep (DE 8 _ 42 rfl rfl rfl)
   exact wpo_call 57 _ _ rfl #[.pointer (some ⟨g1,0,none⟩),.agg #[.int .i64 sml,.int .i64 smh],.agg #[.int .i64 o2l,.int .i64 o2h]] (by simp [Act.eval,e34,e36,e42]) (fun args w=>by kernel_rfl)
    ((K3.out g1 w1 (S.fr.left.get 4 rfl)).mono fun e w' ⟨he,hb⟩=>⟨_,he,kk _ _ (by simp) (Fr.stage (S.fr.turn 4 rfl hb) (by exact ⟨rfl,trivial⟩)) rfl⟩)
  ·go_simp;exact kk _ _ (by simp) (by have h:=S.fr.alloc rfl 31 #[.int .i64 0,.int .i64 0];show Fr _ _ (_ ++ [(_,31,if k≤2 then _ else _)]) _;rw [if_pos (S.hi 2 11 rfl rfl)];exact h) rfl
  ·subst hpre
   have e12:=dep (DE 10 _ 12 rfl rfl rfl)
   have e43:=dep (DE 9 _ 43 rfl rfl rfl)
   have HS:=Fr.done S.fr (by exact ⟨S.done 10 rfl,trivial⟩)
   exact wpo_storeF 31 (.tmp 12) (.tmp 43) rfl rfl ((gOf (vs 10))) 0 (by simpa [Act.eval] using e12) #[.int .i64 o3l,.int .i64 o3h] (by simpa [Act.eval] using e43) _ _ (iC [o3l,o3h]) (HS.get 7 rfl) rfl (by show 0+2≤2;omega) (one_all rfl) info_span fun w' hk ho=>kk _ _ (by simp) (Fr.undone (HS.only 7 rfl ho hk) (by exact ⟨S.done 10 rfl,trivial⟩)) trivial
 ·intro vs wf HFr HR
  have HFr':Fr w [] [(qb,160,#[.int .i64 mul,.int .i64 muh,.int .i64 rl,.int .i64 rh,.int .i64 ol,.int .i64 oh,.int .i64 sl,.int .i64 sh,.int .i64 pxl,.int .i64 pxh,.int .i64 pyl,.int .i64 pyh,.int .i64 pzl,.int .i64 pzh,.int .i64 time,.int .i64 step,.int .i64 tl,.int .i64 th,.int .i64 fl,.int .i64 fh,.int .i64 dxl,.int .i64 dxh,.int .i64 dyl,.int .i64 dyh,.int .i64 dzl,.int .i64 dzh,.slice A n c,.int .i64 dl,.int .i64 dh]),(qb+1,38,iC [st,axl,axh,ayl,ayh,azl,azh,bxl,bxh,byl,byh,bzl,bzh,sml,smh]),(qb+1+1,38,iC [0,0,0,0,0,0,0,0,0,0,0,0,0,0,0]),(qb+1+1+1,58,iC [0,0,0,0,0,0,0,0,0,0,0,0,0,0,0,0]),(g1,153,iC [e3]),(g10,31,iC [o1l,o1h]),(g14,31,iC [ql,qh]),((gOf (vs 10)),31,iC [o3l,o3h])] wf:=HFr
  have v10:vs 10=.pointer (some ⟨(gOf (vs 10)),0,none⟩):=HR 10 _ rfl
  clear HFr HR
  obtain ⟨g18_10,hg18_10⟩:∃ g,gOf (vs 10)=g:=⟨_,rfl⟩
  rw [hg18_10] at HFr'
  rw [hg18_10] at v10
  clear hg18_10
  have HF18:=Lib.hid HFr'
  clear HFr'
  simp only [putAll,Act.put,List.setIfInBounds_toArray,List.set_cons_zero,List.set_cons_succ]
  simp only [v10]
  clear v10
  obtain ⟨w18,rfl⟩:∃ u:World,u=wf:=⟨_,rfl⟩
  have HOX:=Lib.hid (fun w=>fof_any ⟨⟨axl,axh⟩,⟨ayl,ayh⟩,⟨azl,azh⟩⟩ ⟨⟨bxl,bxh⟩,⟨byl,byh⟩,⟨bzl,bzh⟩⟩ w)
  unfold boxV sixV at HOX
  dsimp only at HOX
  clear K1 K2 K3 k1 k2
  by_cases he3:e3=0
  ·subst he3
   rw [if_pos rfl] at HM4
   by_cases hml:o3l≤0
   ·rw [if_pos hml] at HM4
    have hg:decide (o3l≤0)=true:=decide_eq_true hml
    have H120:=fun cb w1 h1 h2 h3=>HTUB.out ⟨o3l,o3h⟩ cb 4 w1 h1 h2 HW3.out h3 _ _ _ (HTB.out _ 4 (by decide))
    have HR:=HBAD.out _ _ _ HM4 _ _ _ (HTB.out _ 4 (by decide)) rfl
    rw [if_neg (by decide)] at HR
    simp only [Bool.false_and] at H120
    try dsimp only at H120
    replace H120:=Lib.hid H120
    replace HR:=Lib.hid HR
    clear HTUB HTB HBAD HLAT HOK HM4 HTW HFO HFW HTL
    have c19:w18.cell? ⟨g1,0,none⟩=some (.int .i64 0):=(HF18.out.get 4 rfl).cell 0
    have c20:w18.cell? ⟨g18_10,0,none⟩=some (.int .i64 o3l):=(HF18.out.get 7 rfl).cell 0
    go_wp2_with (first
      | (refine wpLoadF rfl 34 _ rfl (qb+1) 1 rfl _ _ (HF22.out.get 1 rfl) #[.int .i64 axl,.int .i64 axh,.int .i64 ayl,.int .i64 ayh,.int .i64 azl,.int .i64 azh] rfl _ und_34 rfl info_34 ?_)
      | (refine wpLoadF rfl 34 _ rfl (qb+1) 7 rfl _ _ (HF22.out.get 1 rfl) #[.int .i64 bxl,.int .i64 bxh,.int .i64 byl,.int .i64 byh,.int .i64 bzl,.int .i64 bzh] rfl _ und_34 rfl info_34 ?_)
      | (refine wpStoreCell rfl rfl 41 _ _ rfl g1 0 rfl (.int .i64 4) rfl _ _ (HF18.out.get 4 rfl) (by show 0<1;omega) rfl (by kernel_rfl) ?_;intro w21 hk ho;clear c19 c20;have HF22:=Lib.hid (HF18.out.only 4 rfl ho hk);clear ho hk))
    refine (HOX.out _).mono ?_
    rintro e w23 ⟨rfl,hw⟩
    have HF24:=Lib.hid (HF22.out.below hw)
    clear hw
    obtain ⟨g25,hg25⟩:∃ g,w23.heap.size=g:=⟨_,rfl⟩
    obtain ⟨w25,hw25⟩:∃ u,w23.alloc (.cells #[.int .i64 0,.int .i64 0,.int .i64 0,.int .i64 0,.int .i64 0,.int .i64 0,.int .i64 0,.int .i64 0,.int .i64 0,.int .i64 0,.int .i64 0,.int .i64 0] 208)=u:=⟨_,rfl⟩
    have HF26:=Lib.hid (frE hw25 (HF24.out.alloc hg25.symm 208 #[.int .i64 0,.int .i64 0,.int .i64 0,.int .i64 0,.int .i64 0,.int .i64 0,.int .i64 0,.int .i64 0,.int .i64 0,.int .i64 0,.int .i64 0,.int .i64 0]))
    go_wp2_with (first
      | (refine wpLoadF rfl 160 _ rfl qb 0 rfl _ _ (HF28.out.get 0 rfl) #[.int .i64 mul,.int .i64 muh,.int .i64 rl,.int .i64 rh,.int .i64 ol,.int .i64 oh,.int .i64 sl,.int .i64 sh,.int .i64 pxl,.int .i64 pxh,.int .i64 pyl,.int .i64 pyh,.int .i64 pzl,.int .i64 pzh,.int .i64 time,.int .i64 step,.int .i64 tl,.int .i64 th,.int .i64 fl,.int .i64 fh,.int .i64 dxl,.int .i64 dxh,.int .i64 dyl,.int .i64 dyh,.int .i64 dzl,.int .i64 dzh,.slice A n c,.int .i64 dl,.int .i64 dh] rfl _ und_160 rfl info_160 ?_)
      | (refine wpLoadF rfl 208 _ rfl g25 0 rfl _ _ (HF28.out.get 8 rfl) #[.int .i64 axl,.int .i64 axh,.int .i64 ayl,.int .i64 ayh,.int .i64 azl,.int .i64 azh,.int .i64 bxl,.int .i64 bxh,.int .i64 byl,.int .i64 byh,.int .i64 bzl,.int .i64 bzh] rfl _ und_208 rfl info_208 ?_)
      | (refine wpLoadF rfl 31 _ rfl g14 0 rfl _ _ (HF28.out.get 6 rfl) #[.int .i64 ql,.int .i64 qh] rfl _ und_span rfl info_span ?_)
      | (refine wpLoadF rfl 31 _ rfl g18_10 0 rfl _ _ (HF28.out.get 7 rfl) #[.int .i64 o3l,.int .i64 o3h] rfl _ und_span rfl info_span ?_)
      | (refine wpStoreF rfl rfl 208 _ _ rfl g25 0 rfl #[.int .i64 axl,.int .i64 axh,.int .i64 ayl,.int .i64 ayh,.int .i64 azl,.int .i64 azh,.int .i64 bxl,.int .i64 bxh,.int .i64 byl,.int .i64 byh,.int .i64 bzl,.int .i64 bzh] rfl _ _ (iC [axl,axh,ayl,ayh,azl,azh,bxl,bxh,byl,byh,bzl,bzh]) (HF26.out.get 8 rfl) rfl (by show 0+12≤12;omega) (one_all rfl) info_208 ?_;intro w27 hk ho;clear hw25 hg25;have HF28:=Lib.hid (HF26.out.only 8 rfl ho hk);clear ho hk))
    refine (H120.out g1 _ (HF28.out.ge 4 rfl) HF28.out.toBelow (HF28.out.get 4 rfl)).mono ?_
    rintro e w29 ⟨rfl,hw⟩
    have HF30:=Lib.hid (HF28.out.turn 4 rfl hw)
    clear hw
    obtain ⟨g31,hg31⟩:∃ g,w29.heap.size=g:=⟨_,rfl⟩
    obtain ⟨w31,hw31⟩:∃ u,w29.alloc (.cells #[.int .i64 0,.int .i64 0,.int .i64 0,.int .i64 0,.int .i64 0,.int .i64 0,.int .i64 0,.int .i64 0,.int .i64 0,.int .i64 0,.int .i64 0,.int .i64 0] 208)=u:=⟨_,rfl⟩
    have HF32:=Lib.hid (frE hw31 (HF30.out.alloc hg31.symm 208 #[.int .i64 0,.int .i64 0,.int .i64 0,.int .i64 0,.int .i64 0,.int .i64 0,.int .i64 0,.int .i64 0,.int .i64 0,.int .i64 0,.int .i64 0,.int .i64 0]))
    go_upto_region 12 with (refine wpStoreF rfl rfl 208 _ _ rfl g31 0 rfl #[.int .i64 axl,.int .i64 axh,.int .i64 ayl,.int .i64 ayh,.int .i64 azl,.int .i64 azh,.int .i64 bxl,.int .i64 bxh,.int .i64 byl,.int .i64 byh,.int .i64 bzl,.int .i64 bzh] rfl _ _ (iC [axl,axh,ayl,ayh,azl,azh,bxl,bxh,byl,byh,bzl,bzh]) (HF32.out.get 9 rfl) rfl (by show 0+12≤12;omega) (one_all rfl) info_208 ?_;intro w33 hk ho;clear hw31 hg31;have HF34:=Lib.hid (HF32.out.only 9 rfl ho hk);clear ho hk;have c35:w33.cell? ⟨g1,0,none⟩=some (.int .i64 4):=(HF34.out.get 4 rfl).cell 0)
    clear c35
    refine wp_region_fr [Kind.p,Kind.p,Kind.p,Kind.p,Kind.p,Kind.p,Kind.c 0,Kind.c 1,Kind.p] [6,7] [] w (fun _=>[]) (fun _=>_)
       (fun ix u _=>match ix with
        | 0=>u=.agg #[.int .i64 0,.int .i64 0,.int .i64 0,.int .i64 0,.int .i64 0,.int .i64 0,.int .i64 0,.int .i64 0,.int .i64 0,.int .i64 0,.int .i64 0,.int .i64 0,.int .i64 0,.int .i64 0,.int .i64 0]
        | 1=>u=.agg #[.int .i64 0,.int .i64 0,.int .i64 0,.int .i64 0,.int .i64 0,.int .i64 0,.int .i64 0,.int .i64 0,.int .i64 0,.int .i64 0,.int .i64 0,.int .i64 0,.int .i64 0,.int .i64 0,.int .i64 0,.int .i64 0]
        | 2=>u=.pointer (some ⟨g1,0,none⟩)
        | 3=>u=.pointer (some ⟨g1,0,none⟩)
        | 4=>u=.pointer (some ⟨g1,0,none⟩)
        | 5=>u=.int .i64 4
        | 8=>u=.int .i64 4
        | _=>True)
       (by kernel_rfl) (by kernel_rfl) (by kernel_rfl) [] rfl (by decide) (by kernel_rfl) (by kernel_rfl) HF34.out ?_ ?_
    ·refine ⟨?_,?_,?_,?_,?_,?_,?_,?_,?_,trivial⟩
     all_goals intro a w1 vs dn k K S hpre KE DE kk
     ·go_simp;exact kk _ _ (by simp) bR rfl
     ·go_simp;exact kk _ _ (by simp) bR rfl
     ·have e9:=KE 9 (by decide)
      go_simp;exact kk _ _ (by simp) bR rfl
     ·have e83:=dep (DE 2 _ 83 rfl rfl rfl)
      go_simp;exact kk _ _ (by simp) bR rfl
     ·have e84:=dep (DE 3 _ 84 rfl rfl rfl)
      go_simp;exact kk _ _ (by simp) bR rfl
     ·have e85:=dep (DE 4 _ 85 rfl rfl rfl)
      have ca:w1.cell? ⟨g1,0,none⟩=some (.int .i64 4):=(S.fr.left.get 4 rfl).cell 0
      go_simp;exact kk _ _ (by simp) bR rfl
     ·subst hpre
      have e6:=KE 6 (by decide)
      have e81:=dep (DE 0 _ 81 rfl rfl rfl)
      exact wpo_storeF 38 (.tmp 6) (.tmp 81) rfl rfl (qb+1+1) 0 (by simpa [Act.eval] using e6) #[.int .i64 0,.int .i64 0,.int .i64 0,.int .i64 0,.int .i64 0,.int .i64 0,.int .i64 0,.int .i64 0,.int .i64 0,.int .i64 0,.int .i64 0,.int .i64 0,.int .i64 0,.int .i64 0,.int .i64 0] (by simpa [Act.eval] using e81) _ _ (iC [0,0,0,0,0,0,0,0,0,0,0,0,0,0,0]) (S.fr.left.get 2 rfl) rfl (by show 0+15≤15;omega) (one_all rfl) info_38 fun w' hk ho=>kk _ _ (by simp) (Fr.stage (S.fr.only 2 rfl ho hk) (by exact trivial)) trivial
     ·subst hpre
      have e7:=KE 7 (by decide)
      have e82:=dep (DE 1 _ 82 rfl rfl rfl)
      exact wpo_storeF 58 (.tmp 7) (.tmp 82) rfl rfl (qb+1+1+1) 0 (by simpa [Act.eval] using e7) #[.int .i64 0,.int .i64 0,.int .i64 0,.int .i64 0,.int .i64 0,.int .i64 0,.int .i64 0,.int .i64 0,.int .i64 0,.int .i64 0,.int .i64 0,.int .i64 0,.int .i64 0,.int .i64 0,.int .i64 0,.int .i64 0] (by simpa [Act.eval] using e82) _ _ (iC [0,0,0,0,0,0,0,0,0,0,0,0,0,0,0,0]) (S.fr.left.get 3 rfl) rfl (by show 0+16≤16;omega) (one_all rfl) info_58 fun w' hk ho=>kk _ _ (by simp) (Fr.stage (S.fr.only 3 rfl ho hk) (by exact trivial)) trivial
     ·have e86:=dep (DE 5 _ 86 rfl rfl rfl)
      go_simp;exact kk _ _ (by simp) bR rfl
    ·intro vs wf HFr HR
     have HFr':Fr w [] [(qb,160,#[.int .i64 mul,.int .i64 muh,.int .i64 rl,.int .i64 rh,.int .i64 ol,.int .i64 oh,.int .i64 sl,.int .i64 sh,.int .i64 pxl,.int .i64 pxh,.int .i64 pyl,.int .i64 pyh,.int .i64 pzl,.int .i64 pzh,.int .i64 time,.int .i64 step,.int .i64 tl,.int .i64 th,.int .i64 fl,.int .i64 fh,.int .i64 dxl,.int .i64 dxh,.int .i64 dyl,.int .i64 dyh,.int .i64 dzl,.int .i64 dzh,.slice A n c,.int .i64 dl,.int .i64 dh]),(qb+1,38,iC [st,axl,axh,ayl,ayh,azl,azh,bxl,bxh,byl,byh,bzl,bzh,sml,smh]),(qb+1+1,38,iC [0,0,0,0,0,0,0,0,0,0,0,0,0,0,0]),(qb+1+1+1,58,iC [0,0,0,0,0,0,0,0,0,0,0,0,0,0,0,0]),(g1,153,iC [4]),(g10,31,iC [o1l,o1h]),(g14,31,iC [ql,qh]),(g18_10,31,iC [o3l,o3h]),(g25,208,iC [axl,axh,ayl,ayh,azl,azh,bxl,bxh,byl,byh,bzl,bzh]),(g31,208,iC [axl,axh,ayl,ayh,azl,azh,bxl,bxh,byl,byh,bzl,bzh])] wf:=HFr
     have v8:vs 8=.int .i64 4:=HR 8 _ rfl
     clear HFr HR
     have HF36:=Lib.hid HFr'
     clear HFr'
     simp only [putAll,Act.put,List.setIfInBounds_toArray,List.set_cons_zero,List.set_cons_succ]
     simp only [v8]
     clear v8
     obtain ⟨w36,rfl⟩:∃ u:World,u=wf:=⟨_,rfl⟩
     go_wp2_with fail
     refine ret_agg3 rfl rfl rfl (HF36.out.get 2 rfl) rfl (HF36.out.get 3 rfl) rfl und_38 rfl info_38 und_58 rfl info_58 ?_
     exact HFIN.out _ noSt noTb 4 (HR.out) HF36.out.drop
   ·rw [if_neg hml] at HM4
    have hg:decide (o3l≤0)=false:=decide_eq_false hml
    clear hml
    obtain ⟨⟨⟨b,q⟩,et⟩,ht⟩:∃ z,TK ⟨o3l,o3h⟩ 0=z:=⟨_,rfl⟩
    have H120:=fun cb w1 h1 h2 h3=>HTUB.out ⟨o3l,o3h⟩ cb 0 w1 h1 h2 HW3.out h3 _ _ _ ht
    have wb:=HTW.out _ _ _ _ _ ht
    have HB2:=HBAD.out _ _ _ HM4 _ _ _ ht
    obtain ⟨r,hr⟩:∃ r,(q && decide (et=0))=r:=⟨_,rfl⟩
    rw [hr] at H120 HB2
    obtain ⟨⟨⟨bpxl,bpxh⟩,⟨bpyl,bpyh⟩,⟨bpzl,bpzh⟩⟩,⟨bvxl,bvxh⟩,⟨bvyl,bvyh⟩,⟨bvzl,bvzh⟩⟩:=b
    dsimp only at H120
    replace H120:=Lib.hid H120
    replace HB2:=Lib.hid HB2
    clear HTUB HTB HTW HBAD
    have c19:w18.cell? ⟨g1,0,none⟩=some (.int .i64 0):=(HF18.out.get 4 rfl).cell 0
    have c20:w18.cell? ⟨g18_10,0,none⟩=some (.int .i64 o3l):=(HF18.out.get 7 rfl).cell 0
    go_wp2_with (first
      | (refine wpLoadF rfl 34 _ rfl (qb+1) 1 rfl _ _ (HF18.out.get 1 rfl) #[.int .i64 axl,.int .i64 axh,.int .i64 ayl,.int .i64 ayh,.int .i64 azl,.int .i64 azh] rfl _ und_34 rfl info_34 ?_)
      | (refine wpLoadF rfl 34 _ rfl (qb+1) 7 rfl _ _ (HF18.out.get 1 rfl) #[.int .i64 bxl,.int .i64 bxh,.int .i64 byl,.int .i64 byh,.int .i64 bzl,.int .i64 bzh] rfl _ und_34 rfl info_34 ?_))
    clear c19 c20
    refine (HOX.out _).mono ?_
    rintro e w21 ⟨rfl,hw⟩
    have HF22:=Lib.hid (HF18.out.below hw)
    clear hw
    obtain ⟨g23,hg23⟩:∃ g,w21.heap.size=g:=⟨_,rfl⟩
    obtain ⟨w23,hw23⟩:∃ u,w21.alloc (.cells #[.int .i64 0,.int .i64 0,.int .i64 0,.int .i64 0,.int .i64 0,.int .i64 0,.int .i64 0,.int .i64 0,.int .i64 0,.int .i64 0,.int .i64 0,.int .i64 0] 208)=u:=⟨_,rfl⟩
    have HF24:=Lib.hid (frE hw23 (HF22.out.alloc hg23.symm 208 #[.int .i64 0,.int .i64 0,.int .i64 0,.int .i64 0,.int .i64 0,.int .i64 0,.int .i64 0,.int .i64 0,.int .i64 0,.int .i64 0,.int .i64 0,.int .i64 0]))
    go_wp2_with (first
      | (refine wpLoadF rfl 160 _ rfl qb 0 rfl _ _ (HF26.out.get 0 rfl) #[.int .i64 mul,.int .i64 muh,.int .i64 rl,.int .i64 rh,.int .i64 ol,.int .i64 oh,.int .i64 sl,.int .i64 sh,.int .i64 pxl,.int .i64 pxh,.int .i64 pyl,.int .i64 pyh,.int .i64 pzl,.int .i64 pzh,.int .i64 time,.int .i64 step,.int .i64 tl,.int .i64 th,.int .i64 fl,.int .i64 fh,.int .i64 dxl,.int .i64 dxh,.int .i64 dyl,.int .i64 dyh,.int .i64 dzl,.int .i64 dzh,.slice A n c,.int .i64 dl,.int .i64 dh] rfl _ und_160 rfl info_160 ?_)
      | (refine wpLoadF rfl 208 _ rfl g23 0 rfl _ _ (HF26.out.get 8 rfl) #[.int .i64 axl,.int .i64 axh,.int .i64 ayl,.int .i64 ayh,.int .i64 azl,.int .i64 azh,.int .i64 bxl,.int .i64 bxh,.int .i64 byl,.int .i64 byh,.int .i64 bzl,.int .i64 bzh] rfl _ und_208 rfl info_208 ?_)
      | (refine wpLoadF rfl 31 _ rfl g14 0 rfl _ _ (HF26.out.get 6 rfl) #[.int .i64 ql,.int .i64 qh] rfl _ und_span rfl info_span ?_)
      | (refine wpLoadF rfl 31 _ rfl g18_10 0 rfl _ _ (HF26.out.get 7 rfl) #[.int .i64 o3l,.int .i64 o3h] rfl _ und_span rfl info_span ?_)
      | (refine wpStoreF rfl rfl 208 _ _ rfl g23 0 rfl #[.int .i64 axl,.int .i64 axh,.int .i64 ayl,.int .i64 ayh,.int .i64 azl,.int .i64 azh,.int .i64 bxl,.int .i64 bxh,.int .i64 byl,.int .i64 byh,.int .i64 bzl,.int .i64 bzh] rfl _ _ (iC [axl,axh,ayl,ayh,azl,azh,bxl,bxh,byl,byh,bzl,bzh]) (HF24.out.get 8 rfl) rfl (by show 0+12≤12;omega) (one_all rfl) info_208 ?_;intro w25 hk ho;clear hw23 hg23;have HF26:=Lib.hid (HF24.out.only 8 rfl ho hk);clear ho hk))
    refine (H120.out g1 _ (HF26.out.ge 4 rfl) HF26.out.toBelow (HF26.out.get 4 rfl)).mono ?_
    rintro e w27 ⟨rfl,hw⟩
    have HF28:=Lib.hid (HF26.out.turn 4 rfl hw)
    clear hw
    obtain ⟨g29,hg29⟩:∃ g,w27.heap.size=g:=⟨_,rfl⟩
    obtain ⟨w29,hw29⟩:∃ u,w27.alloc (.cells #[.int .i64 0,.int .i64 0,.int .i64 0,.int .i64 0,.int .i64 0,.int .i64 0,.int .i64 0,.int .i64 0,.int .i64 0,.int .i64 0,.int .i64 0,.int .i64 0] 208)=u:=⟨_,rfl⟩
    have HF30:=Lib.hid (frE hw29 (HF28.out.alloc hg29.symm 208 #[.int .i64 0,.int .i64 0,.int .i64 0,.int .i64 0,.int .i64 0,.int .i64 0,.int .i64 0,.int .i64 0,.int .i64 0,.int .i64 0,.int .i64 0,.int .i64 0]))
    go_upto_region 9 with (refine wpStoreF rfl rfl 208 _ _ rfl g29 0 rfl #[.int .i64 bpxl,.int .i64 bpxh,.int .i64 bpyl,.int .i64 bpyh,.int .i64 bpzl,.int .i64 bpzh,.int .i64 bvxl,.int .i64 bvxh,.int .i64 bvyl,.int .i64 bvyh,.int .i64 bvzl,.int .i64 bvzh] rfl _ _ (iC [bpxl,bpxh,bpyl,bpyh,bpzl,bpzh,bvxl,bvxh,bvyl,bvyh,bvzl,bvzh]) (HF30.out.get 9 rfl) rfl (by show 0+12≤12;omega) (one_all rfl) info_208 ?_;intro w31 hk ho;clear hw29 hg29;have HF32:=Lib.hid (HF30.out.only 9 rfl ho hk);clear ho hk)
    cases r with
    | false =>
     have HR:=HB2.out rfl
     clear HLAT HOK HM4 HFO HFW HTL hr wb ht
     by_cases he:et=0
     ·subst he
      rw [if_pos rfl] at HR
      replace HR:=Lib.hid HR
      have c33:w31.cell? ⟨g1,0,none⟩=some (.int .i64 0):=(HF32.out.get 4 rfl).cell 0
      go_upto_region 12 with (refine wpStoreCell rfl rfl 41 _ _ rfl g1 0 rfl (.int .i64 9) rfl _ _ (HF32.out.get 4 rfl) (by show 0<1;omega) rfl (by kernel_rfl) ?_;intro w34 hk ho;clear c33;have HF35:=Lib.hid (HF32.out.only 4 rfl ho hk);clear ho hk)
      refine wp_region_fr [Kind.p,Kind.p,Kind.p,Kind.p,Kind.p,Kind.p,Kind.c 0,Kind.c 1,Kind.p] [6,7] [] w (fun _=>[]) (fun _=>_)
         (fun ix u _=>match ix with
          | 0=>u=.agg #[.int .i64 0,.int .i64 0,.int .i64 0,.int .i64 0,.int .i64 0,.int .i64 0,.int .i64 0,.int .i64 0,.int .i64 0,.int .i64 0,.int .i64 0,.int .i64 0,.int .i64 0,.int .i64 0,.int .i64 0]
          | 1=>u=.agg #[.int .i64 0,.int .i64 0,.int .i64 0,.int .i64 0,.int .i64 0,.int .i64 0,.int .i64 0,.int .i64 0,.int .i64 0,.int .i64 0,.int .i64 0,.int .i64 0,.int .i64 0,.int .i64 0,.int .i64 0,.int .i64 0]
          | 2=>u=.pointer (some ⟨g1,0,none⟩)
          | 3=>u=.pointer (some ⟨g1,0,none⟩)
          | 4=>u=.pointer (some ⟨g1,0,none⟩)
          | 5=>u=.int .i64 9
          | 8=>u=.int .i64 9
          | _=>True)
         (by kernel_rfl) (by kernel_rfl) (by kernel_rfl) [] rfl (by decide) (by kernel_rfl) (by kernel_rfl) HF35.out ?_ ?_
      ·refine ⟨?_,?_,?_,?_,?_,?_,?_,?_,?_,trivial⟩
       all_goals intro a w1 vs dn k K S hpre KE DE kk
       ·go_simp;exact kk _ _ (by simp) bR rfl
       ·go_simp;exact kk _ _ (by simp) bR rfl
       ·have e9:=KE 9 (by decide)
        go_simp;exact kk _ _ (by simp) bR rfl
       ·have e83:=dep (DE 2 _ 83 rfl rfl rfl)
        go_simp;exact kk _ _ (by simp) bR rfl
       ·have e84:=dep (DE 3 _ 84 rfl rfl rfl)
        go_simp;exact kk _ _ (by simp) bR rfl
       ·have e85:=dep (DE 4 _ 85 rfl rfl rfl)
        have ca:w1.cell? ⟨g1,0,none⟩=some (.int .i64 9):=(S.fr.left.get 4 rfl).cell 0
        go_simp;exact kk _ _ (by simp) bR rfl
       ·subst hpre
        have e6:=KE 6 (by decide)
        have e81:=dep (DE 0 _ 81 rfl rfl rfl)
        exact wpo_storeF 38 (.tmp 6) (.tmp 81) rfl rfl (qb+1+1) 0 (by simpa [Act.eval] using e6) #[.int .i64 0,.int .i64 0,.int .i64 0,.int .i64 0,.int .i64 0,.int .i64 0,.int .i64 0,.int .i64 0,.int .i64 0,.int .i64 0,.int .i64 0,.int .i64 0,.int .i64 0,.int .i64 0,.int .i64 0] (by simpa [Act.eval] using e81) _ _ (iC [0,0,0,0,0,0,0,0,0,0,0,0,0,0,0]) (S.fr.left.get 2 rfl) rfl (by show 0+15≤15;omega) (one_all rfl) info_38 fun w' hk ho=>kk _ _ (by simp) (Fr.stage (S.fr.only 2 rfl ho hk) (by exact trivial)) trivial
       ·subst hpre
        have e7:=KE 7 (by decide)
        have e82:=dep (DE 1 _ 82 rfl rfl rfl)
        exact wpo_storeF 58 (.tmp 7) (.tmp 82) rfl rfl (qb+1+1+1) 0 (by simpa [Act.eval] using e7) #[.int .i64 0,.int .i64 0,.int .i64 0,.int .i64 0,.int .i64 0,.int .i64 0,.int .i64 0,.int .i64 0,.int .i64 0,.int .i64 0,.int .i64 0,.int .i64 0,.int .i64 0,.int .i64 0,.int .i64 0,.int .i64 0] (by simpa [Act.eval] using e82) _ _ (iC [0,0,0,0,0,0,0,0,0,0,0,0,0,0,0,0]) (S.fr.left.get 3 rfl) rfl (by show 0+16≤16;omega) (one_all rfl) info_58 fun w' hk ho=>kk _ _ (by simp) (Fr.stage (S.fr.only 3 rfl ho hk) (by exact trivial)) trivial
       ·have e86:=dep (DE 5 _ 86 rfl rfl rfl)
        go_simp;exact kk _ _ (by simp) bR rfl
      ·intro vs wf HFr HR
       have HFr':Fr w [] [(qb,160,#[.int .i64 mul,.int .i64 muh,.int .i64 rl,.int .i64 rh,.int .i64 ol,.int .i64 oh,.int .i64 sl,.int .i64 sh,.int .i64 pxl,.int .i64 pxh,.int .i64 pyl,.int .i64 pyh,.int .i64 pzl,.int .i64 pzh,.int .i64 time,.int .i64 step,.int .i64 tl,.int .i64 th,.int .i64 fl,.int .i64 fh,.int .i64 dxl,.int .i64 dxh,.int .i64 dyl,.int .i64 dyh,.int .i64 dzl,.int .i64 dzh,.slice A n c,.int .i64 dl,.int .i64 dh]),(qb+1,38,iC [st,axl,axh,ayl,ayh,azl,azh,bxl,bxh,byl,byh,bzl,bzh,sml,smh]),(qb+1+1,38,iC [0,0,0,0,0,0,0,0,0,0,0,0,0,0,0]),(qb+1+1+1,58,iC [0,0,0,0,0,0,0,0,0,0,0,0,0,0,0,0]),(g1,153,iC [9]),(g10,31,iC [o1l,o1h]),(g14,31,iC [ql,qh]),(g18_10,31,iC [o3l,o3h]),(g23,208,iC [axl,axh,ayl,ayh,azl,azh,bxl,bxh,byl,byh,bzl,bzh]),(g29,208,iC [bpxl,bpxh,bpyl,bpyh,bpzl,bpzh,bvxl,bvxh,bvyl,bvyh,bvzl,bvzh])] wf:=HFr
       have v8:vs 8=.int .i64 9:=HR 8 _ rfl
       clear HFr HR
       have HF36:=Lib.hid HFr'
       clear HFr'
       simp only [putAll,Act.put,List.setIfInBounds_toArray,List.set_cons_zero,List.set_cons_succ]
       simp only [v8]
       clear v8
       obtain ⟨w36,rfl⟩:∃ u:World,u=wf:=⟨_,rfl⟩
       go_wp2_with fail
       refine ret_agg3 rfl rfl rfl (HF36.out.get 2 rfl) rfl (HF36.out.get 3 rfl) rfl und_38 rfl info_38 und_58 rfl info_58 ?_
       exact HFIN.out _ noSt noTb 9 (HR.out) HF36.out.drop
     ·rw [if_neg he] at HR
      have hb4:(et == 0)=false:=by simpa using he
      replace HR:=Lib.hid HR
      clear he
      have c33:w31.cell? ⟨g1,0,none⟩=some (.int .i64 et):=(HF32.out.get 4 rfl).cell 0
      go_upto_region 12 with (fail)
      clear c33
      refine wp_region_fr [Kind.p,Kind.p,Kind.p,Kind.p,Kind.p,Kind.p,Kind.c 0,Kind.c 1,Kind.p] [6,7] [] w (fun _=>[]) (fun _=>_)
         (fun ix u _=>match ix with
          | 0=>u=.agg #[.int .i64 0,.int .i64 0,.int .i64 0,.int .i64 0,.int .i64 0,.int .i64 0,.int .i64 0,.int .i64 0,.int .i64 0,.int .i64 0,.int .i64 0,.int .i64 0,.int .i64 0,.int .i64 0,.int .i64 0]
          | 1=>u=.agg #[.int .i64 0,.int .i64 0,.int .i64 0,.int .i64 0,.int .i64 0,.int .i64 0,.int .i64 0,.int .i64 0,.int .i64 0,.int .i64 0,.int .i64 0,.int .i64 0,.int .i64 0,.int .i64 0,.int .i64 0,.int .i64 0]
          | 2=>u=.pointer (some ⟨g1,0,none⟩)
          | 3=>u=.pointer (some ⟨g1,0,none⟩)
          | 4=>u=.pointer (some ⟨g1,0,none⟩)
          | 5=>u=.int .i64 et
          | 8=>u=.int .i64 et
          | _=>True)
         (by kernel_rfl) (by kernel_rfl) (by kernel_rfl) [] rfl (by decide) (by kernel_rfl) (by kernel_rfl) HF32.out ?_ ?_
      ·refine ⟨?_,?_,?_,?_,?_,?_,?_,?_,?_,trivial⟩
       all_goals intro a w1 vs dn k K S hpre KE DE kk
       ·go_simp;exact kk _ _ (by simp) bR rfl
       ·go_simp;exact kk _ _ (by simp) bR rfl
       ·have e9:=KE 9 (by decide)
        go_simp;exact kk _ _ (by simp) bR rfl
       ·have e83:=dep (DE 2 _ 83 rfl rfl rfl)
        go_simp;exact kk _ _ (by simp) bR rfl
       ·have e84:=dep (DE 3 _ 84 rfl rfl rfl)
        go_simp;exact kk _ _ (by simp) bR rfl
       ·have e85:=dep (DE 4 _ 85 rfl rfl rfl)
        have ca:w1.cell? ⟨g1,0,none⟩=some (.int .i64 et):=(S.fr.left.get 4 rfl).cell 0
        go_simp;exact kk _ _ (by simp) bR rfl
       ·subst hpre
        have e6:=KE 6 (by decide)
        have e81:=dep (DE 0 _ 81 rfl rfl rfl)
        exact wpo_storeF 38 (.tmp 6) (.tmp 81) rfl rfl (qb+1+1) 0 (by simpa [Act.eval] using e6) #[.int .i64 0,.int .i64 0,.int .i64 0,.int .i64 0,.int .i64 0,.int .i64 0,.int .i64 0,.int .i64 0,.int .i64 0,.int .i64 0,.int .i64 0,.int .i64 0,.int .i64 0,.int .i64 0,.int .i64 0] (by simpa [Act.eval] using e81) _ _ (iC [0,0,0,0,0,0,0,0,0,0,0,0,0,0,0]) (S.fr.left.get 2 rfl) rfl (by show 0+15≤15;omega) (one_all rfl) info_38 fun w' hk ho=>kk _ _ (by simp) (Fr.stage (S.fr.only 2 rfl ho hk) (by exact trivial)) trivial
       ·subst hpre
        have e7:=KE 7 (by decide)
        have e82:=dep (DE 1 _ 82 rfl rfl rfl)
        exact wpo_storeF 58 (.tmp 7) (.tmp 82) rfl rfl (qb+1+1+1) 0 (by simpa [Act.eval] using e7) #[.int .i64 0,.int .i64 0,.int .i64 0,.int .i64 0,.int .i64 0,.int .i64 0,.int .i64 0,.int .i64 0,.int .i64 0,.int .i64 0,.int .i64 0,.int .i64 0,.int .i64 0,.int .i64 0,.int .i64 0,.int .i64 0] (by simpa [Act.eval] using e82) _ _ (iC [0,0,0,0,0,0,0,0,0,0,0,0,0,0,0,0]) (S.fr.left.get 3 rfl) rfl (by show 0+16≤16;omega) (one_all rfl) info_58 fun w' hk ho=>kk _ _ (by simp) (Fr.stage (S.fr.only 3 rfl ho hk) (by exact trivial)) trivial
       ·have e86:=dep (DE 5 _ 86 rfl rfl rfl)
        go_simp;exact kk _ _ (by simp) bR rfl
      ·intro vs wf HFr HR
       have HFr':Fr w [] [(qb,160,#[.int .i64 mul,.int .i64 muh,.int .i64 rl,.int .i64 rh,.int .i64 ol,.int .i64 oh,.int .i64 sl,.int .i64 sh,.int .i64 pxl,.int .i64 pxh,.int .i64 pyl,.int .i64 pyh,.int .i64 pzl,.int .i64 pzh,.int .i64 time,.int .i64 step,.int .i64 tl,.int .i64 th,.int .i64 fl,.int .i64 fh,.int .i64 dxl,.int .i64 dxh,.int .i64 dyl,.int .i64 dyh,.int .i64 dzl,.int .i64 dzh,.slice A n c,.int .i64 dl,.int .i64 dh]),(qb+1,38,iC [st,axl,axh,ayl,ayh,azl,azh,bxl,bxh,byl,byh,bzl,bzh,sml,smh]),(qb+1+1,38,iC [0,0,0,0,0,0,0,0,0,0,0,0,0,0,0]),(qb+1+1+1,58,iC [0,0,0,0,0,0,0,0,0,0,0,0,0,0,0,0]),(g1,153,iC [et]),(g10,31,iC [o1l,o1h]),(g14,31,iC [ql,qh]),(g18_10,31,iC [o3l,o3h]),(g23,208,iC [axl,axh,ayl,ayh,azl,azh,bxl,bxh,byl,byh,bzl,bzh]),(g29,208,iC [bpxl,bpxh,bpyl,bpyh,bpzl,bpzh,bvxl,bvxh,bvyl,bvyh,bvzl,bvzh])] wf:=HFr
       have v8:vs 8=.int .i64 et:=HR 8 _ rfl
       clear HFr HR
       have HF34:=Lib.hid HFr'
       clear HFr'
       simp only [putAll,Act.put,List.setIfInBounds_toArray,List.set_cons_zero,List.set_cons_succ]
       simp only [v8]
       clear v8
       obtain ⟨w34,rfl⟩:∃ u:World,u=wf:=⟨_,rfl⟩
       go_wp2_with fail
       refine ret_agg3 rfl rfl rfl (HF34.out.get 2 rfl) rfl (HF34.out.get 3 rfl) rfl und_38 rfl info_38 und_58 rfl info_58 ?_
       exact HFIN.out _ noSt noTb et (HR.out) HF34.out.drop
    | true =>
     rw [Bool.and_eq_true,decide_eq_true_eq] at hr
     obtain ⟨hq1,he1⟩:=hr
     subst hq1 he1
     obtain ⟨⟨f,ef⟩,hf⟩:∃ z,F ⟨⟨⟨bpxl,bpxh⟩,⟨bpyl,bpyh⟩,⟨bpzl,bpzh⟩⟩,⟨bvxl,bvxh⟩,⟨bvyl,bvyh⟩,⟨bvzl,bvzh⟩⟩ ⟨o3l,o3h⟩ 0=z:=⟨_,rfl⟩
     have H121:=fun cb w' h1 h2 hk=>HFO.out cb 0 ⟨⟨⟨bpxl,bpxh⟩,⟨bpyl,bpyh⟩,⟨bpzl,bpzh⟩⟩,⟨bvxl,bvxh⟩,⟨bvyl,bvyh⟩,⟨bvzl,bvzh⟩⟩ ⟨o3l,o3h⟩ w' h1 h2 wb HW3.out hk
     have wf:=HFW.out ⟨⟨⟨bpxl,bpxh⟩,⟨bpyl,bpyh⟩,⟨bpzl,bpzh⟩⟩,⟨bvxl,bvxh⟩,⟨bvyl,bvyh⟩,⟨bvzl,bvzh⟩⟩ ⟨o3l,o3h⟩ 0
     rw [hf] at H121 wf
     have HLA:=HLAT.out _ _ _ HM4 _ ht _ _ hf
     have HOO:=HOK.out _ _ _ HM4 _ ht _ _ hf
     obtain ⟨⟨fxl,fxh⟩,⟨fyl,fyh⟩,⟨fzl,fzh⟩⟩:=f
     obtain ⟨wfx,wfy,wfz⟩:=wf
     unfold CkBox sixV boxV at H121
     dsimp only at H121
     replace H121:=Lib.hid H121
     replace HLA:=Lib.hid HLA
     replace HOO:=Lib.hid HOO
     have HPLA:=Lib.hid (fun w=>place_any ⟨⟨⟨bpxl,bpxh⟩,⟨bpyl,bpyh⟩,⟨bpzl,bpzh⟩⟩,⟨bvxl,bvxh⟩,⟨bvyl,bvyh⟩,⟨bvzl,bvzh⟩⟩ w)
     have HSPE:=Lib.hid (fun w=>speed_any ⟨⟨⟨bpxl,bpxh⟩,⟨bpyl,bpyh⟩,⟨bpzl,bpzh⟩⟩,⟨bvxl,bvxh⟩,⟨bvyl,bvyh⟩,⟨bvzl,bvzh⟩⟩ w)
     unfold sixV boxV at HPLA HSPE
     dsimp only at HPLA HSPE
     clear hf HLAT HOK HFO HFW HM4 ht HB2 H120 HOX
     have K4:=fun cb w hk=>cmul_any cb ef (ptS h) (ptS h) hph hph w hk
     have W4:=wd_mulM (ptS h) (ptS h) ef
     obtain ⟨⟨⟨o4l,o4h⟩,e4⟩,q4⟩:∃ z:SpanD × Int,mulM (ptS h) (ptS h) ef=z:=⟨_,rfl⟩
     rw [q4] at K4 W4
     unfold CkPost spanV at K4
     try unfold ptS at K4
     dsimp only at K4
     replace K4:=Lib.hid K4
     have K5:=fun cb w hk=>cdiv_any cb e4 ⟨o4l,o4h⟩ ⟨8589934592,8589934592⟩ W4 (wd_whole2) w hk
     have W5:=wd_divM ⟨o4l,o4h⟩ ⟨8589934592,8589934592⟩ e4
     obtain ⟨⟨⟨o5l,o5h⟩,e5⟩,q5⟩:∃ z:SpanD × Int,divM ⟨o4l,o4h⟩ ⟨8589934592,8589934592⟩ e4=z:=⟨_,rfl⟩
     rw [q5] at K5 W5
     unfold CkPost spanV at K5
     try unfold ptS at K5
     dsimp only at K5
     replace K5:=Lib.hid K5
     have K6:=fun cb w hk=>cmul_any cb e5 (ptS h) ⟨bxl,bxh⟩ hph wvx w hk
     have W6:=wd_mulM (ptS h) ⟨bxl,bxh⟩ e5
     obtain ⟨⟨⟨o6l,o6h⟩,e6⟩,q6⟩:∃ z:SpanD × Int,mulM (ptS h) ⟨bxl,bxh⟩ e5=z:=⟨_,rfl⟩
     rw [q6] at K6 W6
     unfold CkPost spanV at K6
     try unfold ptS at K6
     dsimp only at K6
     replace K6:=Lib.hid K6
     have K7:=fun cb w hk=>cadd_any cb e6 ⟨axl,axh⟩ ⟨o6l,o6h⟩ wpx W6 w hk
     have W7:=wd_addM ⟨axl,axh⟩ ⟨o6l,o6h⟩ e6
     obtain ⟨⟨⟨o7l,o7h⟩,e7⟩,q7⟩:∃ z:SpanD × Int,addM ⟨axl,axh⟩ ⟨o6l,o6h⟩ e6=z:=⟨_,rfl⟩
     rw [q7] at K7 W7
     unfold CkPost spanV at K7
     try unfold ptS at K7
     dsimp only at K7
     replace K7:=Lib.hid K7
     have K8:=fun cb w hk=>cmul_any cb e7 ⟨o5l,o5h⟩ ⟨fxl,fxh⟩ W5 wfx w hk
     have W8:=wd_mulM ⟨o5l,o5h⟩ ⟨fxl,fxh⟩ e7
     obtain ⟨⟨⟨o8l,o8h⟩,e8⟩,q8⟩:∃ z:SpanD × Int,mulM ⟨o5l,o5h⟩ ⟨fxl,fxh⟩ e7=z:=⟨_,rfl⟩
     rw [q8] at K8 W8
     unfold CkPost spanV at K8
     try unfold ptS at K8
     dsimp only at K8
     replace K8:=Lib.hid K8
     have K9:=fun cb w hk=>cadd_any cb e8 ⟨o7l,o7h⟩ ⟨o8l,o8h⟩ W7 W8 w hk
     have W9:=wd_addM ⟨o7l,o7h⟩ ⟨o8l,o8h⟩ e8
     obtain ⟨⟨⟨o9l,o9h⟩,e9⟩,q9⟩:∃ z:SpanD × Int,addM ⟨o7l,o7h⟩ ⟨o8l,o8h⟩ e8=z:=⟨_,rfl⟩
     rw [q9] at K9 W9
     unfold CkPost spanV at K9
     try unfold ptS at K9
     dsimp only at K9
     replace K9:=Lib.hid K9
     have K10:=fun cb w hk=>cmul_any cb e9 (ptS h) ⟨fxl,fxh⟩ hph wfx w hk
     have W10:=wd_mulM (ptS h) ⟨fxl,fxh⟩ e9
     obtain ⟨⟨⟨o10l,o10h⟩,e10⟩,q10⟩:∃ z:SpanD × Int,mulM (ptS h) ⟨fxl,fxh⟩ e9=z:=⟨_,rfl⟩
     rw [q10] at K10 W10
     unfold CkPost spanV at K10
     try unfold ptS at K10
     dsimp only at K10
     replace K10:=Lib.hid K10
     have K11:=fun cb w hk=>cadd_any cb e10 ⟨bxl,bxh⟩ ⟨o10l,o10h⟩ wvx W10 w hk
     have W11:=wd_addM ⟨bxl,bxh⟩ ⟨o10l,o10h⟩ e10
     obtain ⟨⟨⟨o11l,o11h⟩,e11⟩,q11⟩:∃ z:SpanD × Int,addM ⟨bxl,bxh⟩ ⟨o10l,o10h⟩ e10=z:=⟨_,rfl⟩
     rw [q11] at K11 W11
     unfold CkPost spanV at K11
     try unfold ptS at K11
     dsimp only at K11
     replace K11:=Lib.hid K11
     have K12:=fun cb w hk=>cmul_any cb e11 (ptS h) ⟨byl,byh⟩ hph wvy w hk
     have W12:=wd_mulM (ptS h) ⟨byl,byh⟩ e11
     obtain ⟨⟨⟨o12l,o12h⟩,e12⟩,q12⟩:∃ z:SpanD × Int,mulM (ptS h) ⟨byl,byh⟩ e11=z:=⟨_,rfl⟩
     rw [q12] at K12 W12
     unfold CkPost spanV at K12
     try unfold ptS at K12
     dsimp only at K12
     replace K12:=Lib.hid K12
     have K13:=fun cb w hk=>cadd_any cb e12 ⟨ayl,ayh⟩ ⟨o12l,o12h⟩ wpy W12 w hk
     have W13:=wd_addM ⟨ayl,ayh⟩ ⟨o12l,o12h⟩ e12
     obtain ⟨⟨⟨o13l,o13h⟩,e13⟩,q13⟩:∃ z:SpanD × Int,addM ⟨ayl,ayh⟩ ⟨o12l,o12h⟩ e12=z:=⟨_,rfl⟩
     rw [q13] at K13 W13
     unfold CkPost spanV at K13
     try unfold ptS at K13
     dsimp only at K13
     replace K13:=Lib.hid K13
     have K14:=fun cb w hk=>cmul_any cb e13 ⟨o5l,o5h⟩ ⟨fyl,fyh⟩ W5 wfy w hk
     have W14:=wd_mulM ⟨o5l,o5h⟩ ⟨fyl,fyh⟩ e13
     obtain ⟨⟨⟨o14l,o14h⟩,e14⟩,q14⟩:∃ z:SpanD × Int,mulM ⟨o5l,o5h⟩ ⟨fyl,fyh⟩ e13=z:=⟨_,rfl⟩
     rw [q14] at K14 W14
     unfold CkPost spanV at K14
     try unfold ptS at K14
     dsimp only at K14
     replace K14:=Lib.hid K14
     have K15:=fun cb w hk=>cadd_any cb e14 ⟨o13l,o13h⟩ ⟨o14l,o14h⟩ W13 W14 w hk
     have W15:=wd_addM ⟨o13l,o13h⟩ ⟨o14l,o14h⟩ e14
     obtain ⟨⟨⟨o15l,o15h⟩,e15⟩,q15⟩:∃ z:SpanD × Int,addM ⟨o13l,o13h⟩ ⟨o14l,o14h⟩ e14=z:=⟨_,rfl⟩
     rw [q15] at K15 W15
     unfold CkPost spanV at K15
     try unfold ptS at K15
     dsimp only at K15
     replace K15:=Lib.hid K15
     have K16:=fun cb w hk=>cmul_any cb e15 (ptS h) ⟨fyl,fyh⟩ hph wfy w hk
     have W16:=wd_mulM (ptS h) ⟨fyl,fyh⟩ e15
     obtain ⟨⟨⟨o16l,o16h⟩,e16⟩,q16⟩:∃ z:SpanD × Int,mulM (ptS h) ⟨fyl,fyh⟩ e15=z:=⟨_,rfl⟩
     rw [q16] at K16 W16
     unfold CkPost spanV at K16
     try unfold ptS at K16
     dsimp only at K16
     replace K16:=Lib.hid K16
     have K17:=fun cb w hk=>cadd_any cb e16 ⟨byl,byh⟩ ⟨o16l,o16h⟩ wvy W16 w hk
     have W17:=wd_addM ⟨byl,byh⟩ ⟨o16l,o16h⟩ e16
     obtain ⟨⟨⟨o17l,o17h⟩,e17⟩,q17⟩:∃ z:SpanD × Int,addM ⟨byl,byh⟩ ⟨o16l,o16h⟩ e16=z:=⟨_,rfl⟩
     rw [q17] at K17 W17
     unfold CkPost spanV at K17
     try unfold ptS at K17
     dsimp only at K17
     replace K17:=Lib.hid K17
     have K18:=fun cb w hk=>cmul_any cb e17 (ptS h) ⟨bzl,bzh⟩ hph wvz w hk
     have W18:=wd_mulM (ptS h) ⟨bzl,bzh⟩ e17
     obtain ⟨⟨⟨o18l,o18h⟩,e18⟩,q18⟩:∃ z:SpanD × Int,mulM (ptS h) ⟨bzl,bzh⟩ e17=z:=⟨_,rfl⟩
     rw [q18] at K18 W18
     unfold CkPost spanV at K18
     try unfold ptS at K18
     dsimp only at K18
     replace K18:=Lib.hid K18
     have K19:=fun cb w hk=>cadd_any cb e18 ⟨azl,azh⟩ ⟨o18l,o18h⟩ wpz W18 w hk
     have W19:=wd_addM ⟨azl,azh⟩ ⟨o18l,o18h⟩ e18
     obtain ⟨⟨⟨o19l,o19h⟩,e19⟩,q19⟩:∃ z:SpanD × Int,addM ⟨azl,azh⟩ ⟨o18l,o18h⟩ e18=z:=⟨_,rfl⟩
     rw [q19] at K19 W19
     unfold CkPost spanV at K19
     try unfold ptS at K19
     dsimp only at K19
     replace K19:=Lib.hid K19
     have K20:=fun cb w hk=>cmul_any cb e19 ⟨o5l,o5h⟩ ⟨fzl,fzh⟩ W5 wfz w hk
     have W20:=wd_mulM ⟨o5l,o5h⟩ ⟨fzl,fzh⟩ e19
     obtain ⟨⟨⟨o20l,o20h⟩,e20⟩,q20⟩:∃ z:SpanD × Int,mulM ⟨o5l,o5h⟩ ⟨fzl,fzh⟩ e19=z:=⟨_,rfl⟩
     rw [q20] at K20 W20
     unfold CkPost spanV at K20
     try unfold ptS at K20
     dsimp only at K20
     replace K20:=Lib.hid K20
     have K21:=fun cb w hk=>cadd_any cb e20 ⟨o19l,o19h⟩ ⟨o20l,o20h⟩ W19 W20 w hk
     have W21:=wd_addM ⟨o19l,o19h⟩ ⟨o20l,o20h⟩ e20
     obtain ⟨⟨⟨o21l,o21h⟩,e21⟩,q21⟩:∃ z:SpanD × Int,addM ⟨o19l,o19h⟩ ⟨o20l,o20h⟩ e20=z:=⟨_,rfl⟩
     rw [q21] at K21 W21
     unfold CkPost spanV at K21
     try unfold ptS at K21
     dsimp only at K21
     replace K21:=Lib.hid K21
     have K22:=fun cb w hk=>cmul_any cb e21 (ptS h) ⟨fzl,fzh⟩ hph wfz w hk
     have W22:=wd_mulM (ptS h) ⟨fzl,fzh⟩ e21
     obtain ⟨⟨⟨o22l,o22h⟩,e22⟩,q22⟩:∃ z:SpanD × Int,mulM (ptS h) ⟨fzl,fzh⟩ e21=z:=⟨_,rfl⟩
     rw [q22] at K22 W22
     unfold CkPost spanV at K22
     try unfold ptS at K22
     dsimp only at K22
     replace K22:=Lib.hid K22
     have K23:=fun cb w hk=>cadd_any cb e22 ⟨bzl,bzh⟩ ⟨o22l,o22h⟩ wvz W22 w hk
     have W23:=wd_addM ⟨bzl,bzh⟩ ⟨o22l,o22h⟩ e22
     obtain ⟨⟨⟨o23l,o23h⟩,e23⟩,q23⟩:∃ z:SpanD × Int,addM ⟨bzl,bzh⟩ ⟨o22l,o22h⟩ e22=z:=⟨_,rfl⟩
     rw [q23] at K23 W23
     unfold CkPost spanV at K23
     try unfold ptS at K23
     dsimp only at K23
     replace K23:=Lib.hid K23
     have K24:=fun cb w hk=>cmul_any cb e23 (ptS h) ⟨fl,fh⟩ hph hfl w hk
     have W24:=wd_mulM (ptS h) ⟨fl,fh⟩ e23
     obtain ⟨⟨⟨o24l,o24h⟩,e24⟩,q24⟩:∃ z:SpanD × Int,mulM (ptS h) ⟨fl,fh⟩ e23=z:=⟨_,rfl⟩
     rw [q24] at K24 W24
     unfold CkPost spanV at K24
     try unfold ptS at K24
     dsimp only at K24
     replace K24:=Lib.hid K24
     have K25:=fun cb w hk=>csub_any cb e24 ⟨sml,smh⟩ ⟨o24l,o24h⟩ wm W24 w hk
     have W25:=wd_subM ⟨sml,smh⟩ ⟨o24l,o24h⟩ e24
     obtain ⟨⟨⟨o25l,o25h⟩,e25⟩,q25⟩:∃ z:SpanD × Int,subM ⟨sml,smh⟩ ⟨o24l,o24h⟩ e24=z:=⟨_,rfl⟩
     rw [q25] at K25 W25
     unfold CkPost spanV at K25
     try unfold ptS at K25
     dsimp only at K25
     replace K25:=Lib.hid K25
     have HT:=HTL.out ⟨⟨fxl,fxh⟩,⟨fyl,fyh⟩,⟨fzl,fzh⟩⟩ ef
     unfold tailM nextM CM.bnd CM.ret at HT
     rw [wholeS2] at HT
     simp only [q4,q5,q6,q7,q8,q9,q10,q11,q12,q13,q14,q15,q16,q17,q18,q19,q20,q21,q22,q23,q24,q25] at HT
     replace HT:=Lib.hid HT.symm
     clear HTL q4 W4 q5 W5 q6 W6 q7 W7 q8 W8 q9 W9 q10 W10 q11 W11 q12 W12 q13 W13 q14 W14 q15 W15 q16 W16 q17 W17 q18 W18 q19 W19 q20 W20 q21 W21 q22 W22 q23 W23 q24 W24 q25 W25
     go_wp2_with (first
       | (refine wpLoadF rfl 160 _ rfl qb 0 rfl _ _ (HF32.out.get 0 rfl) #[.int .i64 mul,.int .i64 muh,.int .i64 rl,.int .i64 rh,.int .i64 ol,.int .i64 oh,.int .i64 sl,.int .i64 sh,.int .i64 pxl,.int .i64 pxh,.int .i64 pyl,.int .i64 pyh,.int .i64 pzl,.int .i64 pzh,.int .i64 time,.int .i64 step,.int .i64 tl,.int .i64 th,.int .i64 fl,.int .i64 fh,.int .i64 dxl,.int .i64 dxh,.int .i64 dyl,.int .i64 dyh,.int .i64 dzl,.int .i64 dzh,.slice A n c,.int .i64 dl,.int .i64 dh] rfl _ und_160 rfl info_160 ?_)
       | (refine wpLoadF rfl 208 _ rfl g29 0 rfl _ _ (HF32.out.get 9 rfl) #[.int .i64 bpxl,.int .i64 bpxh,.int .i64 bpyl,.int .i64 bpyh,.int .i64 bpzl,.int .i64 bpzh,.int .i64 bvxl,.int .i64 bvxh,.int .i64 bvyl,.int .i64 bvyh,.int .i64 bvzl,.int .i64 bvzh] rfl _ und_208 rfl info_208 ?_)
       | (refine wpLoadF rfl 31 _ rfl g18_10 0 rfl _ _ (HF32.out.get 7 rfl) #[.int .i64 o3l,.int .i64 o3h] rfl _ und_span rfl info_span ?_))
     refine (H121.out g1 _ (HF32.out.ge 4 rfl) HF32.out.toBelow (HF32.out.get 4 rfl)).mono ?_
     rintro e w33 ⟨rfl,hw⟩
     have HF34:=Lib.hid (HF32.out.turn 4 rfl hw)
     clear hw
     obtain ⟨g35,hg35⟩:∃ g,w33.heap.size=g:=⟨_,rfl⟩
     obtain ⟨w35,hw35⟩:∃ u,w33.alloc (.cells #[.int .i64 0,.int .i64 0,.int .i64 0,.int .i64 0,.int .i64 0,.int .i64 0] 34)=u:=⟨_,rfl⟩
     have HF36:=Lib.hid (frE hw35 (HF34.out.alloc hg35.symm 34 #[.int .i64 0,.int .i64 0,.int .i64 0,.int .i64 0,.int .i64 0,.int .i64 0]))
     go_wp2_with (refine wpStoreF rfl rfl 34 _ _ rfl g35 0 rfl #[.int .i64 fxl,.int .i64 fxh,.int .i64 fyl,.int .i64 fyh,.int .i64 fzl,.int .i64 fzh] rfl _ _ (iC [fxl,fxh,fyl,fyh,fzl,fzh]) (HF36.out.get 10 rfl) rfl (by show 0+6≤6;omega) (one_all rfl) info_34 ?_;intro w37 hk ho;clear hw35 hg35;have HF38:=Lib.hid (HF36.out.only 10 rfl ho hk);clear ho hk)
     refine (HPT.out h _).mono ?_
     rintro e w39 ⟨rfl,hw⟩
     have HF40:=Lib.hid (HF38.out.below hw)
     clear hw
     obtain ⟨g41,hg41⟩:∃ g,w39.heap.size=g:=⟨_,rfl⟩
     obtain ⟨w41,hw41⟩:∃ u,w39.alloc (.cells #[.int .i64 0,.int .i64 0] 31)=u:=⟨_,rfl⟩
     have HF42:=Lib.hid (frE hw41 (HF40.out.alloc hg41.symm 31 #[.int .i64 0,.int .i64 0]))
     go_wp2_with (first
       | (refine wpLoadF rfl 31 _ rfl g41 0 rfl _ _ (HF44.out.get 11 rfl) #[.int .i64 h,.int .i64 h] rfl _ und_span rfl info_span ?_)
       | (refine wpStoreF rfl rfl 31 _ _ rfl g41 0 rfl #[.int .i64 h,.int .i64 h] rfl _ _ (iC [h,h]) (HF42.out.get 11 rfl) rfl (by show 0+2≤2;omega) (one_all rfl) info_span ?_;intro w43 hk ho;clear hw41 hg41;have HF44:=Lib.hid (HF42.out.only 11 rfl ho hk);clear ho hk))
     refine (K4.out g1 _ (HF44.out.get 4 rfl)).mono ?_
     rintro e w45 ⟨rfl,hw⟩
     have HF46:=Lib.hid (HF44.out.turn 4 rfl hw)
     clear hw
     go_wp2_with fail
     refine (HWHO.out _).mono ?_
     rintro e w47 ⟨rfl,hw⟩
     have HF48:=Lib.hid (HF46.out.below hw)
     clear hw
     go_wp2_with fail
     refine (K5.out g1 _ (HF48.out.get 4 rfl)).mono ?_
     rintro e w49 ⟨rfl,hw⟩
     have HF50:=Lib.hid (HF48.out.turn 4 rfl hw)
     clear hw
     obtain ⟨g51,hg51⟩:∃ g,w49.heap.size=g:=⟨_,rfl⟩
     obtain ⟨w51,hw51⟩:∃ u,w49.alloc (.cells #[.int .i64 0,.int .i64 0] 31)=u:=⟨_,rfl⟩
     have HF52:=Lib.hid (frE hw51 (HF50.out.alloc hg51.symm 31 #[.int .i64 0,.int .i64 0]))
     go_wp2_with (first
       | (refine wpStoreF rfl rfl 31 _ _ rfl g51 0 rfl #[.int .i64 o5l,.int .i64 o5h] rfl _ _ (iC [o5l,o5h]) (HF52.out.get 12 rfl) rfl (by show 0+2≤2;omega) (one_all rfl) info_span ?_;intro w53 hk ho;clear hw51 hg51;have HF54:=Lib.hid (HF52.out.only 12 rfl ho hk);clear ho hk;have c55:w53.cell? ⟨g10,0,none⟩=some (.int .i64 o1l):=(HF54.out.get 5 rfl).cell 0)
       | (refine wpStoreF rfl rfl 38 _ _ rfl (qb+1+1) 0 rfl #[.int .i64 o1l,.int .i64 0,.int .i64 0,.int .i64 0,.int .i64 0,.int .i64 0,.int .i64 0,.int .i64 0,.int .i64 0,.int .i64 0,.int .i64 0,.int .i64 0,.int .i64 0,.int .i64 0,.int .i64 0] rfl _ _ (iC [o1l,0,0,0,0,0,0,0,0,0,0,0,0,0,0]) (HF54.out.get 2 rfl) rfl (by show 0+15≤15;omega) (one_all rfl) info_38 ?_;intro w56 hk ho;clear c55;have HF57:=Lib.hid (HF54.out.only 2 rfl ho hk);clear ho hk))
     refine wp_loop_rounds 4 ?_
     rw [rounds_succ]
     go_upto_region 20 with (fail)
     refine wp_region_fr [Kind.p,Kind.p,Kind.p,Kind.p,Kind.p,Kind.p,Kind.p,Kind.p,Kind.p,Kind.p,Kind.p,Kind.p,Kind.p,Kind.c 0,Kind.c 1,Kind.p,Kind.p,Kind.p,Kind.p,Kind.p,Kind.c 2,Kind.c 3,Kind.p,Kind.p,Kind.c 4] [13,14,20,21,24] [] w (fun _=>[]) (fun k=>[(qb,160,#[.int .i64 mul,.int .i64 muh,.int .i64 rl,.int .i64 rh,.int .i64 ol,.int .i64 oh,.int .i64 sl,.int .i64 sh,.int .i64 pxl,.int .i64 pxh,.int .i64 pyl,.int .i64 pyh,.int .i64 pzl,.int .i64 pzh,.int .i64 time,.int .i64 step,.int .i64 tl,.int .i64 th,.int .i64 fl,.int .i64 fh,.int .i64 dxl,.int .i64 dxh,.int .i64 dyl,.int .i64 dyh,.int .i64 dzl,.int .i64 dzh,.slice A n c,.int .i64 dl,.int .i64 dh]),(qb+1,38,iC [st,axl,axh,ayl,ayh,azl,azh,bxl,bxh,byl,byh,bzl,bzh,sml,smh]),(qb+1+1,38,(if k≤4 then iC [o1l,0,0,0,0,0,0,0,0,0,0,0,0,0,0] else iC [o1l,o9l,o9h,0,0,0,0,0,0,0,0,0,0,0,0])),(qb+1+1+1,58,iC [0,0,0,0,0,0,0,0,0,0,0,0,0,0,0,0]),(g1,153,#[(match k with | 0=>.int .i64 e5 | 1=>.int .i64 e6 | 2=>.int .i64 e7 | 3=>.int .i64 e8 | 4=>.int .i64 e9 | _=>.int .i64 e9)]),(g10,31,iC [o1l,o1h]),(g14,31,iC [ql,qh]),(g18_10,31,iC [o3l,o3h]),(g23,208,iC [axl,axh,ayl,ayh,azl,azh,bxl,bxh,byl,byh,bzl,bzh]),(g29,208,iC [bpxl,bpxh,bpyl,bpyh,bpzl,bpzh,bvxl,bvxh,bvyl,bvyh,bvzl,bvzh]),(g35,34,iC [fxl,fxh,fyl,fyh,fzl,fzh]),(g41,31,iC [h,h]),(g51,31,iC [o5l,o5h])])
        (fun ix u _=>match ix with
         | 0=>u=.int .i64 0
         | 1=>u=.pointer (some ⟨g1,0,none⟩)
         | 2=>u=.pointer (some ⟨g1,0,none⟩)
         | 3=>u=.int .i64 0
         | 4=>u=.pointer (some ⟨qb+1,1,none⟩)
         | 5=>u=.pointer (some ⟨qb+1,1,none⟩)
         | 6=>u=.agg #[.int .i64 axl,.int .i64 axh]
         | 7=>u=.pointer (some ⟨g1,0,none⟩)
         | 8=>u=.agg #[.int .i64 h,.int .i64 h]
         | 9=>u=.int .i64 0
         | 10=>u=.pointer (some ⟨qb+1,7,none⟩)
         | 11=>u=.pointer (some ⟨qb+1,7,none⟩)
         | 12=>u=.agg #[.int .i64 bxl,.int .i64 bxh]
         | 13=>u=.agg #[.int .i64 o6l,.int .i64 o6h]
         | 14=>u=.agg #[.int .i64 o7l,.int .i64 o7h]
         | 15=>u=.pointer (some ⟨g1,0,none⟩)
         | 16=>u=.agg #[.int .i64 o5l,.int .i64 o5h]
         | 17=>u=.int .i64 0
         | 18=>u=.pointer (some ⟨g35,0,none⟩)
         | 19=>u=.agg #[.int .i64 fxl,.int .i64 fxh]
         | 20=>u=.agg #[.int .i64 o8l,.int .i64 o8h]
         | 21=>u=.agg #[.int .i64 o9l,.int .i64 o9h]
         | 22=>u=.pointer (some ⟨qb+1+1,1,none⟩)
         | 23=>u=.pointer (some ⟨qb+1+1,1,none⟩)
         | _=>True)
        (by kernel_rfl) (by kernel_rfl) (by kernel_rfl) [] rfl (by decide) (by kernel_rfl) (by kernel_rfl) HF57.out ?_ ?_
     ·refine ⟨?_,?_,?_,?_,?_,?_,?_,?_,?_,?_,?_,?_,?_,?_,?_,?_,?_,?_,?_,?_,?_,?_,?_,?_,?_,trivial⟩
      all_goals intro a w1 vs dn k K S hpre KE DE kk
      ·have e19:=KE 19 (by decide)
       go_simp;exact kk _ _ (by simp) bR rfl
      ·have e9:=KE 9 (by decide)
       go_simp;exact kk _ _ (by simp) bR rfl
      ·have e9:=KE 9 (by decide)
       go_simp;exact kk _ _ (by simp) bR rfl
      ·have e19:=KE 19 (by decide)
       go_simp;exact kk _ _ (by simp) bR rfl
      ·have e4:=KE 4 (by decide)
       go_simp;exact kk _ _ (by simp) bR rfl
      ·have e111:=dep (DE 4 _ 111 rfl rfl rfl)
       have e110:=dep (DE 3 _ 110 rfl rfl rfl)
       go_simp;exact kk _ _ (by simp) bR rfl
      ·have e112:=dep (DE 5 _ 112 rfl rfl rfl)
       exact wpo_loadF 31 (.tmp 112) rfl (qb+1) 1 (by simpa [Act.eval] using e112) _ _ (S.fr.left.get 1 rfl) #[.int .i64 axl,.int .i64 axh] rfl _ und_span rfl info_span (kk _ _ (by simp) bR rfl)
      ·have e9:=KE 9 (by decide)
       go_simp;exact kk _ _ (by simp) bR rfl
      ·have e17:=KE 17 (by decide)
       exact wpo_loadF 31 (.tmp 17) rfl g41 0 (by simpa [Act.eval] using e17) _ _ (S.fr.left.get 11 rfl) #[.int .i64 h,.int .i64 h] rfl _ und_span rfl info_span (kk _ _ (by simp) bR rfl)
      ·have e19:=KE 19 (by decide)
       go_simp;exact kk _ _ (by simp) bR rfl
      ·have e4:=KE 4 (by decide)
       go_simp;exact kk _ _ (by simp) bR rfl
      ·have e117:=dep (DE 10 _ 117 rfl rfl rfl)
       have e116:=dep (DE 9 _ 116 rfl rfl rfl)
       go_simp;exact kk _ _ (by simp) bR rfl
      ·have e118:=dep (DE 11 _ 118 rfl rfl rfl)
       exact wpo_loadF 31 (.tmp 118) rfl (qb+1) 7 (by simpa [Act.eval] using e118) _ _ (S.fr.left.get 1 rfl) #[.int .i64 bxl,.int .i64 bxh] rfl _ und_span rfl info_span (kk _ _ (by simp) bR rfl)
      ·subst hpre
       have e114:=dep (DE 7 _ 114 rfl rfl rfl)
       have e115:=dep (DE 8 _ 115 rfl rfl rfl)
       have e119:=dep (DE 12 _ 119 rfl rfl rfl)
       exact wpo_call 118 _ _ rfl #[.pointer (some ⟨g1,0,none⟩),.agg #[.int .i64 h,.int .i64 h],.agg #[.int .i64 bxl,.int .i64 bxh]] (by simp [Act.eval,e114,e115,e119]) (fun args w=>by kernel_rfl)
        ((K6.out g1 w1 (S.fr.left.get 4 rfl)).mono fun e w' ⟨he,hb⟩=>⟨_,he,kk _ _ (by simp) (Fr.stage (S.fr.turn 4 rfl hb) (by exact trivial)) rfl⟩)
      ·subst hpre
       have e109:=dep (DE 2 _ 109 rfl rfl rfl)
       have e113:=dep (DE 6 _ 113 rfl rfl rfl)
       have e120:=dep (DE 13 _ 120 rfl rfl rfl)
       exact wpo_call 116 _ _ rfl #[.pointer (some ⟨g1,0,none⟩),.agg #[.int .i64 axl,.int .i64 axh],.agg #[.int .i64 o6l,.int .i64 o6h]] (by simp [Act.eval,e109,e113,e120]) (fun args w=>by kernel_rfl)
        ((K7.out g1 w1 (S.fr.left.get 4 rfl)).mono fun e w' ⟨he,hb⟩=>⟨_,he,kk _ _ (by simp) (Fr.stage (S.fr.turn 4 rfl hb) (by exact trivial)) rfl⟩)
      ·have e9:=KE 9 (by decide)
       go_simp;exact kk _ _ (by simp) bR rfl
      ·have e18:=KE 18 (by decide)
       exact wpo_loadF 31 (.tmp 18) rfl g51 0 (by simpa [Act.eval] using e18) _ _ (S.fr.left.get 12 rfl) #[.int .i64 o5l,.int .i64 o5h] rfl _ und_span rfl info_span (kk _ _ (by simp) bR rfl)
      ·have e19:=KE 19 (by decide)
       go_simp;exact kk _ _ (by simp) bR rfl
      ·have e16:=KE 16 (by decide)
       have e124:=dep (DE 17 _ 124 rfl rfl rfl)
       go_simp;exact kk _ _ (by simp) bR rfl
      ·have e125:=dep (DE 18 _ 125 rfl rfl rfl)
       exact wpo_loadF 31 (.tmp 125) rfl g35 0 (by simpa [Act.eval] using e125) _ _ (S.fr.left.get 10 rfl) #[.int .i64 fxl,.int .i64 fxh] rfl _ und_span rfl info_span (kk _ _ (by simp) bR rfl)
      ·subst hpre
       have e122:=dep (DE 15 _ 122 rfl rfl rfl)
       have e123:=dep (DE 16 _ 123 rfl rfl rfl)
       have e126:=dep (DE 19 _ 126 rfl rfl rfl)
       exact wpo_call 118 _ _ rfl #[.pointer (some ⟨g1,0,none⟩),.agg #[.int .i64 o5l,.int .i64 o5h],.agg #[.int .i64 fxl,.int .i64 fxh]] (by simp [Act.eval,e122,e123,e126]) (fun args w=>by kernel_rfl)
        ((K8.out g1 w1 (S.fr.left.get 4 rfl)).mono fun e w' ⟨he,hb⟩=>⟨_,he,kk _ _ (by simp) (Fr.stage (S.fr.turn 4 rfl hb) (by exact trivial)) rfl⟩)
      ·subst hpre
       have e108:=dep (DE 1 _ 108 rfl rfl rfl)
       have e121:=dep (DE 14 _ 121 rfl rfl rfl)
       have e127:=dep (DE 20 _ 127 rfl rfl rfl)
       exact wpo_call 116 _ _ rfl #[.pointer (some ⟨g1,0,none⟩),.agg #[.int .i64 o7l,.int .i64 o7h],.agg #[.int .i64 o8l,.int .i64 o8h]] (by simp [Act.eval,e108,e121,e127]) (fun args w=>by kernel_rfl)
        ((K9.out g1 w1 (S.fr.left.get 4 rfl)).mono fun e w' ⟨he,hb⟩=>⟨_,he,kk _ _ (by simp) (Fr.stage (S.fr.turn 4 rfl hb) (by exact trivial)) rfl⟩)
      ·have e6:=KE 6 (by decide)
       go_simp;exact kk _ _ (by simp) bR rfl
      ·have e129:=dep (DE 22 _ 129 rfl rfl rfl)
       have e107:=dep (DE 0 _ 107 rfl rfl rfl)
       go_simp;exact kk _ _ (by simp) bR rfl
      ·subst hpre
       have e130:=dep (DE 23 _ 130 rfl rfl rfl)
       have e128:=dep (DE 21 _ 128 rfl rfl rfl)
       exact wpo_storeF 31 (.tmp 130) (.tmp 128) rfl rfl (qb+1+1) 1 (by simpa [Act.eval] using e130) #[.int .i64 o9l,.int .i64 o9h] (by simpa [Act.eval] using e128) _ _ (iC [o1l,o9l,o9h,0,0,0,0,0,0,0,0,0,0,0,0]) (by have:=S.fr.left.get 2 rfl;rw [if_pos (S.hi 4 24 rfl rfl)] at this;exact this) rfl (by show 1+2≤15;omega) (one_all rfl) info_span fun w' hk ho=>kk _ _ (by simp) (Fr.stage (S.fr.only 2 rfl ho hk) (by exact trivial)) trivial
     ·intro vs wf HFr HR
      have HFr':Fr w [] [(qb,160,#[.int .i64 mul,.int .i64 muh,.int .i64 rl,.int .i64 rh,.int .i64 ol,.int .i64 oh,.int .i64 sl,.int .i64 sh,.int .i64 pxl,.int .i64 pxh,.int .i64 pyl,.int .i64 pyh,.int .i64 pzl,.int .i64 pzh,.int .i64 time,.int .i64 step,.int .i64 tl,.int .i64 th,.int .i64 fl,.int .i64 fh,.int .i64 dxl,.int .i64 dxh,.int .i64 dyl,.int .i64 dyh,.int .i64 dzl,.int .i64 dzh,.slice A n c,.int .i64 dl,.int .i64 dh]),(qb+1,38,iC [st,axl,axh,ayl,ayh,azl,azh,bxl,bxh,byl,byh,bzl,bzh,sml,smh]),(qb+1+1,38,iC [o1l,o9l,o9h,0,0,0,0,0,0,0,0,0,0,0,0]),(qb+1+1+1,58,iC [0,0,0,0,0,0,0,0,0,0,0,0,0,0,0,0]),(g1,153,iC [e9]),(g10,31,iC [o1l,o1h]),(g14,31,iC [ql,qh]),(g18_10,31,iC [o3l,o3h]),(g23,208,iC [axl,axh,ayl,ayh,azl,azh,bxl,bxh,byl,byh,bzl,bzh]),(g29,208,iC [bpxl,bpxh,bpyl,bpyh,bpzl,bpzh,bvxl,bvxh,bvyl,bvyh,bvzl,bvzh]),(g35,34,iC [fxl,fxh,fyl,fyh,fzl,fzh]),(g41,31,iC [h,h]),(g51,31,iC [o5l,o5h])] wf:=HFr
      clear HFr HR
      have HF58:=Lib.hid HFr'
      clear HFr'
      simp only [putAll,Act.put,List.setIfInBounds_toArray,List.set_cons_zero,List.set_cons_succ]
      obtain ⟨w58,rfl⟩:∃ u:World,u=wf:=⟨_,rfl⟩
      clear K6 K7 K8 K9
      go_upto_region 21 with (fail)
      refine wp_region_fr [Kind.p,Kind.p,Kind.p,Kind.p,Kind.p,Kind.p,Kind.p,Kind.p,Kind.p,Kind.p,Kind.p,Kind.c 0,Kind.c 1,Kind.p,Kind.p,Kind.c 2] [11,12,15] [] w (fun _=>[]) (fun k=>[(qb,160,#[.int .i64 mul,.int .i64 muh,.int .i64 rl,.int .i64 rh,.int .i64 ol,.int .i64 oh,.int .i64 sl,.int .i64 sh,.int .i64 pxl,.int .i64 pxh,.int .i64 pyl,.int .i64 pyh,.int .i64 pzl,.int .i64 pzh,.int .i64 time,.int .i64 step,.int .i64 tl,.int .i64 th,.int .i64 fl,.int .i64 fh,.int .i64 dxl,.int .i64 dxh,.int .i64 dyl,.int .i64 dyh,.int .i64 dzl,.int .i64 dzh,.slice A n c,.int .i64 dl,.int .i64 dh]),(qb+1,38,iC [st,axl,axh,ayl,ayh,azl,azh,bxl,bxh,byl,byh,bzl,bzh,sml,smh]),(qb+1+1,38,(if k≤2 then iC [o1l,o9l,o9h,0,0,0,0,0,0,0,0,0,0,0,0] else iC [o1l,o9l,o9h,0,0,0,0,o11l,o11h,0,0,0,0,0,0])),(qb+1+1+1,58,iC [0,0,0,0,0,0,0,0,0,0,0,0,0,0,0,0]),(g1,153,#[(match k with | 0=>.int .i64 e9 | 1=>.int .i64 e10 | 2=>.int .i64 e11 | _=>.int .i64 e11)]),(g10,31,iC [o1l,o1h]),(g14,31,iC [ql,qh]),(g18_10,31,iC [o3l,o3h]),(g23,208,iC [axl,axh,ayl,ayh,azl,azh,bxl,bxh,byl,byh,bzl,bzh]),(g29,208,iC [bpxl,bpxh,bpyl,bpyh,bpzl,bpzh,bvxl,bvxh,bvyl,bvyh,bvzl,bvzh]),(g35,34,iC [fxl,fxh,fyl,fyh,fzl,fzh]),(g41,31,iC [h,h]),(g51,31,iC [o5l,o5h])])
         (fun ix u _=>match ix with
          | 0=>u=.int .i64 0
          | 1=>u=.pointer (some ⟨g1,0,none⟩)
          | 2=>u=.int .i64 0
          | 3=>u=.pointer (some ⟨qb+1,7,none⟩)
          | 4=>u=.pointer (some ⟨qb+1,7,none⟩)
          | 5=>u=.agg #[.int .i64 bxl,.int .i64 bxh]
          | 6=>u=.pointer (some ⟨g1,0,none⟩)
          | 7=>u=.agg #[.int .i64 h,.int .i64 h]
          | 8=>u=.int .i64 0
          | 9=>u=.pointer (some ⟨g35,0,none⟩)
          | 10=>u=.agg #[.int .i64 fxl,.int .i64 fxh]
          | 11=>u=.agg #[.int .i64 o10l,.int .i64 o10h]
          | 12=>u=.agg #[.int .i64 o11l,.int .i64 o11h]
          | 13=>u=.pointer (some ⟨qb+1+1,7,none⟩)
          | 14=>u=.pointer (some ⟨qb+1+1,7,none⟩)
          | _=>True)
         (by kernel_rfl) (by kernel_rfl) (by kernel_rfl) [] rfl (by decide) (by kernel_rfl) (by kernel_rfl) HF58.out ?_ ?_
      ·refine ⟨?_,?_,?_,?_,?_,?_,?_,?_,?_,?_,?_,?_,?_,?_,?_,?_,trivial⟩
       all_goals intro a w1 vs dn k K S hpre KE DE kk
       ·have e19:=KE 19 (by decide)
        go_simp;exact kk _ _ (by simp) bR rfl
       ·have e9:=KE 9 (by decide)
        go_simp;exact kk _ _ (by simp) bR rfl
       ·have e19:=KE 19 (by decide)
        go_simp;exact kk _ _ (by simp) bR rfl
       ·have e4:=KE 4 (by decide)
        go_simp;exact kk _ _ (by simp) bR rfl
       ·have e134:=dep (DE 3 _ 134 rfl rfl rfl)
        have e133:=dep (DE 2 _ 133 rfl rfl rfl)
        go_simp;exact kk _ _ (by simp) bR rfl
       ·have e135:=dep (DE 4 _ 135 rfl rfl rfl)
        exact wpo_loadF 31 (.tmp 135) rfl (qb+1) 7 (by simpa [Act.eval] using e135) _ _ (S.fr.left.get 1 rfl) #[.int .i64 bxl,.int .i64 bxh] rfl _ und_span rfl info_span (kk _ _ (by simp) bR rfl)
       ·have e9:=KE 9 (by decide)
        go_simp;exact kk _ _ (by simp) bR rfl
       ·have e17:=KE 17 (by decide)
        exact wpo_loadF 31 (.tmp 17) rfl g41 0 (by simpa [Act.eval] using e17) _ _ (S.fr.left.get 11 rfl) #[.int .i64 h,.int .i64 h] rfl _ und_span rfl info_span (kk _ _ (by simp) bR rfl)
       ·have e19:=KE 19 (by decide)
        go_simp;exact kk _ _ (by simp) bR rfl
       ·have e16:=KE 16 (by decide)
        have e139:=dep (DE 8 _ 139 rfl rfl rfl)
        go_simp;exact kk _ _ (by simp) bR rfl
       ·have e140:=dep (DE 9 _ 140 rfl rfl rfl)
        exact wpo_loadF 31 (.tmp 140) rfl g35 0 (by simpa [Act.eval] using e140) _ _ (S.fr.left.get 10 rfl) #[.int .i64 fxl,.int .i64 fxh] rfl _ und_span rfl info_span (kk _ _ (by simp) bR rfl)
       ·subst hpre
        have e137:=dep (DE 6 _ 137 rfl rfl rfl)
        have e138:=dep (DE 7 _ 138 rfl rfl rfl)
        have e141:=dep (DE 10 _ 141 rfl rfl rfl)
        exact wpo_call 118 _ _ rfl #[.pointer (some ⟨g1,0,none⟩),.agg #[.int .i64 h,.int .i64 h],.agg #[.int .i64 fxl,.int .i64 fxh]] (by simp [Act.eval,e137,e138,e141]) (fun args w=>by kernel_rfl)
         ((K10.out g1 w1 (S.fr.left.get 4 rfl)).mono fun e w' ⟨he,hb⟩=>⟨_,he,kk _ _ (by simp) (Fr.stage (S.fr.turn 4 rfl hb) (by exact trivial)) rfl⟩)
       ·subst hpre
        have e132:=dep (DE 1 _ 132 rfl rfl rfl)
        have e136:=dep (DE 5 _ 136 rfl rfl rfl)
        have e142:=dep (DE 11 _ 142 rfl rfl rfl)
        exact wpo_call 116 _ _ rfl #[.pointer (some ⟨g1,0,none⟩),.agg #[.int .i64 bxl,.int .i64 bxh],.agg #[.int .i64 o10l,.int .i64 o10h]] (by simp [Act.eval,e132,e136,e142]) (fun args w=>by kernel_rfl)
         ((K11.out g1 w1 (S.fr.left.get 4 rfl)).mono fun e w' ⟨he,hb⟩=>⟨_,he,kk _ _ (by simp) (Fr.stage (S.fr.turn 4 rfl hb) (by exact trivial)) rfl⟩)
       ·have e6:=KE 6 (by decide)
        go_simp;exact kk _ _ (by simp) bR rfl
       ·have e144:=dep (DE 13 _ 144 rfl rfl rfl)
        have e131:=dep (DE 0 _ 131 rfl rfl rfl)
        go_simp;exact kk _ _ (by simp) bR rfl
       ·subst hpre
        have e145:=dep (DE 14 _ 145 rfl rfl rfl)
        have e143:=dep (DE 12 _ 143 rfl rfl rfl)
        exact wpo_storeF 31 (.tmp 145) (.tmp 143) rfl rfl (qb+1+1) 7 (by simpa [Act.eval] using e145) #[.int .i64 o11l,.int .i64 o11h] (by simpa [Act.eval] using e143) _ _ (iC [o1l,o9l,o9h,0,0,0,0,o11l,o11h,0,0,0,0,0,0]) (by have:=S.fr.left.get 2 rfl;rw [if_pos (S.hi 2 15 rfl rfl)] at this;exact this) rfl (by show 7+2≤15;omega) (one_all rfl) info_span fun w' hk ho=>kk _ _ (by simp) (Fr.stage (S.fr.only 2 rfl ho hk) (by exact trivial)) trivial
      ·intro vs wf HFr HR
       have HFr':Fr w [] [(qb,160,#[.int .i64 mul,.int .i64 muh,.int .i64 rl,.int .i64 rh,.int .i64 ol,.int .i64 oh,.int .i64 sl,.int .i64 sh,.int .i64 pxl,.int .i64 pxh,.int .i64 pyl,.int .i64 pyh,.int .i64 pzl,.int .i64 pzh,.int .i64 time,.int .i64 step,.int .i64 tl,.int .i64 th,.int .i64 fl,.int .i64 fh,.int .i64 dxl,.int .i64 dxh,.int .i64 dyl,.int .i64 dyh,.int .i64 dzl,.int .i64 dzh,.slice A n c,.int .i64 dl,.int .i64 dh]),(qb+1,38,iC [st,axl,axh,ayl,ayh,azl,azh,bxl,bxh,byl,byh,bzl,bzh,sml,smh]),(qb+1+1,38,iC [o1l,o9l,o9h,0,0,0,0,o11l,o11h,0,0,0,0,0,0]),(qb+1+1+1,58,iC [0,0,0,0,0,0,0,0,0,0,0,0,0,0,0,0]),(g1,153,iC [e11]),(g10,31,iC [o1l,o1h]),(g14,31,iC [ql,qh]),(g18_10,31,iC [o3l,o3h]),(g23,208,iC [axl,axh,ayl,ayh,azl,azh,bxl,bxh,byl,byh,bzl,bzh]),(g29,208,iC [bpxl,bpxh,bpyl,bpyh,bpzl,bpzh,bvxl,bvxh,bvyl,bvyh,bvzl,bvzh]),(g35,34,iC [fxl,fxh,fyl,fyh,fzl,fzh]),(g41,31,iC [h,h]),(g51,31,iC [o5l,o5h])] wf:=HFr
       clear HFr HR
       have HF59:=Lib.hid HFr'
       clear HFr'
       simp only [putAll,Act.put,List.setIfInBounds_toArray,List.set_cons_zero,List.set_cons_succ]
       obtain ⟨w59,rfl⟩:∃ u:World,u=wf:=⟨_,rfl⟩
       clear K10 K11
       go_wp2_with fail
       rw [rounds_succ]
       go_upto_region 20 with (fail)
       refine wp_region_fr [Kind.p,Kind.p,Kind.p,Kind.p,Kind.p,Kind.p,Kind.p,Kind.p,Kind.p,Kind.p,Kind.p,Kind.p,Kind.p,Kind.c 0,Kind.c 1,Kind.p,Kind.p,Kind.p,Kind.p,Kind.p,Kind.c 2,Kind.c 3,Kind.p,Kind.p,Kind.c 4] [13,14,20,21,24] [] w (fun _=>[]) (fun k=>[(qb,160,#[.int .i64 mul,.int .i64 muh,.int .i64 rl,.int .i64 rh,.int .i64 ol,.int .i64 oh,.int .i64 sl,.int .i64 sh,.int .i64 pxl,.int .i64 pxh,.int .i64 pyl,.int .i64 pyh,.int .i64 pzl,.int .i64 pzh,.int .i64 time,.int .i64 step,.int .i64 tl,.int .i64 th,.int .i64 fl,.int .i64 fh,.int .i64 dxl,.int .i64 dxh,.int .i64 dyl,.int .i64 dyh,.int .i64 dzl,.int .i64 dzh,.slice A n c,.int .i64 dl,.int .i64 dh]),(qb+1,38,iC [st,axl,axh,ayl,ayh,azl,azh,bxl,bxh,byl,byh,bzl,bzh,sml,smh]),(qb+1+1,38,(if k≤4 then iC [o1l,o9l,o9h,0,0,0,0,o11l,o11h,0,0,0,0,0,0] else iC [o1l,o9l,o9h,o15l,o15h,0,0,o11l,o11h,0,0,0,0,0,0])),(qb+1+1+1,58,iC [0,0,0,0,0,0,0,0,0,0,0,0,0,0,0,0]),(g1,153,#[(match k with | 0=>.int .i64 e11 | 1=>.int .i64 e12 | 2=>.int .i64 e13 | 3=>.int .i64 e14 | 4=>.int .i64 e15 | _=>.int .i64 e15)]),(g10,31,iC [o1l,o1h]),(g14,31,iC [ql,qh]),(g18_10,31,iC [o3l,o3h]),(g23,208,iC [axl,axh,ayl,ayh,azl,azh,bxl,bxh,byl,byh,bzl,bzh]),(g29,208,iC [bpxl,bpxh,bpyl,bpyh,bpzl,bpzh,bvxl,bvxh,bvyl,bvyh,bvzl,bvzh]),(g35,34,iC [fxl,fxh,fyl,fyh,fzl,fzh]),(g41,31,iC [h,h]),(g51,31,iC [o5l,o5h])])
          (fun ix u _=>match ix with
           | 0=>u=.int .i64 1
           | 1=>u=.pointer (some ⟨g1,0,none⟩)
           | 2=>u=.pointer (some ⟨g1,0,none⟩)
           | 3=>u=.int .i64 1
           | 4=>u=.pointer (some ⟨qb+1,1,none⟩)
           | 5=>u=.pointer (some ⟨qb+1,3,none⟩)
           | 6=>u=.agg #[.int .i64 ayl,.int .i64 ayh]
           | 7=>u=.pointer (some ⟨g1,0,none⟩)
           | 8=>u=.agg #[.int .i64 h,.int .i64 h]
           | 9=>u=.int .i64 1
           | 10=>u=.pointer (some ⟨qb+1,7,none⟩)
           | 11=>u=.pointer (some ⟨qb+1,9,none⟩)
           | 12=>u=.agg #[.int .i64 byl,.int .i64 byh]
           | 13=>u=.agg #[.int .i64 o12l,.int .i64 o12h]
           | 14=>u=.agg #[.int .i64 o13l,.int .i64 o13h]
           | 15=>u=.pointer (some ⟨g1,0,none⟩)
           | 16=>u=.agg #[.int .i64 o5l,.int .i64 o5h]
           | 17=>u=.int .i64 1
           | 18=>u=.pointer (some ⟨g35,2,none⟩)
           | 19=>u=.agg #[.int .i64 fyl,.int .i64 fyh]
           | 20=>u=.agg #[.int .i64 o14l,.int .i64 o14h]
           | 21=>u=.agg #[.int .i64 o15l,.int .i64 o15h]
           | 22=>u=.pointer (some ⟨qb+1+1,1,none⟩)
           | 23=>u=.pointer (some ⟨qb+1+1,3,none⟩)
           | _=>True)
          (by kernel_rfl) (by kernel_rfl) (by kernel_rfl) [] rfl (by decide) (by kernel_rfl) (by kernel_rfl) HF59.out ?_ ?_
       ·refine ⟨?_,?_,?_,?_,?_,?_,?_,?_,?_,?_,?_,?_,?_,?_,?_,?_,?_,?_,?_,?_,?_,?_,?_,?_,?_,trivial⟩
        all_goals intro a w1 vs dn k K S hpre KE DE kk
        ·have e19:=KE 19 (by decide)
         go_simp;exact kk _ _ (by simp) bR rfl
        ·have e9:=KE 9 (by decide)
         go_simp;exact kk _ _ (by simp) bR rfl
        ·have e9:=KE 9 (by decide)
         go_simp;exact kk _ _ (by simp) bR rfl
        ·have e19:=KE 19 (by decide)
         go_simp;exact kk _ _ (by simp) bR rfl
        ·have e4:=KE 4 (by decide)
         go_simp;exact kk _ _ (by simp) bR rfl
        ·have e111:=dep (DE 4 _ 111 rfl rfl rfl)
         have e110:=dep (DE 3 _ 110 rfl rfl rfl)
         go_simp;exact kk _ _ (by simp) bR rfl
        ·have e112:=dep (DE 5 _ 112 rfl rfl rfl)
         exact wpo_loadF 31 (.tmp 112) rfl (qb+1) 3 (by simpa [Act.eval] using e112) _ _ (S.fr.left.get 1 rfl) #[.int .i64 ayl,.int .i64 ayh] rfl _ und_span rfl info_span (kk _ _ (by simp) bR rfl)
        ·have e9:=KE 9 (by decide)
         go_simp;exact kk _ _ (by simp) bR rfl
        ·have e17:=KE 17 (by decide)
         exact wpo_loadF 31 (.tmp 17) rfl g41 0 (by simpa [Act.eval] using e17) _ _ (S.fr.left.get 11 rfl) #[.int .i64 h,.int .i64 h] rfl _ und_span rfl info_span (kk _ _ (by simp) bR rfl)
        ·have e19:=KE 19 (by decide)
         go_simp;exact kk _ _ (by simp) bR rfl
        ·have e4:=KE 4 (by decide)
         go_simp;exact kk _ _ (by simp) bR rfl
        ·have e117:=dep (DE 10 _ 117 rfl rfl rfl)
         have e116:=dep (DE 9 _ 116 rfl rfl rfl)
         go_simp;exact kk _ _ (by simp) bR rfl
        ·have e118:=dep (DE 11 _ 118 rfl rfl rfl)
         exact wpo_loadF 31 (.tmp 118) rfl (qb+1) 9 (by simpa [Act.eval] using e118) _ _ (S.fr.left.get 1 rfl) #[.int .i64 byl,.int .i64 byh] rfl _ und_span rfl info_span (kk _ _ (by simp) bR rfl)
        ·subst hpre
         have e114:=dep (DE 7 _ 114 rfl rfl rfl)
         have e115:=dep (DE 8 _ 115 rfl rfl rfl)
         have e119:=dep (DE 12 _ 119 rfl rfl rfl)
         exact wpo_call 118 _ _ rfl #[.pointer (some ⟨g1,0,none⟩),.agg #[.int .i64 h,.int .i64 h],.agg #[.int .i64 byl,.int .i64 byh]] (by simp [Act.eval,e114,e115,e119]) (fun args w=>by kernel_rfl)
          ((K12.out g1 w1 (S.fr.left.get 4 rfl)).mono fun e w' ⟨he,hb⟩=>⟨_,he,kk _ _ (by simp) (Fr.stage (S.fr.turn 4 rfl hb) (by exact trivial)) rfl⟩)
        ·subst hpre
         have e109:=dep (DE 2 _ 109 rfl rfl rfl)
         have e113:=dep (DE 6 _ 113 rfl rfl rfl)
         have e120:=dep (DE 13 _ 120 rfl rfl rfl)
         exact wpo_call 116 _ _ rfl #[.pointer (some ⟨g1,0,none⟩),.agg #[.int .i64 ayl,.int .i64 ayh],.agg #[.int .i64 o12l,.int .i64 o12h]] (by simp [Act.eval,e109,e113,e120]) (fun args w=>by kernel_rfl)
          ((K13.out g1 w1 (S.fr.left.get 4 rfl)).mono fun e w' ⟨he,hb⟩=>⟨_,he,kk _ _ (by simp) (Fr.stage (S.fr.turn 4 rfl hb) (by exact trivial)) rfl⟩)
        ·have e9:=KE 9 (by decide)
         go_simp;exact kk _ _ (by simp) bR rfl
        ·have e18:=KE 18 (by decide)
         exact wpo_loadF 31 (.tmp 18) rfl g51 0 (by simpa [Act.eval] using e18) _ _ (S.fr.left.get 12 rfl) #[.int .i64 o5l,.int .i64 o5h] rfl _ und_span rfl info_span (kk _ _ (by simp) bR rfl)
        ·have e19:=KE 19 (by decide)
         go_simp;exact kk _ _ (by simp) bR rfl
        ·have e16:=KE 16 (by decide)
         have e124:=dep (DE 17 _ 124 rfl rfl rfl)
         go_simp;exact kk _ _ (by simp) bR rfl
        ·have e125:=dep (DE 18 _ 125 rfl rfl rfl)
         exact wpo_loadF 31 (.tmp 125) rfl g35 2 (by simpa [Act.eval] using e125) _ _ (S.fr.left.get 10 rfl) #[.int .i64 fyl,.int .i64 fyh] rfl _ und_span rfl info_span (kk _ _ (by simp) bR rfl)
        ·subst hpre
         have e122:=dep (DE 15 _ 122 rfl rfl rfl)
         have e123:=dep (DE 16 _ 123 rfl rfl rfl)
         have e126:=dep (DE 19 _ 126 rfl rfl rfl)
         exact wpo_call 118 _ _ rfl #[.pointer (some ⟨g1,0,none⟩),.agg #[.int .i64 o5l,.int .i64 o5h],.agg #[.int .i64 fyl,.int .i64 fyh]] (by simp [Act.eval,e122,e123,e126]) (fun args w=>by kernel_rfl)
          ((K14.out g1 w1 (S.fr.left.get 4 rfl)).mono fun e w' ⟨he,hb⟩=>⟨_,he,kk _ _ (by simp) (Fr.stage (S.fr.turn 4 rfl hb) (by exact trivial)) rfl⟩)
        ·subst hpre
         have e108:=dep (DE 1 _ 108 rfl rfl rfl)
         have e121:=dep (DE 14 _ 121 rfl rfl rfl)
         have e127:=dep (DE 20 _ 127 rfl rfl rfl)
         exact wpo_call 116 _ _ rfl #[.pointer (some ⟨g1,0,none⟩),.agg #[.int .i64 o13l,.int .i64 o13h],.agg #[.int .i64 o14l,.int .i64 o14h]] (by simp [Act.eval,e108,e121,e127]) (fun args w=>by kernel_rfl)
          ((K15.out g1 w1 (S.fr.left.get 4 rfl)).mono fun e w' ⟨he,hb⟩=>⟨_,he,kk _ _ (by simp) (Fr.stage (S.fr.turn 4 rfl hb) (by exact trivial)) rfl⟩)
        ·have e6:=KE 6 (by decide)
         go_simp;exact kk _ _ (by simp) bR rfl
        ·have e129:=dep (DE 22 _ 129 rfl rfl rfl)
         have e107:=dep (DE 0 _ 107 rfl rfl rfl)
         go_simp;exact kk _ _ (by simp) bR rfl
        ·subst hpre
         have e130:=dep (DE 23 _ 130 rfl rfl rfl)
         have e128:=dep (DE 21 _ 128 rfl rfl rfl)
         exact wpo_storeF 31 (.tmp 130) (.tmp 128) rfl rfl (qb+1+1) 3 (by simpa [Act.eval] using e130) #[.int .i64 o15l,.int .i64 o15h] (by simpa [Act.eval] using e128) _ _ (iC [o1l,o9l,o9h,o15l,o15h,0,0,o11l,o11h,0,0,0,0,0,0]) (by have:=S.fr.left.get 2 rfl;rw [if_pos (S.hi 4 24 rfl rfl)] at this;exact this) rfl (by show 3+2≤15;omega) (one_all rfl) info_span fun w' hk ho=>kk _ _ (by simp) (Fr.stage (S.fr.only 2 rfl ho hk) (by exact trivial)) trivial
       ·intro vs wf HFr HR
        have HFr':Fr w [] [(qb,160,#[.int .i64 mul,.int .i64 muh,.int .i64 rl,.int .i64 rh,.int .i64 ol,.int .i64 oh,.int .i64 sl,.int .i64 sh,.int .i64 pxl,.int .i64 pxh,.int .i64 pyl,.int .i64 pyh,.int .i64 pzl,.int .i64 pzh,.int .i64 time,.int .i64 step,.int .i64 tl,.int .i64 th,.int .i64 fl,.int .i64 fh,.int .i64 dxl,.int .i64 dxh,.int .i64 dyl,.int .i64 dyh,.int .i64 dzl,.int .i64 dzh,.slice A n c,.int .i64 dl,.int .i64 dh]),(qb+1,38,iC [st,axl,axh,ayl,ayh,azl,azh,bxl,bxh,byl,byh,bzl,bzh,sml,smh]),(qb+1+1,38,iC [o1l,o9l,o9h,o15l,o15h,0,0,o11l,o11h,0,0,0,0,0,0]),(qb+1+1+1,58,iC [0,0,0,0,0,0,0,0,0,0,0,0,0,0,0,0]),(g1,153,iC [e15]),(g10,31,iC [o1l,o1h]),(g14,31,iC [ql,qh]),(g18_10,31,iC [o3l,o3h]),(g23,208,iC [axl,axh,ayl,ayh,azl,azh,bxl,bxh,byl,byh,bzl,bzh]),(g29,208,iC [bpxl,bpxh,bpyl,bpyh,bpzl,bpzh,bvxl,bvxh,bvyl,bvyh,bvzl,bvzh]),(g35,34,iC [fxl,fxh,fyl,fyh,fzl,fzh]),(g41,31,iC [h,h]),(g51,31,iC [o5l,o5h])] wf:=HFr
        clear HFr HR
        have HF60:=Lib.hid HFr'
        clear HFr'
        simp only [putAll,Act.put,List.setIfInBounds_toArray,List.set_cons_zero,List.set_cons_succ]
        obtain ⟨w60,rfl⟩:∃ u:World,u=wf:=⟨_,rfl⟩
        clear K12 K13 K14 K15
        go_upto_region 21 with (fail)
        refine wp_region_fr [Kind.p,Kind.p,Kind.p,Kind.p,Kind.p,Kind.p,Kind.p,Kind.p,Kind.p,Kind.p,Kind.p,Kind.c 0,Kind.c 1,Kind.p,Kind.p,Kind.c 2] [11,12,15] [] w (fun _=>[]) (fun k=>[(qb,160,#[.int .i64 mul,.int .i64 muh,.int .i64 rl,.int .i64 rh,.int .i64 ol,.int .i64 oh,.int .i64 sl,.int .i64 sh,.int .i64 pxl,.int .i64 pxh,.int .i64 pyl,.int .i64 pyh,.int .i64 pzl,.int .i64 pzh,.int .i64 time,.int .i64 step,.int .i64 tl,.int .i64 th,.int .i64 fl,.int .i64 fh,.int .i64 dxl,.int .i64 dxh,.int .i64 dyl,.int .i64 dyh,.int .i64 dzl,.int .i64 dzh,.slice A n c,.int .i64 dl,.int .i64 dh]),(qb+1,38,iC [st,axl,axh,ayl,ayh,azl,azh,bxl,bxh,byl,byh,bzl,bzh,sml,smh]),(qb+1+1,38,(if k≤2 then iC [o1l,o9l,o9h,o15l,o15h,0,0,o11l,o11h,0,0,0,0,0,0] else iC [o1l,o9l,o9h,o15l,o15h,0,0,o11l,o11h,o17l,o17h,0,0,0,0])),(qb+1+1+1,58,iC [0,0,0,0,0,0,0,0,0,0,0,0,0,0,0,0]),(g1,153,#[(match k with | 0=>.int .i64 e15 | 1=>.int .i64 e16 | 2=>.int .i64 e17 | _=>.int .i64 e17)]),(g10,31,iC [o1l,o1h]),(g14,31,iC [ql,qh]),(g18_10,31,iC [o3l,o3h]),(g23,208,iC [axl,axh,ayl,ayh,azl,azh,bxl,bxh,byl,byh,bzl,bzh]),(g29,208,iC [bpxl,bpxh,bpyl,bpyh,bpzl,bpzh,bvxl,bvxh,bvyl,bvyh,bvzl,bvzh]),(g35,34,iC [fxl,fxh,fyl,fyh,fzl,fzh]),(g41,31,iC [h,h]),(g51,31,iC [o5l,o5h])])
           (fun ix u _=>match ix with
            | 0=>u=.int .i64 1
            | 1=>u=.pointer (some ⟨g1,0,none⟩)
            | 2=>u=.int .i64 1
            | 3=>u=.pointer (some ⟨qb+1,7,none⟩)
            | 4=>u=.pointer (some ⟨qb+1,9,none⟩)
            | 5=>u=.agg #[.int .i64 byl,.int .i64 byh]
            | 6=>u=.pointer (some ⟨g1,0,none⟩)
            | 7=>u=.agg #[.int .i64 h,.int .i64 h]
            | 8=>u=.int .i64 1
            | 9=>u=.pointer (some ⟨g35,2,none⟩)
            | 10=>u=.agg #[.int .i64 fyl,.int .i64 fyh]
            | 11=>u=.agg #[.int .i64 o16l,.int .i64 o16h]
            | 12=>u=.agg #[.int .i64 o17l,.int .i64 o17h]
            | 13=>u=.pointer (some ⟨qb+1+1,7,none⟩)
            | 14=>u=.pointer (some ⟨qb+1+1,9,none⟩)
            | _=>True)
           (by kernel_rfl) (by kernel_rfl) (by kernel_rfl) [] rfl (by decide) (by kernel_rfl) (by kernel_rfl) HF60.out ?_ ?_
        ·refine ⟨?_,?_,?_,?_,?_,?_,?_,?_,?_,?_,?_,?_,?_,?_,?_,?_,trivial⟩
         all_goals intro a w1 vs dn k K S hpre KE DE kk
         ·have e19:=KE 19 (by decide)
          go_simp;exact kk _ _ (by simp) bR rfl
         ·have e9:=KE 9 (by decide)
          go_simp;exact kk _ _ (by simp) bR rfl
         ·have e19:=KE 19 (by decide)
          go_simp;exact kk _ _ (by simp) bR rfl
         ·have e4:=KE 4 (by decide)
          go_simp;exact kk _ _ (by simp) bR rfl
         ·have e134:=dep (DE 3 _ 134 rfl rfl rfl)
          have e133:=dep (DE 2 _ 133 rfl rfl rfl)
          go_simp;exact kk _ _ (by simp) bR rfl
         ·have e135:=dep (DE 4 _ 135 rfl rfl rfl)
          exact wpo_loadF 31 (.tmp 135) rfl (qb+1) 9 (by simpa [Act.eval] using e135) _ _ (S.fr.left.get 1 rfl) #[.int .i64 byl,.int .i64 byh] rfl _ und_span rfl info_span (kk _ _ (by simp) bR rfl)
         ·have e9:=KE 9 (by decide)
          go_simp;exact kk _ _ (by simp) bR rfl
         ·have e17:=KE 17 (by decide)
          exact wpo_loadF 31 (.tmp 17) rfl g41 0 (by simpa [Act.eval] using e17) _ _ (S.fr.left.get 11 rfl) #[.int .i64 h,.int .i64 h] rfl _ und_span rfl info_span (kk _ _ (by simp) bR rfl)
         ·have e19:=KE 19 (by decide)
          go_simp;exact kk _ _ (by simp) bR rfl
         ·have e16:=KE 16 (by decide)
          have e139:=dep (DE 8 _ 139 rfl rfl rfl)
          go_simp;exact kk _ _ (by simp) bR rfl
         ·have e140:=dep (DE 9 _ 140 rfl rfl rfl)
          exact wpo_loadF 31 (.tmp 140) rfl g35 2 (by simpa [Act.eval] using e140) _ _ (S.fr.left.get 10 rfl) #[.int .i64 fyl,.int .i64 fyh] rfl _ und_span rfl info_span (kk _ _ (by simp) bR rfl)
         ·subst hpre
          have e137:=dep (DE 6 _ 137 rfl rfl rfl)
          have e138:=dep (DE 7 _ 138 rfl rfl rfl)
          have e141:=dep (DE 10 _ 141 rfl rfl rfl)
          exact wpo_call 118 _ _ rfl #[.pointer (some ⟨g1,0,none⟩),.agg #[.int .i64 h,.int .i64 h],.agg #[.int .i64 fyl,.int .i64 fyh]] (by simp [Act.eval,e137,e138,e141]) (fun args w=>by kernel_rfl)
           ((K16.out g1 w1 (S.fr.left.get 4 rfl)).mono fun e w' ⟨he,hb⟩=>⟨_,he,kk _ _ (by simp) (Fr.stage (S.fr.turn 4 rfl hb) (by exact trivial)) rfl⟩)
         ·subst hpre
          have e132:=dep (DE 1 _ 132 rfl rfl rfl)
          have e136:=dep (DE 5 _ 136 rfl rfl rfl)
          have e142:=dep (DE 11 _ 142 rfl rfl rfl)
          exact wpo_call 116 _ _ rfl #[.pointer (some ⟨g1,0,none⟩),.agg #[.int .i64 byl,.int .i64 byh],.agg #[.int .i64 o16l,.int .i64 o16h]] (by simp [Act.eval,e132,e136,e142]) (fun args w=>by kernel_rfl)
           ((K17.out g1 w1 (S.fr.left.get 4 rfl)).mono fun e w' ⟨he,hb⟩=>⟨_,he,kk _ _ (by simp) (Fr.stage (S.fr.turn 4 rfl hb) (by exact trivial)) rfl⟩)
         ·have e6:=KE 6 (by decide)
          go_simp;exact kk _ _ (by simp) bR rfl
         ·have e144:=dep (DE 13 _ 144 rfl rfl rfl)
          have e131:=dep (DE 0 _ 131 rfl rfl rfl)
          go_simp;exact kk _ _ (by simp) bR rfl
         ·subst hpre
          have e145:=dep (DE 14 _ 145 rfl rfl rfl)
          have e143:=dep (DE 12 _ 143 rfl rfl rfl)
          exact wpo_storeF 31 (.tmp 145) (.tmp 143) rfl rfl (qb+1+1) 9 (by simpa [Act.eval] using e145) #[.int .i64 o17l,.int .i64 o17h] (by simpa [Act.eval] using e143) _ _ (iC [o1l,o9l,o9h,o15l,o15h,0,0,o11l,o11h,o17l,o17h,0,0,0,0]) (by have:=S.fr.left.get 2 rfl;rw [if_pos (S.hi 2 15 rfl rfl)] at this;exact this) rfl (by show 9+2≤15;omega) (one_all rfl) info_span fun w' hk ho=>kk _ _ (by simp) (Fr.stage (S.fr.only 2 rfl ho hk) (by exact trivial)) trivial
        ·intro vs wf HFr HR
         have HFr':Fr w [] [(qb,160,#[.int .i64 mul,.int .i64 muh,.int .i64 rl,.int .i64 rh,.int .i64 ol,.int .i64 oh,.int .i64 sl,.int .i64 sh,.int .i64 pxl,.int .i64 pxh,.int .i64 pyl,.int .i64 pyh,.int .i64 pzl,.int .i64 pzh,.int .i64 time,.int .i64 step,.int .i64 tl,.int .i64 th,.int .i64 fl,.int .i64 fh,.int .i64 dxl,.int .i64 dxh,.int .i64 dyl,.int .i64 dyh,.int .i64 dzl,.int .i64 dzh,.slice A n c,.int .i64 dl,.int .i64 dh]),(qb+1,38,iC [st,axl,axh,ayl,ayh,azl,azh,bxl,bxh,byl,byh,bzl,bzh,sml,smh]),(qb+1+1,38,iC [o1l,o9l,o9h,o15l,o15h,0,0,o11l,o11h,o17l,o17h,0,0,0,0]),(qb+1+1+1,58,iC [0,0,0,0,0,0,0,0,0,0,0,0,0,0,0,0]),(g1,153,iC [e17]),(g10,31,iC [o1l,o1h]),(g14,31,iC [ql,qh]),(g18_10,31,iC [o3l,o3h]),(g23,208,iC [axl,axh,ayl,ayh,azl,azh,bxl,bxh,byl,byh,bzl,bzh]),(g29,208,iC [bpxl,bpxh,bpyl,bpyh,bpzl,bpzh,bvxl,bvxh,bvyl,bvyh,bvzl,bvzh]),(g35,34,iC [fxl,fxh,fyl,fyh,fzl,fzh]),(g41,31,iC [h,h]),(g51,31,iC [o5l,o5h])] wf:=HFr
         clear HFr HR
         have HF61:=Lib.hid HFr'
         clear HFr'
         simp only [putAll,Act.put,List.setIfInBounds_toArray,List.set_cons_zero,List.set_cons_succ]
         obtain ⟨w61,rfl⟩:∃ u:World,u=wf:=⟨_,rfl⟩
         clear K16 K17
         go_wp2_with fail
         rw [rounds_succ]
         go_upto_region 20 with (fail)
         refine wp_region_fr [Kind.p,Kind.p,Kind.p,Kind.p,Kind.p,Kind.p,Kind.p,Kind.p,Kind.p,Kind.p,Kind.p,Kind.p,Kind.p,Kind.c 0,Kind.c 1,Kind.p,Kind.p,Kind.p,Kind.p,Kind.p,Kind.c 2,Kind.c 3,Kind.p,Kind.p,Kind.c 4] [13,14,20,21,24] [] w (fun _=>[]) (fun k=>[(qb,160,#[.int .i64 mul,.int .i64 muh,.int .i64 rl,.int .i64 rh,.int .i64 ol,.int .i64 oh,.int .i64 sl,.int .i64 sh,.int .i64 pxl,.int .i64 pxh,.int .i64 pyl,.int .i64 pyh,.int .i64 pzl,.int .i64 pzh,.int .i64 time,.int .i64 step,.int .i64 tl,.int .i64 th,.int .i64 fl,.int .i64 fh,.int .i64 dxl,.int .i64 dxh,.int .i64 dyl,.int .i64 dyh,.int .i64 dzl,.int .i64 dzh,.slice A n c,.int .i64 dl,.int .i64 dh]),(qb+1,38,iC [st,axl,axh,ayl,ayh,azl,azh,bxl,bxh,byl,byh,bzl,bzh,sml,smh]),(qb+1+1,38,(if k≤4 then iC [o1l,o9l,o9h,o15l,o15h,0,0,o11l,o11h,o17l,o17h,0,0,0,0] else iC [o1l,o9l,o9h,o15l,o15h,o21l,o21h,o11l,o11h,o17l,o17h,0,0,0,0])),(qb+1+1+1,58,iC [0,0,0,0,0,0,0,0,0,0,0,0,0,0,0,0]),(g1,153,#[(match k with | 0=>.int .i64 e17 | 1=>.int .i64 e18 | 2=>.int .i64 e19 | 3=>.int .i64 e20 | 4=>.int .i64 e21 | _=>.int .i64 e21)]),(g10,31,iC [o1l,o1h]),(g14,31,iC [ql,qh]),(g18_10,31,iC [o3l,o3h]),(g23,208,iC [axl,axh,ayl,ayh,azl,azh,bxl,bxh,byl,byh,bzl,bzh]),(g29,208,iC [bpxl,bpxh,bpyl,bpyh,bpzl,bpzh,bvxl,bvxh,bvyl,bvyh,bvzl,bvzh]),(g35,34,iC [fxl,fxh,fyl,fyh,fzl,fzh]),(g41,31,iC [h,h]),(g51,31,iC [o5l,o5h])])
            (fun ix u _=>match ix with
             | 0=>u=.int .i64 2
             | 1=>u=.pointer (some ⟨g1,0,none⟩)
             | 2=>u=.pointer (some ⟨g1,0,none⟩)
             | 3=>u=.int .i64 2
             | 4=>u=.pointer (some ⟨qb+1,1,none⟩)
             | 5=>u=.pointer (some ⟨qb+1,5,none⟩)
             | 6=>u=.agg #[.int .i64 azl,.int .i64 azh]
             | 7=>u=.pointer (some ⟨g1,0,none⟩)
             | 8=>u=.agg #[.int .i64 h,.int .i64 h]
             | 9=>u=.int .i64 2
             | 10=>u=.pointer (some ⟨qb+1,7,none⟩)
             | 11=>u=.pointer (some ⟨qb+1,11,none⟩)
             | 12=>u=.agg #[.int .i64 bzl,.int .i64 bzh]
             | 13=>u=.agg #[.int .i64 o18l,.int .i64 o18h]
             | 14=>u=.agg #[.int .i64 o19l,.int .i64 o19h]
             | 15=>u=.pointer (some ⟨g1,0,none⟩)
             | 16=>u=.agg #[.int .i64 o5l,.int .i64 o5h]
             | 17=>u=.int .i64 2
             | 18=>u=.pointer (some ⟨g35,4,none⟩)
             | 19=>u=.agg #[.int .i64 fzl,.int .i64 fzh]
             | 20=>u=.agg #[.int .i64 o20l,.int .i64 o20h]
             | 21=>u=.agg #[.int .i64 o21l,.int .i64 o21h]
             | 22=>u=.pointer (some ⟨qb+1+1,1,none⟩)
             | 23=>u=.pointer (some ⟨qb+1+1,5,none⟩)
             | _=>True)
            (by kernel_rfl) (by kernel_rfl) (by kernel_rfl) [] rfl (by decide) (by kernel_rfl) (by kernel_rfl) HF61.out ?_ ?_
         ·refine ⟨?_,?_,?_,?_,?_,?_,?_,?_,?_,?_,?_,?_,?_,?_,?_,?_,?_,?_,?_,?_,?_,?_,?_,?_,?_,trivial⟩
          all_goals intro a w1 vs dn k K S hpre KE DE kk
          ·have e19:=KE 19 (by decide)
           go_simp;exact kk _ _ (by simp) bR rfl
          ·have e9:=KE 9 (by decide)
           go_simp;exact kk _ _ (by simp) bR rfl
          ·have e9:=KE 9 (by decide)
           go_simp;exact kk _ _ (by simp) bR rfl
          ·have e19:=KE 19 (by decide)
           go_simp;exact kk _ _ (by simp) bR rfl
          ·have e4:=KE 4 (by decide)
           go_simp;exact kk _ _ (by simp) bR rfl
          ·have e111:=dep (DE 4 _ 111 rfl rfl rfl)
           have e110:=dep (DE 3 _ 110 rfl rfl rfl)
           go_simp;exact kk _ _ (by simp) bR rfl
          ·have e112:=dep (DE 5 _ 112 rfl rfl rfl)
           exact wpo_loadF 31 (.tmp 112) rfl (qb+1) 5 (by simpa [Act.eval] using e112) _ _ (S.fr.left.get 1 rfl) #[.int .i64 azl,.int .i64 azh] rfl _ und_span rfl info_span (kk _ _ (by simp) bR rfl)
          ·have e9:=KE 9 (by decide)
           go_simp;exact kk _ _ (by simp) bR rfl
          ·have e17:=KE 17 (by decide)
           exact wpo_loadF 31 (.tmp 17) rfl g41 0 (by simpa [Act.eval] using e17) _ _ (S.fr.left.get 11 rfl) #[.int .i64 h,.int .i64 h] rfl _ und_span rfl info_span (kk _ _ (by simp) bR rfl)
          ·have e19:=KE 19 (by decide)
           go_simp;exact kk _ _ (by simp) bR rfl
          ·have e4:=KE 4 (by decide)
           go_simp;exact kk _ _ (by simp) bR rfl
          ·have e117:=dep (DE 10 _ 117 rfl rfl rfl)
           have e116:=dep (DE 9 _ 116 rfl rfl rfl)
           go_simp;exact kk _ _ (by simp) bR rfl
          ·have e118:=dep (DE 11 _ 118 rfl rfl rfl)
           exact wpo_loadF 31 (.tmp 118) rfl (qb+1) 11 (by simpa [Act.eval] using e118) _ _ (S.fr.left.get 1 rfl) #[.int .i64 bzl,.int .i64 bzh] rfl _ und_span rfl info_span (kk _ _ (by simp) bR rfl)
          ·subst hpre
           have e114:=dep (DE 7 _ 114 rfl rfl rfl)
           have e115:=dep (DE 8 _ 115 rfl rfl rfl)
           have e119:=dep (DE 12 _ 119 rfl rfl rfl)
           exact wpo_call 118 _ _ rfl #[.pointer (some ⟨g1,0,none⟩),.agg #[.int .i64 h,.int .i64 h],.agg #[.int .i64 bzl,.int .i64 bzh]] (by simp [Act.eval,e114,e115,e119]) (fun args w=>by kernel_rfl)
            ((K18.out g1 w1 (S.fr.left.get 4 rfl)).mono fun e w' ⟨he,hb⟩=>⟨_,he,kk _ _ (by simp) (Fr.stage (S.fr.turn 4 rfl hb) (by exact trivial)) rfl⟩)
          ·subst hpre
           have e109:=dep (DE 2 _ 109 rfl rfl rfl)
           have e113:=dep (DE 6 _ 113 rfl rfl rfl)
           have e120:=dep (DE 13 _ 120 rfl rfl rfl)
           exact wpo_call 116 _ _ rfl #[.pointer (some ⟨g1,0,none⟩),.agg #[.int .i64 azl,.int .i64 azh],.agg #[.int .i64 o18l,.int .i64 o18h]] (by simp [Act.eval,e109,e113,e120]) (fun args w=>by kernel_rfl)
            ((K19.out g1 w1 (S.fr.left.get 4 rfl)).mono fun e w' ⟨he,hb⟩=>⟨_,he,kk _ _ (by simp) (Fr.stage (S.fr.turn 4 rfl hb) (by exact trivial)) rfl⟩)
          ·have e9:=KE 9 (by decide)
           go_simp;exact kk _ _ (by simp) bR rfl
          ·have e18:=KE 18 (by decide)
           exact wpo_loadF 31 (.tmp 18) rfl g51 0 (by simpa [Act.eval] using e18) _ _ (S.fr.left.get 12 rfl) #[.int .i64 o5l,.int .i64 o5h] rfl _ und_span rfl info_span (kk _ _ (by simp) bR rfl)
          ·have e19:=KE 19 (by decide)
           go_simp;exact kk _ _ (by simp) bR rfl
          ·have e16:=KE 16 (by decide)
           have e124:=dep (DE 17 _ 124 rfl rfl rfl)
           go_simp;exact kk _ _ (by simp) bR rfl
          ·have e125:=dep (DE 18 _ 125 rfl rfl rfl)
           exact wpo_loadF 31 (.tmp 125) rfl g35 4 (by simpa [Act.eval] using e125) _ _ (S.fr.left.get 10 rfl) #[.int .i64 fzl,.int .i64 fzh] rfl _ und_span rfl info_span (kk _ _ (by simp) bR rfl)
          ·subst hpre
           have e122:=dep (DE 15 _ 122 rfl rfl rfl)
           have e123:=dep (DE 16 _ 123 rfl rfl rfl)
           have e126:=dep (DE 19 _ 126 rfl rfl rfl)
           exact wpo_call 118 _ _ rfl #[.pointer (some ⟨g1,0,none⟩),.agg #[.int .i64 o5l,.int .i64 o5h],.agg #[.int .i64 fzl,.int .i64 fzh]] (by simp [Act.eval,e122,e123,e126]) (fun args w=>by kernel_rfl)
            ((K20.out g1 w1 (S.fr.left.get 4 rfl)).mono fun e w' ⟨he,hb⟩=>⟨_,he,kk _ _ (by simp) (Fr.stage (S.fr.turn 4 rfl hb) (by exact trivial)) rfl⟩)
          ·subst hpre
           have e108:=dep (DE 1 _ 108 rfl rfl rfl)
           have e121:=dep (DE 14 _ 121 rfl rfl rfl)
           have e127:=dep (DE 20 _ 127 rfl rfl rfl)
           exact wpo_call 116 _ _ rfl #[.pointer (some ⟨g1,0,none⟩),.agg #[.int .i64 o19l,.int .i64 o19h],.agg #[.int .i64 o20l,.int .i64 o20h]] (by simp [Act.eval,e108,e121,e127]) (fun args w=>by kernel_rfl)
            ((K21.out g1 w1 (S.fr.left.get 4 rfl)).mono fun e w' ⟨he,hb⟩=>⟨_,he,kk _ _ (by simp) (Fr.stage (S.fr.turn 4 rfl hb) (by exact trivial)) rfl⟩)
          ·have e6:=KE 6 (by decide)
           go_simp;exact kk _ _ (by simp) bR rfl
          ·have e129:=dep (DE 22 _ 129 rfl rfl rfl)
           have e107:=dep (DE 0 _ 107 rfl rfl rfl)
           go_simp;exact kk _ _ (by simp) bR rfl
          ·subst hpre
           have e130:=dep (DE 23 _ 130 rfl rfl rfl)
           have e128:=dep (DE 21 _ 128 rfl rfl rfl)
           exact wpo_storeF 31 (.tmp 130) (.tmp 128) rfl rfl (qb+1+1) 5 (by simpa [Act.eval] using e130) #[.int .i64 o21l,.int .i64 o21h] (by simpa [Act.eval] using e128) _ _ (iC [o1l,o9l,o9h,o15l,o15h,o21l,o21h,o11l,o11h,o17l,o17h,0,0,0,0]) (by have:=S.fr.left.get 2 rfl;rw [if_pos (S.hi 4 24 rfl rfl)] at this;exact this) rfl (by show 5+2≤15;omega) (one_all rfl) info_span fun w' hk ho=>kk _ _ (by simp) (Fr.stage (S.fr.only 2 rfl ho hk) (by exact trivial)) trivial
         ·intro vs wf HFr HR
          have HFr':Fr w [] [(qb,160,#[.int .i64 mul,.int .i64 muh,.int .i64 rl,.int .i64 rh,.int .i64 ol,.int .i64 oh,.int .i64 sl,.int .i64 sh,.int .i64 pxl,.int .i64 pxh,.int .i64 pyl,.int .i64 pyh,.int .i64 pzl,.int .i64 pzh,.int .i64 time,.int .i64 step,.int .i64 tl,.int .i64 th,.int .i64 fl,.int .i64 fh,.int .i64 dxl,.int .i64 dxh,.int .i64 dyl,.int .i64 dyh,.int .i64 dzl,.int .i64 dzh,.slice A n c,.int .i64 dl,.int .i64 dh]),(qb+1,38,iC [st,axl,axh,ayl,ayh,azl,azh,bxl,bxh,byl,byh,bzl,bzh,sml,smh]),(qb+1+1,38,iC [o1l,o9l,o9h,o15l,o15h,o21l,o21h,o11l,o11h,o17l,o17h,0,0,0,0]),(qb+1+1+1,58,iC [0,0,0,0,0,0,0,0,0,0,0,0,0,0,0,0]),(g1,153,iC [e21]),(g10,31,iC [o1l,o1h]),(g14,31,iC [ql,qh]),(g18_10,31,iC [o3l,o3h]),(g23,208,iC [axl,axh,ayl,ayh,azl,azh,bxl,bxh,byl,byh,bzl,bzh]),(g29,208,iC [bpxl,bpxh,bpyl,bpyh,bpzl,bpzh,bvxl,bvxh,bvyl,bvyh,bvzl,bvzh]),(g35,34,iC [fxl,fxh,fyl,fyh,fzl,fzh]),(g41,31,iC [h,h]),(g51,31,iC [o5l,o5h])] wf:=HFr
          clear HFr HR
          have HF62:=Lib.hid HFr'
          clear HFr'
          simp only [putAll,Act.put,List.setIfInBounds_toArray,List.set_cons_zero,List.set_cons_succ]
          obtain ⟨w62,rfl⟩:∃ u:World,u=wf:=⟨_,rfl⟩
          clear K18 K19 K20 K21
          go_upto_region 21 with (fail)
          refine wp_region_fr [Kind.p,Kind.p,Kind.p,Kind.p,Kind.p,Kind.p,Kind.p,Kind.p,Kind.p,Kind.p,Kind.p,Kind.c 0,Kind.c 1,Kind.p,Kind.p,Kind.c 2] [11,12,15] [] w (fun _=>[]) (fun k=>[(qb,160,#[.int .i64 mul,.int .i64 muh,.int .i64 rl,.int .i64 rh,.int .i64 ol,.int .i64 oh,.int .i64 sl,.int .i64 sh,.int .i64 pxl,.int .i64 pxh,.int .i64 pyl,.int .i64 pyh,.int .i64 pzl,.int .i64 pzh,.int .i64 time,.int .i64 step,.int .i64 tl,.int .i64 th,.int .i64 fl,.int .i64 fh,.int .i64 dxl,.int .i64 dxh,.int .i64 dyl,.int .i64 dyh,.int .i64 dzl,.int .i64 dzh,.slice A n c,.int .i64 dl,.int .i64 dh]),(qb+1,38,iC [st,axl,axh,ayl,ayh,azl,azh,bxl,bxh,byl,byh,bzl,bzh,sml,smh]),(qb+1+1,38,(if k≤2 then iC [o1l,o9l,o9h,o15l,o15h,o21l,o21h,o11l,o11h,o17l,o17h,0,0,0,0] else iC [o1l,o9l,o9h,o15l,o15h,o21l,o21h,o11l,o11h,o17l,o17h,o23l,o23h,0,0])),(qb+1+1+1,58,iC [0,0,0,0,0,0,0,0,0,0,0,0,0,0,0,0]),(g1,153,#[(match k with | 0=>.int .i64 e21 | 1=>.int .i64 e22 | 2=>.int .i64 e23 | _=>.int .i64 e23)]),(g10,31,iC [o1l,o1h]),(g14,31,iC [ql,qh]),(g18_10,31,iC [o3l,o3h]),(g23,208,iC [axl,axh,ayl,ayh,azl,azh,bxl,bxh,byl,byh,bzl,bzh]),(g29,208,iC [bpxl,bpxh,bpyl,bpyh,bpzl,bpzh,bvxl,bvxh,bvyl,bvyh,bvzl,bvzh]),(g35,34,iC [fxl,fxh,fyl,fyh,fzl,fzh]),(g41,31,iC [h,h]),(g51,31,iC [o5l,o5h])])
             (fun ix u _=>match ix with
              | 0=>u=.int .i64 2
              | 1=>u=.pointer (some ⟨g1,0,none⟩)
              | 2=>u=.int .i64 2
              | 3=>u=.pointer (some ⟨qb+1,7,none⟩)
              | 4=>u=.pointer (some ⟨qb+1,11,none⟩)
              | 5=>u=.agg #[.int .i64 bzl,.int .i64 bzh]
              | 6=>u=.pointer (some ⟨g1,0,none⟩)
              | 7=>u=.agg #[.int .i64 h,.int .i64 h]
              | 8=>u=.int .i64 2
              | 9=>u=.pointer (some ⟨g35,4,none⟩)
              | 10=>u=.agg #[.int .i64 fzl,.int .i64 fzh]
              | 11=>u=.agg #[.int .i64 o22l,.int .i64 o22h]
              | 12=>u=.agg #[.int .i64 o23l,.int .i64 o23h]
              | 13=>u=.pointer (some ⟨qb+1+1,7,none⟩)
              | 14=>u=.pointer (some ⟨qb+1+1,11,none⟩)
              | _=>True)
             (by kernel_rfl) (by kernel_rfl) (by kernel_rfl) [] rfl (by decide) (by kernel_rfl) (by kernel_rfl) HF62.out ?_ ?_
          ·refine ⟨?_,?_,?_,?_,?_,?_,?_,?_,?_,?_,?_,?_,?_,?_,?_,?_,trivial⟩
           all_goals intro a w1 vs dn k K S hpre KE DE kk
           ·have e19:=KE 19 (by decide)
            go_simp;exact kk _ _ (by simp) bR rfl
           ·have e9:=KE 9 (by decide)
            go_simp;exact kk _ _ (by simp) bR rfl
           ·have e19:=KE 19 (by decide)
            go_simp;exact kk _ _ (by simp) bR rfl
           ·have e4:=KE 4 (by decide)
            go_simp;exact kk _ _ (by simp) bR rfl
           ·have e134:=dep (DE 3 _ 134 rfl rfl rfl)
            have e133:=dep (DE 2 _ 133 rfl rfl rfl)
            go_simp;exact kk _ _ (by simp) bR rfl
           ·have e135:=dep (DE 4 _ 135 rfl rfl rfl)
            exact wpo_loadF 31 (.tmp 135) rfl (qb+1) 11 (by simpa [Act.eval] using e135) _ _ (S.fr.left.get 1 rfl) #[.int .i64 bzl,.int .i64 bzh] rfl _ und_span rfl info_span (kk _ _ (by simp) bR rfl)
           ·have e9:=KE 9 (by decide)
            go_simp;exact kk _ _ (by simp) bR rfl
           ·have e17:=KE 17 (by decide)
            exact wpo_loadF 31 (.tmp 17) rfl g41 0 (by simpa [Act.eval] using e17) _ _ (S.fr.left.get 11 rfl) #[.int .i64 h,.int .i64 h] rfl _ und_span rfl info_span (kk _ _ (by simp) bR rfl)
           ·have e19:=KE 19 (by decide)
            go_simp;exact kk _ _ (by simp) bR rfl
           ·have e16:=KE 16 (by decide)
            have e139:=dep (DE 8 _ 139 rfl rfl rfl)
            go_simp;exact kk _ _ (by simp) bR rfl
           ·have e140:=dep (DE 9 _ 140 rfl rfl rfl)
            exact wpo_loadF 31 (.tmp 140) rfl g35 4 (by simpa [Act.eval] using e140) _ _ (S.fr.left.get 10 rfl) #[.int .i64 fzl,.int .i64 fzh] rfl _ und_span rfl info_span (kk _ _ (by simp) bR rfl)
           ·subst hpre
            have e137:=dep (DE 6 _ 137 rfl rfl rfl)
            have e138:=dep (DE 7 _ 138 rfl rfl rfl)
            have e141:=dep (DE 10 _ 141 rfl rfl rfl)
            exact wpo_call 118 _ _ rfl #[.pointer (some ⟨g1,0,none⟩),.agg #[.int .i64 h,.int .i64 h],.agg #[.int .i64 fzl,.int .i64 fzh]] (by simp [Act.eval,e137,e138,e141]) (fun args w=>by kernel_rfl)
             ((K22.out g1 w1 (S.fr.left.get 4 rfl)).mono fun e w' ⟨he,hb⟩=>⟨_,he,kk _ _ (by simp) (Fr.stage (S.fr.turn 4 rfl hb) (by exact trivial)) rfl⟩)
           ·subst hpre
            have e132:=dep (DE 1 _ 132 rfl rfl rfl)
            have e136:=dep (DE 5 _ 136 rfl rfl rfl)
            have e142:=dep (DE 11 _ 142 rfl rfl rfl)
            exact wpo_call 116 _ _ rfl #[.pointer (some ⟨g1,0,none⟩),.agg #[.int .i64 bzl,.int .i64 bzh],.agg #[.int .i64 o22l,.int .i64 o22h]] (by simp [Act.eval,e132,e136,e142]) (fun args w=>by kernel_rfl)
             ((K23.out g1 w1 (S.fr.left.get 4 rfl)).mono fun e w' ⟨he,hb⟩=>⟨_,he,kk _ _ (by simp) (Fr.stage (S.fr.turn 4 rfl hb) (by exact trivial)) rfl⟩)
           ·have e6:=KE 6 (by decide)
            go_simp;exact kk _ _ (by simp) bR rfl
           ·have e144:=dep (DE 13 _ 144 rfl rfl rfl)
            have e131:=dep (DE 0 _ 131 rfl rfl rfl)
            go_simp;exact kk _ _ (by simp) bR rfl
           ·subst hpre
            have e145:=dep (DE 14 _ 145 rfl rfl rfl)
            have e143:=dep (DE 12 _ 143 rfl rfl rfl)
            exact wpo_storeF 31 (.tmp 145) (.tmp 143) rfl rfl (qb+1+1) 11 (by simpa [Act.eval] using e145) #[.int .i64 o23l,.int .i64 o23h] (by simpa [Act.eval] using e143) _ _ (iC [o1l,o9l,o9h,o15l,o15h,o21l,o21h,o11l,o11h,o17l,o17h,o23l,o23h,0,0]) (by have:=S.fr.left.get 2 rfl;rw [if_pos (S.hi 2 15 rfl rfl)] at this;exact this) rfl (by show 11+2≤15;omega) (one_all rfl) info_span fun w' hk ho=>kk _ _ (by simp) (Fr.stage (S.fr.only 2 rfl ho hk) (by exact trivial)) trivial
          ·intro vs wf HFr HR
           have HFr':Fr w [] [(qb,160,#[.int .i64 mul,.int .i64 muh,.int .i64 rl,.int .i64 rh,.int .i64 ol,.int .i64 oh,.int .i64 sl,.int .i64 sh,.int .i64 pxl,.int .i64 pxh,.int .i64 pyl,.int .i64 pyh,.int .i64 pzl,.int .i64 pzh,.int .i64 time,.int .i64 step,.int .i64 tl,.int .i64 th,.int .i64 fl,.int .i64 fh,.int .i64 dxl,.int .i64 dxh,.int .i64 dyl,.int .i64 dyh,.int .i64 dzl,.int .i64 dzh,.slice A n c,.int .i64 dl,.int .i64 dh]),(qb+1,38,iC [st,axl,axh,ayl,ayh,azl,azh,bxl,bxh,byl,byh,bzl,bzh,sml,smh]),(qb+1+1,38,iC [o1l,o9l,o9h,o15l,o15h,o21l,o21h,o11l,o11h,o17l,o17h,o23l,o23h,0,0]),(qb+1+1+1,58,iC [0,0,0,0,0,0,0,0,0,0,0,0,0,0,0,0]),(g1,153,iC [e23]),(g10,31,iC [o1l,o1h]),(g14,31,iC [ql,qh]),(g18_10,31,iC [o3l,o3h]),(g23,208,iC [axl,axh,ayl,ayh,azl,azh,bxl,bxh,byl,byh,bzl,bzh]),(g29,208,iC [bpxl,bpxh,bpyl,bpyh,bpzl,bpzh,bvxl,bvxh,bvyl,bvyh,bvzl,bvzh]),(g35,34,iC [fxl,fxh,fyl,fyh,fzl,fzh]),(g41,31,iC [h,h]),(g51,31,iC [o5l,o5h])] wf:=HFr
           clear HFr HR
           have HF63:=Lib.hid HFr'
           clear HFr'
           simp only [putAll,Act.put,List.setIfInBounds_toArray,List.set_cons_zero,List.set_cons_succ]
           obtain ⟨w63,rfl⟩:∃ u:World,u=wf:=⟨_,rfl⟩
           clear K22 K23
           go_wp2_with fail
           rw [rounds_succ]
           go_upto_region 23 with (fail)
           refine wp_region_fr [Kind.p,Kind.p,Kind.p,Kind.p,Kind.p,Kind.p,Kind.p,Kind.p,Kind.c 0,Kind.c 1,Kind.p,Kind.c 2] [8,9,11] [] w (fun _=>[]) (fun k=>[(qb,160,#[.int .i64 mul,.int .i64 muh,.int .i64 rl,.int .i64 rh,.int .i64 ol,.int .i64 oh,.int .i64 sl,.int .i64 sh,.int .i64 pxl,.int .i64 pxh,.int .i64 pyl,.int .i64 pyh,.int .i64 pzl,.int .i64 pzh,.int .i64 time,.int .i64 step,.int .i64 tl,.int .i64 th,.int .i64 fl,.int .i64 fh,.int .i64 dxl,.int .i64 dxh,.int .i64 dyl,.int .i64 dyh,.int .i64 dzl,.int .i64 dzh,.slice A n c,.int .i64 dl,.int .i64 dh]),(qb+1,38,iC [st,axl,axh,ayl,ayh,azl,azh,bxl,bxh,byl,byh,bzl,bzh,sml,smh]),(qb+1+1,38,(if k≤2 then iC [o1l,o9l,o9h,o15l,o15h,o21l,o21h,o11l,o11h,o17l,o17h,o23l,o23h,0,0] else iC [o1l,o9l,o9h,o15l,o15h,o21l,o21h,o11l,o11h,o17l,o17h,o23l,o23h,o25l,o25h])),(qb+1+1+1,58,iC [0,0,0,0,0,0,0,0,0,0,0,0,0,0,0,0]),(g1,153,#[(match k with | 0=>.int .i64 e23 | 1=>.int .i64 e24 | 2=>.int .i64 e25 | _=>.int .i64 e25)]),(g10,31,iC [o1l,o1h]),(g14,31,iC [ql,qh]),(g18_10,31,iC [o3l,o3h]),(g23,208,iC [axl,axh,ayl,ayh,azl,azh,bxl,bxh,byl,byh,bzl,bzh]),(g29,208,iC [bpxl,bpxh,bpyl,bpyh,bpzl,bpzh,bvxl,bvxh,bvyl,bvyh,bvzl,bvzh]),(g35,34,iC [fxl,fxh,fyl,fyh,fzl,fzh]),(g41,31,iC [h,h]),(g51,31,iC [o5l,o5h])])
              (fun ix u _=>match ix with
               | 0=>u=.pointer (some ⟨g1,0,none⟩)
               | 1=>u=.pointer (some ⟨qb+1,13,none⟩)
               | 2=>u=.agg #[.int .i64 sml,.int .i64 smh]
               | 3=>u=.pointer (some ⟨g1,0,none⟩)
               | 4=>u=.agg #[.int .i64 h,.int .i64 h]
               | 5=>u=.pointer (some ⟨qb,14,none⟩)
               | 6=>u=.pointer (some ⟨qb,18,none⟩)
               | 7=>u=.agg #[.int .i64 fl,.int .i64 fh]
               | 8=>u=.agg #[.int .i64 o24l,.int .i64 o24h]
               | 9=>u=.agg #[.int .i64 o25l,.int .i64 o25h]
               | 10=>u=.pointer (some ⟨qb+1+1,13,none⟩)
               | _=>True)
              (by kernel_rfl) (by kernel_rfl) (by kernel_rfl) [] rfl (by decide) (by kernel_rfl) (by kernel_rfl) HF63.out ?_ ?_
           ·refine ⟨?_,?_,?_,?_,?_,?_,?_,?_,?_,?_,?_,?_,trivial⟩
            all_goals intro a w1 vs dn k K S hpre KE DE kk
            ·have e9:=KE 9 (by decide)
             go_simp;exact kk _ _ (by simp) bR rfl
            ·have e4:=KE 4 (by decide)
             go_simp;exact kk _ _ (by simp) bR rfl
            ·have e148:=dep (DE 1 _ 148 rfl rfl rfl)
             exact wpo_loadF 31 (.tmp 148) rfl (qb+1) 13 (by simpa [Act.eval] using e148) _ _ (S.fr.left.get 1 rfl) #[.int .i64 sml,.int .i64 smh] rfl _ und_span rfl info_span (kk _ _ (by simp) bR rfl)
            ·have e9:=KE 9 (by decide)
             go_simp;exact kk _ _ (by simp) bR rfl
            ·have e17:=KE 17 (by decide)
             exact wpo_loadF 31 (.tmp 17) rfl g41 0 (by simpa [Act.eval] using e17) _ _ (S.fr.left.get 11 rfl) #[.int .i64 h,.int .i64 h] rfl _ und_span rfl info_span (kk _ _ (by simp) bR rfl)
            ·have e3:=KE 3 (by decide)
             go_simp;exact kk _ _ (by simp) bR rfl
            ·have e152:=dep (DE 5 _ 152 rfl rfl rfl)
             go_simp;exact kk _ _ (by simp) bR rfl
            ·have e153:=dep (DE 6 _ 153 rfl rfl rfl)
             exact wpo_loadF 31 (.tmp 153) rfl qb 18 (by simpa [Act.eval] using e153) _ _ (S.fr.left.get 0 rfl) #[.int .i64 fl,.int .i64 fh] rfl _ und_span rfl info_span (kk _ _ (by simp) bR rfl)
            ·subst hpre
             have e150:=dep (DE 3 _ 150 rfl rfl rfl)
             have e151:=dep (DE 4 _ 151 rfl rfl rfl)
             have e154:=dep (DE 7 _ 154 rfl rfl rfl)
             exact wpo_call 118 _ _ rfl #[.pointer (some ⟨g1,0,none⟩),.agg #[.int .i64 h,.int .i64 h],.agg #[.int .i64 fl,.int .i64 fh]] (by simp [Act.eval,e150,e151,e154]) (fun args w=>by kernel_rfl)
              ((K24.out g1 w1 (S.fr.left.get 4 rfl)).mono fun e w' ⟨he,hb⟩=>⟨_,he,kk _ _ (by simp) (Fr.stage (S.fr.turn 4 rfl hb) (by exact trivial)) rfl⟩)
            ·subst hpre
             have e147:=dep (DE 0 _ 147 rfl rfl rfl)
             have e149:=dep (DE 2 _ 149 rfl rfl rfl)
             have e155:=dep (DE 8 _ 155 rfl rfl rfl)
             exact wpo_call 57 _ _ rfl #[.pointer (some ⟨g1,0,none⟩),.agg #[.int .i64 sml,.int .i64 smh],.agg #[.int .i64 o24l,.int .i64 o24h]] (by simp [Act.eval,e147,e149,e155]) (fun args w=>by kernel_rfl)
              ((K25.out g1 w1 (S.fr.left.get 4 rfl)).mono fun e w' ⟨he,hb⟩=>⟨_,he,kk _ _ (by simp) (Fr.stage (S.fr.turn 4 rfl hb) (by exact trivial)) rfl⟩)
            ·have e6:=KE 6 (by decide)
             go_simp;exact kk _ _ (by simp) bR rfl
            ·subst hpre
             have e157:=dep (DE 10 _ 157 rfl rfl rfl)
             have e156:=dep (DE 9 _ 156 rfl rfl rfl)
             exact wpo_storeF 31 (.tmp 157) (.tmp 156) rfl rfl (qb+1+1) 13 (by simpa [Act.eval] using e157) #[.int .i64 o25l,.int .i64 o25h] (by simpa [Act.eval] using e156) _ _ (iC [o1l,o9l,o9h,o15l,o15h,o21l,o21h,o11l,o11h,o17l,o17h,o23l,o23h,o25l,o25h]) (by have:=S.fr.left.get 2 rfl;rw [if_pos (S.hi 2 11 rfl rfl)] at this;exact this) rfl (by show 13+2≤15;omega) (one_all rfl) info_span fun w' hk ho=>kk _ _ (by simp) (Fr.stage (S.fr.only 2 rfl ho hk) (by exact trivial)) trivial
           ·intro vs wf HFr HR
            have HFr':Fr w [] [(qb,160,#[.int .i64 mul,.int .i64 muh,.int .i64 rl,.int .i64 rh,.int .i64 ol,.int .i64 oh,.int .i64 sl,.int .i64 sh,.int .i64 pxl,.int .i64 pxh,.int .i64 pyl,.int .i64 pyh,.int .i64 pzl,.int .i64 pzh,.int .i64 time,.int .i64 step,.int .i64 tl,.int .i64 th,.int .i64 fl,.int .i64 fh,.int .i64 dxl,.int .i64 dxh,.int .i64 dyl,.int .i64 dyh,.int .i64 dzl,.int .i64 dzh,.slice A n c,.int .i64 dl,.int .i64 dh]),(qb+1,38,iC [st,axl,axh,ayl,ayh,azl,azh,bxl,bxh,byl,byh,bzl,bzh,sml,smh]),(qb+1+1,38,iC [o1l,o9l,o9h,o15l,o15h,o21l,o21h,o11l,o11h,o17l,o17h,o23l,o23h,o25l,o25h]),(qb+1+1+1,58,iC [0,0,0,0,0,0,0,0,0,0,0,0,0,0,0,0]),(g1,153,iC [e25]),(g10,31,iC [o1l,o1h]),(g14,31,iC [ql,qh]),(g18_10,31,iC [o3l,o3h]),(g23,208,iC [axl,axh,ayl,ayh,azl,azh,bxl,bxh,byl,byh,bzl,bzh]),(g29,208,iC [bpxl,bpxh,bpyl,bpyh,bpzl,bpzh,bvxl,bvxh,bvyl,bvyh,bvzl,bvzh]),(g35,34,iC [fxl,fxh,fyl,fyh,fzl,fzh]),(g41,31,iC [h,h]),(g51,31,iC [o5l,o5h])] wf:=HFr
            clear HFr HR
            have HF64:=Lib.hid HFr'
            clear HFr'
            simp only [putAll,Act.put,List.setIfInBounds_toArray,List.set_cons_zero,List.set_cons_succ]
            obtain ⟨w64,rfl⟩:∃ u:World,u=wf:=⟨_,rfl⟩
            by_cases he:e25=0
            ·subst he
             have HR:=HOO.out _ _ _ HT.out
             replace HR:=Lib.hid HR
             clear HT HLA HOO
             have c65:w64.cell? ⟨g1,0,none⟩=some (.int .i64 0):=(HF64.out.get 4 rfl).cell 0
             go_upto_region 26 with (fail)
             clear c65
             refine wp_region_fr [Kind.p,Kind.p,Kind.p,Kind.p,Kind.p,Kind.p,Kind.p,Kind.p,Kind.p,Kind.p,Kind.p,Kind.p,Kind.p,Kind.p,Kind.p,Kind.p,Kind.p,Kind.c 0,Kind.c 1,Kind.p] [17,18] [] w (fun _=>[]) (fun k=>[(qb,160,#[.int .i64 mul,.int .i64 muh,.int .i64 rl,.int .i64 rh,.int .i64 ol,.int .i64 oh,.int .i64 sl,.int .i64 sh,.int .i64 pxl,.int .i64 pxh,.int .i64 pyl,.int .i64 pyh,.int .i64 pzl,.int .i64 pzh,.int .i64 time,.int .i64 step,.int .i64 tl,.int .i64 th,.int .i64 fl,.int .i64 fh,.int .i64 dxl,.int .i64 dxh,.int .i64 dyl,.int .i64 dyh,.int .i64 dzl,.int .i64 dzh,.slice A n c,.int .i64 dl,.int .i64 dh]),(qb+1,38,iC [st,axl,axh,ayl,ayh,azl,azh,bxl,bxh,byl,byh,bzl,bzh,sml,smh]),(qb+1+1,38,iC [o1l,o9l,o9h,o15l,o15h,o21l,o21h,o11l,o11h,o17l,o17h,o23l,o23h,o25l,o25h]),(qb+1+1+1,58,(if k≤1 then iC [0,0,0,0,0,0,0,0,0,0,0,0,0,0,0,0] else iC [min st o1l,max st o1l,bpxl,bpxh,bpyl,bpyh,bpzl,bpzh,bvxl,bvxh,bvyl,bvyh,bvzl,bvzh,o3l,o3h])),(g1,153,iC [0]),(g10,31,iC [o1l,o1h]),(g14,31,iC [ql,qh]),(g18_10,31,iC [o3l,o3h]),(g23,208,iC [axl,axh,ayl,ayh,azl,azh,bxl,bxh,byl,byh,bzl,bzh]),(g29,208,iC [bpxl,bpxh,bpyl,bpyh,bpzl,bpzh,bvxl,bvxh,bvyl,bvyh,bvzl,bvzh]),(g35,34,iC [fxl,fxh,fyl,fyh,fzl,fzh]),(g41,31,iC [h,h]),(g51,31,iC [o5l,o5h])])
                (fun ix u _=>match ix with
                 | 0=>u=.agg #[.int .i64 o1l,.int .i64 o9l,.int .i64 o9h,.int .i64 o15l,.int .i64 o15h,.int .i64 o21l,.int .i64 o21h,.int .i64 o11l,.int .i64 o11h,.int .i64 o17l,.int .i64 o17h,.int .i64 o23l,.int .i64 o23h,.int .i64 o25l,.int .i64 o25h]
                 | 1=>u=.pointer (some ⟨qb+1,0,none⟩)
                 | 2=>u=.int .i64 st
                 | 3=>u=.pointer (some ⟨g10,0,none⟩)
                 | 4=>u=.int .i64 o1l
                 | 5=>u=.int .i64 (min st o1l)
                 | 6=>u=.pointer (some ⟨qb+1,0,none⟩)
                 | 7=>u=.int .i64 st
                 | 8=>u=.pointer (some ⟨g10,0,none⟩)
                 | 9=>u=.int .i64 o1l
                 | 10=>u=.int .i64 (max st o1l)
                 | 11=>u=.agg #[.int .i64 bpxl,.int .i64 bpxh,.int .i64 bpyl,.int .i64 bpyh,.int .i64 bpzl,.int .i64 bpzh,.int .i64 bvxl,.int .i64 bvxh,.int .i64 bvyl,.int .i64 bvyh,.int .i64 bvzl,.int .i64 bvzh]
                 | 12=>u=.agg #[.int .i64 bpxl,.int .i64 bpxh,.int .i64 bpyl,.int .i64 bpyh,.int .i64 bpzl,.int .i64 bpzh]
                 | 13=>u=.agg #[.int .i64 bpxl,.int .i64 bpxh,.int .i64 bpyl,.int .i64 bpyh,.int .i64 bpzl,.int .i64 bpzh,.int .i64 bvxl,.int .i64 bvxh,.int .i64 bvyl,.int .i64 bvyh,.int .i64 bvzl,.int .i64 bvzh]
                 | 14=>u=.agg #[.int .i64 bvxl,.int .i64 bvxh,.int .i64 bvyl,.int .i64 bvyh,.int .i64 bvzl,.int .i64 bvzh]
                 | 15=>u=.agg #[.int .i64 o3l,.int .i64 o3h]
                 | 16=>u=.agg #[.int .i64 (min st o1l),.int .i64 (max st o1l),.int .i64 bpxl,.int .i64 bpxh,.int .i64 bpyl,.int .i64 bpyh,.int .i64 bpzl,.int .i64 bpzh,.int .i64 bvxl,.int .i64 bvxh,.int .i64 bvyl,.int .i64 bvyh,.int .i64 bvzl,.int .i64 bvzh,.int .i64 o3l,.int .i64 o3h]
                 | 19=>u=.int .i64 0
                 | _=>True)
                (by kernel_rfl) (by kernel_rfl) (by kernel_rfl) [] rfl (by decide) (by kernel_rfl) (by kernel_rfl) HF64.out ?_ ?_
             ·refine ⟨?_,?_,?_,?_,?_,?_,?_,?_,?_,?_,?_,?_,?_,?_,?_,?_,?_,?_,?_,?_,trivial⟩
              all_goals intro a w1 vs dn k K S hpre KE DE kk
              ·have e6:=KE 6 (by decide)
               exact wpo_loadF 38 (.tmp 6) rfl (qb+1+1) 0 (by simpa [Act.eval] using e6) _ _ (S.fr.left.get 2 rfl) #[.int .i64 o1l,.int .i64 o9l,.int .i64 o9h,.int .i64 o15l,.int .i64 o15h,.int .i64 o21l,.int .i64 o21h,.int .i64 o11l,.int .i64 o11h,.int .i64 o17l,.int .i64 o17h,.int .i64 o23l,.int .i64 o23h,.int .i64 o25l,.int .i64 o25h] rfl _ und_38 rfl info_38 (kk _ _ (by simp) bR rfl)
              ·have e4:=KE 4 (by decide)
               go_simp;exact kk _ _ (by simp) bR rfl
              ·have e170:=dep (DE 1 _ 170 rfl rfl rfl)
               have ca:w1.cell? ⟨qb+1,0,none⟩=some (.int .i64 st):=(S.fr.left.get 1 rfl).cell 0
               go_simp;exact kk _ _ (by simp) bR rfl
              ·have e10:=KE 10 (by decide)
               go_simp;exact kk _ _ (by simp) bR rfl
              ·have e172:=dep (DE 3 _ 172 rfl rfl rfl)
               have ca:w1.cell? ⟨g10,0,none⟩=some (.int .i64 o1l):=(S.fr.left.get 5 rfl).cell 0
               go_simp;exact kk _ _ (by simp) bR rfl
              ·have e171:=dep (DE 2 _ 171 rfl rfl rfl)
               have e173:=dep (DE 4 _ 173 rfl rfl rfl)
               go_simp;exact kk _ _ (by simp) bR rfl
              ·have e4:=KE 4 (by decide)
               go_simp;exact kk _ _ (by simp) bR rfl
              ·have e175:=dep (DE 6 _ 175 rfl rfl rfl)
               have ca:w1.cell? ⟨qb+1,0,none⟩=some (.int .i64 st):=(S.fr.left.get 1 rfl).cell 0
               go_simp;exact kk _ _ (by simp) bR rfl
              ·have e10:=KE 10 (by decide)
               go_simp;exact kk _ _ (by simp) bR rfl
              ·have e177:=dep (DE 8 _ 177 rfl rfl rfl)
               have ca:w1.cell? ⟨g10,0,none⟩=some (.int .i64 o1l):=(S.fr.left.get 5 rfl).cell 0
               go_simp;exact kk _ _ (by simp) bR rfl
              ·have e176:=dep (DE 7 _ 176 rfl rfl rfl)
               have e178:=dep (DE 9 _ 178 rfl rfl rfl)
               go_simp;exact kk _ _ (by simp) bR rfl
              ·have e14:=KE 14 (by decide)
               exact wpo_loadF 208 (.tmp 14) rfl g29 0 (by simpa [Act.eval] using e14) _ _ (S.fr.left.get 9 rfl) #[.int .i64 bpxl,.int .i64 bpxh,.int .i64 bpyl,.int .i64 bpyh,.int .i64 bpzl,.int .i64 bpzh,.int .i64 bvxl,.int .i64 bvxh,.int .i64 bvyl,.int .i64 bvyh,.int .i64 bvzl,.int .i64 bvzh] rfl _ und_208 rfl info_208 (kk _ _ (by simp) bR rfl)
              ·have e180:=dep (DE 11 _ 180 rfl rfl rfl)
               exact wpo_call 124 _ _ rfl #[.agg #[.int .i64 bpxl,.int .i64 bpxh,.int .i64 bpyl,.int .i64 bpyh,.int .i64 bpzl,.int .i64 bpzh,.int .i64 bvxl,.int .i64 bvxh,.int .i64 bvyl,.int .i64 bvyh,.int .i64 bvzl,.int .i64 bvzh]] (by simp [Act.eval,e180]) (fun args w=>by kernel_rfl)
                ((HPLA.out w1).mono fun e w' ⟨he,hb⟩=>⟨_,he,kk _ _ (by simp) hb rfl⟩)
              ·have e14:=KE 14 (by decide)
               exact wpo_loadF 208 (.tmp 14) rfl g29 0 (by simpa [Act.eval] using e14) _ _ (S.fr.left.get 9 rfl) #[.int .i64 bpxl,.int .i64 bpxh,.int .i64 bpyl,.int .i64 bpyh,.int .i64 bpzl,.int .i64 bpzh,.int .i64 bvxl,.int .i64 bvxh,.int .i64 bvyl,.int .i64 bvyh,.int .i64 bvzl,.int .i64 bvzh] rfl _ und_208 rfl info_208 (kk _ _ (by simp) bR rfl)
              ·have e182:=dep (DE 13 _ 182 rfl rfl rfl)
               exact wpo_call 125 _ _ rfl #[.agg #[.int .i64 bpxl,.int .i64 bpxh,.int .i64 bpyl,.int .i64 bpyh,.int .i64 bpzl,.int .i64 bpzh,.int .i64 bvxl,.int .i64 bvxh,.int .i64 bvyl,.int .i64 bvyh,.int .i64 bvzl,.int .i64 bvzh]] (by simp [Act.eval,e182]) (fun args w=>by kernel_rfl)
                ((HSPE.out w1).mono fun e w' ⟨he,hb⟩=>⟨_,he,kk _ _ (by simp) hb rfl⟩)
              ·have e12:=KE 12 (by decide)
               exact wpo_loadF 31 (.tmp 12) rfl g18_10 0 (by simpa [Act.eval] using e12) _ _ (S.fr.left.get 7 rfl) #[.int .i64 o3l,.int .i64 o3h] rfl _ und_span rfl info_span (kk _ _ (by simp) bR rfl)
              ·have e174:=dep (DE 5 _ 174 rfl rfl rfl)
               have e179:=dep (DE 10 _ 179 rfl rfl rfl)
               have e181:=dep (DE 12 _ 181 rfl rfl rfl)
               have e183:=dep (DE 14 _ 183 rfl rfl rfl)
               have e184:=dep (DE 15 _ 184 rfl rfl rfl)
               go_simp;exact kk _ _ (by simp) bR rfl
              ·subst hpre
               have e6:=KE 6 (by decide)
               have e169:=dep (DE 0 _ 169 rfl rfl rfl)
               exact wpo_storeF 38 (.tmp 6) (.tmp 169) rfl rfl (qb+1+1) 0 (by simpa [Act.eval] using e6) #[.int .i64 o1l,.int .i64 o9l,.int .i64 o9h,.int .i64 o15l,.int .i64 o15h,.int .i64 o21l,.int .i64 o21h,.int .i64 o11l,.int .i64 o11h,.int .i64 o17l,.int .i64 o17h,.int .i64 o23l,.int .i64 o23h,.int .i64 o25l,.int .i64 o25h] (by simpa [Act.eval] using e169) _ _ (iC [o1l,o9l,o9h,o15l,o15h,o21l,o21h,o11l,o11h,o17l,o17h,o23l,o23h,o25l,o25h]) (S.fr.left.get 2 rfl) rfl (by show 0+15≤15;omega) (one_all rfl) info_38 fun w' hk ho=>kk _ _ (by simp) (Fr.stage (S.fr.only 2 rfl ho hk) (by exact trivial)) trivial
              ·subst hpre
               have e7:=KE 7 (by decide)
               have e185:=dep (DE 16 _ 185 rfl rfl rfl)
               exact wpo_storeF 58 (.tmp 7) (.tmp 185) rfl rfl (qb+1+1+1) 0 (by simpa [Act.eval] using e7) #[.int .i64 (min st o1l),.int .i64 (max st o1l),.int .i64 bpxl,.int .i64 bpxh,.int .i64 bpyl,.int .i64 bpyh,.int .i64 bpzl,.int .i64 bpzh,.int .i64 bvxl,.int .i64 bvxh,.int .i64 bvyl,.int .i64 bvyh,.int .i64 bvzl,.int .i64 bvzh,.int .i64 o3l,.int .i64 o3h] (by simpa [Act.eval] using e185) _ _ (iC [min st o1l,max st o1l,bpxl,bpxh,bpyl,bpyh,bpzl,bpzh,bvxl,bvxh,bvyl,bvyh,bvzl,bvzh,o3l,o3h]) (by have:=S.fr.left.get 3 rfl;rw [if_pos (S.hi 1 18 rfl rfl)] at this;exact this) rfl (by show 0+16≤16;omega) (one_all rfl) info_58 fun w' hk ho=>kk _ _ (by simp) (Fr.stage (S.fr.only 3 rfl ho hk) (by exact trivial)) trivial
              ·go_simp;exact kk _ _ (by simp) bR rfl
             ·intro vs wf HFr HR
              have HFr':Fr w [] [(qb,160,#[.int .i64 mul,.int .i64 muh,.int .i64 rl,.int .i64 rh,.int .i64 ol,.int .i64 oh,.int .i64 sl,.int .i64 sh,.int .i64 pxl,.int .i64 pxh,.int .i64 pyl,.int .i64 pyh,.int .i64 pzl,.int .i64 pzh,.int .i64 time,.int .i64 step,.int .i64 tl,.int .i64 th,.int .i64 fl,.int .i64 fh,.int .i64 dxl,.int .i64 dxh,.int .i64 dyl,.int .i64 dyh,.int .i64 dzl,.int .i64 dzh,.slice A n c,.int .i64 dl,.int .i64 dh]),(qb+1,38,iC [st,axl,axh,ayl,ayh,azl,azh,bxl,bxh,byl,byh,bzl,bzh,sml,smh]),(qb+1+1,38,iC [o1l,o9l,o9h,o15l,o15h,o21l,o21h,o11l,o11h,o17l,o17h,o23l,o23h,o25l,o25h]),(qb+1+1+1,58,iC [min st o1l,max st o1l,bpxl,bpxh,bpyl,bpyh,bpzl,bpzh,bvxl,bvxh,bvyl,bvyh,bvzl,bvzh,o3l,o3h]),(g1,153,iC [0]),(g10,31,iC [o1l,o1h]),(g14,31,iC [ql,qh]),(g18_10,31,iC [o3l,o3h]),(g23,208,iC [axl,axh,ayl,ayh,azl,azh,bxl,bxh,byl,byh,bzl,bzh]),(g29,208,iC [bpxl,bpxh,bpyl,bpyh,bpzl,bpzh,bvxl,bvxh,bvyl,bvyh,bvzl,bvzh]),(g35,34,iC [fxl,fxh,fyl,fyh,fzl,fzh]),(g41,31,iC [h,h]),(g51,31,iC [o5l,o5h])] wf:=HFr
              have v19:vs 19=.int .i64 0:=HR 19 _ rfl
              clear HFr HR
              have HF66:=Lib.hid HFr'
              clear HFr'
              simp only [putAll,Act.put,List.setIfInBounds_toArray,List.set_cons_zero,List.set_cons_succ]
              simp only [v19]
              clear v19
              obtain ⟨w66,rfl⟩:∃ u:World,u=wf:=⟨_,rfl⟩
              go_wp2_with fail
              refine ret_agg3 rfl rfl rfl (HF66.out.get 2 rfl) rfl (HF66.out.get 3 rfl) rfl und_38 rfl info_38 und_58 rfl info_58 ?_
              exact HFIN.out _ ⟨o1l,⟨⟨o9l,o9h⟩,⟨o15l,o15h⟩,⟨o21l,o21h⟩⟩,⟨⟨o11l,o11h⟩,⟨o17l,o17h⟩,⟨o23l,o23h⟩⟩,⟨o25l,o25h⟩⟩ ⟨min st o1l,max st o1l,⟨⟨bpxl,bpxh⟩,⟨bpyl,bpyh⟩,⟨bpzl,bpzh⟩⟩,⟨⟨bvxl,bvxh⟩,⟨bvyl,bvyh⟩,⟨bvzl,bvzh⟩⟩,⟨o3l,o3h⟩⟩ 0 HR.out HF66.out.drop
            ·have hb5:(e25 != 0)=true:=by simpa using he
             have HR:=HLA.out _ _ HT.out he
             replace HR:=Lib.hid HR
             clear HT HLA HOO he
             have c65:w64.cell? ⟨g1,0,none⟩=some (.int .i64 e25):=(HF64.out.get 4 rfl).cell 0
             go_upto_region 25 with (fail)
             clear c65
             refine wp_region_fr [Kind.p,Kind.p,Kind.p,Kind.p,Kind.p,Kind.p,Kind.c 0,Kind.c 1,Kind.p] [6,7] [] w (fun _=>[]) (fun k=>[(qb,160,#[.int .i64 mul,.int .i64 muh,.int .i64 rl,.int .i64 rh,.int .i64 ol,.int .i64 oh,.int .i64 sl,.int .i64 sh,.int .i64 pxl,.int .i64 pxh,.int .i64 pyl,.int .i64 pyh,.int .i64 pzl,.int .i64 pzh,.int .i64 time,.int .i64 step,.int .i64 tl,.int .i64 th,.int .i64 fl,.int .i64 fh,.int .i64 dxl,.int .i64 dxh,.int .i64 dyl,.int .i64 dyh,.int .i64 dzl,.int .i64 dzh,.slice A n c,.int .i64 dl,.int .i64 dh]),(qb+1,38,iC [st,axl,axh,ayl,ayh,azl,azh,bxl,bxh,byl,byh,bzl,bzh,sml,smh]),(qb+1+1,38,(if k≤0 then iC [o1l,o9l,o9h,o15l,o15h,o21l,o21h,o11l,o11h,o17l,o17h,o23l,o23h,o25l,o25h] else iC [0,0,0,0,0,0,0,0,0,0,0,0,0,0,0])),(qb+1+1+1,58,iC [0,0,0,0,0,0,0,0,0,0,0,0,0,0,0,0]),(g1,153,iC [e25]),(g10,31,iC [o1l,o1h]),(g14,31,iC [ql,qh]),(g18_10,31,iC [o3l,o3h]),(g23,208,iC [axl,axh,ayl,ayh,azl,azh,bxl,bxh,byl,byh,bzl,bzh]),(g29,208,iC [bpxl,bpxh,bpyl,bpyh,bpzl,bpzh,bvxl,bvxh,bvyl,bvyh,bvzl,bvzh]),(g35,34,iC [fxl,fxh,fyl,fyh,fzl,fzh]),(g41,31,iC [h,h]),(g51,31,iC [o5l,o5h])])
                (fun ix u _=>match ix with
                 | 0=>u=.agg #[.int .i64 0,.int .i64 0,.int .i64 0,.int .i64 0,.int .i64 0,.int .i64 0,.int .i64 0,.int .i64 0,.int .i64 0,.int .i64 0,.int .i64 0,.int .i64 0,.int .i64 0,.int .i64 0,.int .i64 0]
                 | 1=>u=.agg #[.int .i64 0,.int .i64 0,.int .i64 0,.int .i64 0,.int .i64 0,.int .i64 0,.int .i64 0,.int .i64 0,.int .i64 0,.int .i64 0,.int .i64 0,.int .i64 0,.int .i64 0,.int .i64 0,.int .i64 0,.int .i64 0]
                 | 2=>u=.pointer (some ⟨g1,0,none⟩)
                 | 3=>u=.pointer (some ⟨g1,0,none⟩)
                 | 4=>u=.pointer (some ⟨g1,0,none⟩)
                 | 5=>u=.int .i64 e25
                 | 8=>u=.int .i64 e25
                 | _=>True)
                (by kernel_rfl) (by kernel_rfl) (by kernel_rfl) [] rfl (by decide) (by kernel_rfl) (by kernel_rfl) HF64.out ?_ ?_
             ·refine ⟨?_,?_,?_,?_,?_,?_,?_,?_,?_,trivial⟩
              all_goals intro a w1 vs dn k K S hpre KE DE kk
              ·go_simp;exact kk _ _ (by simp) bR rfl
              ·go_simp;exact kk _ _ (by simp) bR rfl
              ·have e9:=KE 9 (by decide)
               go_simp;exact kk _ _ (by simp) bR rfl
              ·have e165:=dep (DE 2 _ 165 rfl rfl rfl)
               go_simp;exact kk _ _ (by simp) bR rfl
              ·have e166:=dep (DE 3 _ 166 rfl rfl rfl)
               go_simp;exact kk _ _ (by simp) bR rfl
              ·have e167:=dep (DE 4 _ 167 rfl rfl rfl)
               have ca:w1.cell? ⟨g1,0,none⟩=some (.int .i64 e25):=(S.fr.left.get 4 rfl).cell 0
               go_simp;exact kk _ _ (by simp) bR rfl
              ·subst hpre
               have e6:=KE 6 (by decide)
               have e163:=dep (DE 0 _ 163 rfl rfl rfl)
               exact wpo_storeF 38 (.tmp 6) (.tmp 163) rfl rfl (qb+1+1) 0 (by simpa [Act.eval] using e6) #[.int .i64 0,.int .i64 0,.int .i64 0,.int .i64 0,.int .i64 0,.int .i64 0,.int .i64 0,.int .i64 0,.int .i64 0,.int .i64 0,.int .i64 0,.int .i64 0,.int .i64 0,.int .i64 0,.int .i64 0] (by simpa [Act.eval] using e163) _ _ (iC [0,0,0,0,0,0,0,0,0,0,0,0,0,0,0]) (by have:=S.fr.left.get 2 rfl;rw [if_pos (S.hi 0 6 rfl rfl)] at this;exact this) rfl (by show 0+15≤15;omega) (one_all rfl) info_38 fun w' hk ho=>kk _ _ (by simp) (Fr.stage (S.fr.only 2 rfl ho hk) (by exact trivial)) trivial
              ·subst hpre
               have e7:=KE 7 (by decide)
               have e164:=dep (DE 1 _ 164 rfl rfl rfl)
               exact wpo_storeF 58 (.tmp 7) (.tmp 164) rfl rfl (qb+1+1+1) 0 (by simpa [Act.eval] using e7) #[.int .i64 0,.int .i64 0,.int .i64 0,.int .i64 0,.int .i64 0,.int .i64 0,.int .i64 0,.int .i64 0,.int .i64 0,.int .i64 0,.int .i64 0,.int .i64 0,.int .i64 0,.int .i64 0,.int .i64 0,.int .i64 0] (by simpa [Act.eval] using e164) _ _ (iC [0,0,0,0,0,0,0,0,0,0,0,0,0,0,0,0]) (S.fr.left.get 3 rfl) rfl (by show 0+16≤16;omega) (one_all rfl) info_58 fun w' hk ho=>kk _ _ (by simp) (Fr.stage (S.fr.only 3 rfl ho hk) (by exact trivial)) trivial
              ·have e168:=dep (DE 5 _ 168 rfl rfl rfl)
               go_simp;exact kk _ _ (by simp) bR rfl
             ·intro vs wf HFr HR
              have HFr':Fr w [] [(qb,160,#[.int .i64 mul,.int .i64 muh,.int .i64 rl,.int .i64 rh,.int .i64 ol,.int .i64 oh,.int .i64 sl,.int .i64 sh,.int .i64 pxl,.int .i64 pxh,.int .i64 pyl,.int .i64 pyh,.int .i64 pzl,.int .i64 pzh,.int .i64 time,.int .i64 step,.int .i64 tl,.int .i64 th,.int .i64 fl,.int .i64 fh,.int .i64 dxl,.int .i64 dxh,.int .i64 dyl,.int .i64 dyh,.int .i64 dzl,.int .i64 dzh,.slice A n c,.int .i64 dl,.int .i64 dh]),(qb+1,38,iC [st,axl,axh,ayl,ayh,azl,azh,bxl,bxh,byl,byh,bzl,bzh,sml,smh]),(qb+1+1,38,iC [0,0,0,0,0,0,0,0,0,0,0,0,0,0,0]),(qb+1+1+1,58,iC [0,0,0,0,0,0,0,0,0,0,0,0,0,0,0,0]),(g1,153,iC [e25]),(g10,31,iC [o1l,o1h]),(g14,31,iC [ql,qh]),(g18_10,31,iC [o3l,o3h]),(g23,208,iC [axl,axh,ayl,ayh,azl,azh,bxl,bxh,byl,byh,bzl,bzh]),(g29,208,iC [bpxl,bpxh,bpyl,bpyh,bpzl,bpzh,bvxl,bvxh,bvyl,bvyh,bvzl,bvzh]),(g35,34,iC [fxl,fxh,fyl,fyh,fzl,fzh]),(g41,31,iC [h,h]),(g51,31,iC [o5l,o5h])] wf:=HFr
              have v8:vs 8=.int .i64 e25:=HR 8 _ rfl
              clear HFr HR
              have HF66:=Lib.hid HFr'
              clear HFr'
              simp only [putAll,Act.put,List.setIfInBounds_toArray,List.set_cons_zero,List.set_cons_succ]
              simp only [v8]
              clear v8
              obtain ⟨w66,rfl⟩:∃ u:World,u=wf:=⟨_,rfl⟩
              go_wp2_with fail
              refine ret_agg3 rfl rfl rfl (HF66.out.get 2 rfl) rfl (HF66.out.get 3 rfl) rfl und_38 rfl info_38 und_58 rfl info_58 ?_
              exact HFIN.out _ noSt noTb e25 HR.out HF66.out.drop
  ·rw [if_neg he3] at HM4
   have hb3:(e3 == 0)=false:=by simpa using he3
   have H120:=fun cb w1 h1 h2 h3=>HTUB.out ⟨o3l,o3h⟩ cb e3 w1 h1 h2 HW3.out h3 _ _ _ (HTB.out _ e3 he3)
   have HR:=HBAD.out _ _ _ HM4 _ _ _ (HTB.out _ e3 he3) rfl
   rw [if_neg he3] at HR
   clear he3
   simp only [Bool.false_and] at H120
   try dsimp only at H120
   replace H120:=Lib.hid H120
   replace HR:=Lib.hid HR
   clear HTUB HTB HBAD HLAT HOK HM4 HTW HFO HFW HTL
   have c19:w18.cell? ⟨g1,0,none⟩=some (.int .i64 e3):=(HF18.out.get 4 rfl).cell 0
   go_wp2_with (first
     | (refine wpLoadF rfl 34 _ rfl (qb+1) 1 rfl _ _ (HF18.out.get 1 rfl) #[.int .i64 axl,.int .i64 axh,.int .i64 ayl,.int .i64 ayh,.int .i64 azl,.int .i64 azh] rfl _ und_34 rfl info_34 ?_)
     | (refine wpLoadF rfl 34 _ rfl (qb+1) 7 rfl _ _ (HF18.out.get 1 rfl) #[.int .i64 bxl,.int .i64 bxh,.int .i64 byl,.int .i64 byh,.int .i64 bzl,.int .i64 bzh] rfl _ und_34 rfl info_34 ?_))
   clear c19
   refine (HOX.out _).mono ?_
   rintro e w20 ⟨rfl,hw⟩
   have HF21:=Lib.hid (HF18.out.below hw)
   clear hw
   obtain ⟨g22,hg22⟩:∃ g,w20.heap.size=g:=⟨_,rfl⟩
   obtain ⟨w22,hw22⟩:∃ u,w20.alloc (.cells #[.int .i64 0,.int .i64 0,.int .i64 0,.int .i64 0,.int .i64 0,.int .i64 0,.int .i64 0,.int .i64 0,.int .i64 0,.int .i64 0,.int .i64 0,.int .i64 0] 208)=u:=⟨_,rfl⟩
   have HF23:=Lib.hid (frE hw22 (HF21.out.alloc hg22.symm 208 #[.int .i64 0,.int .i64 0,.int .i64 0,.int .i64 0,.int .i64 0,.int .i64 0,.int .i64 0,.int .i64 0,.int .i64 0,.int .i64 0,.int .i64 0,.int .i64 0]))
   go_wp2_with (first
     | (refine wpLoadF rfl 160 _ rfl qb 0 rfl _ _ (HF25.out.get 0 rfl) #[.int .i64 mul,.int .i64 muh,.int .i64 rl,.int .i64 rh,.int .i64 ol,.int .i64 oh,.int .i64 sl,.int .i64 sh,.int .i64 pxl,.int .i64 pxh,.int .i64 pyl,.int .i64 pyh,.int .i64 pzl,.int .i64 pzh,.int .i64 time,.int .i64 step,.int .i64 tl,.int .i64 th,.int .i64 fl,.int .i64 fh,.int .i64 dxl,.int .i64 dxh,.int .i64 dyl,.int .i64 dyh,.int .i64 dzl,.int .i64 dzh,.slice A n c,.int .i64 dl,.int .i64 dh] rfl _ und_160 rfl info_160 ?_)
     | (refine wpLoadF rfl 208 _ rfl g22 0 rfl _ _ (HF25.out.get 8 rfl) #[.int .i64 axl,.int .i64 axh,.int .i64 ayl,.int .i64 ayh,.int .i64 azl,.int .i64 azh,.int .i64 bxl,.int .i64 bxh,.int .i64 byl,.int .i64 byh,.int .i64 bzl,.int .i64 bzh] rfl _ und_208 rfl info_208 ?_)
     | (refine wpLoadF rfl 31 _ rfl g14 0 rfl _ _ (HF25.out.get 6 rfl) #[.int .i64 ql,.int .i64 qh] rfl _ und_span rfl info_span ?_)
     | (refine wpLoadF rfl 31 _ rfl g18_10 0 rfl _ _ (HF25.out.get 7 rfl) #[.int .i64 o3l,.int .i64 o3h] rfl _ und_span rfl info_span ?_)
     | (refine wpStoreF rfl rfl 208 _ _ rfl g22 0 rfl #[.int .i64 axl,.int .i64 axh,.int .i64 ayl,.int .i64 ayh,.int .i64 azl,.int .i64 azh,.int .i64 bxl,.int .i64 bxh,.int .i64 byl,.int .i64 byh,.int .i64 bzl,.int .i64 bzh] rfl _ _ (iC [axl,axh,ayl,ayh,azl,azh,bxl,bxh,byl,byh,bzl,bzh]) (HF23.out.get 8 rfl) rfl (by show 0+12≤12;omega) (one_all rfl) info_208 ?_;intro w24 hk ho;clear hw22 hg22;have HF25:=Lib.hid (HF23.out.only 8 rfl ho hk);clear ho hk))
   refine (H120.out g1 _ (HF25.out.ge 4 rfl) HF25.out.toBelow (HF25.out.get 4 rfl)).mono ?_
   rintro e w26 ⟨rfl,hw⟩
   have HF27:=Lib.hid (HF25.out.turn 4 rfl hw)
   clear hw
   obtain ⟨g28,hg28⟩:∃ g,w26.heap.size=g:=⟨_,rfl⟩
   obtain ⟨w28,hw28⟩:∃ u,w26.alloc (.cells #[.int .i64 0,.int .i64 0,.int .i64 0,.int .i64 0,.int .i64 0,.int .i64 0,.int .i64 0,.int .i64 0,.int .i64 0,.int .i64 0,.int .i64 0,.int .i64 0] 208)=u:=⟨_,rfl⟩
   have HF29:=Lib.hid (frE hw28 (HF27.out.alloc hg28.symm 208 #[.int .i64 0,.int .i64 0,.int .i64 0,.int .i64 0,.int .i64 0,.int .i64 0,.int .i64 0,.int .i64 0,.int .i64 0,.int .i64 0,.int .i64 0,.int .i64 0]))
   go_upto_region 12 with (refine wpStoreF rfl rfl 208 _ _ rfl g28 0 rfl #[.int .i64 axl,.int .i64 axh,.int .i64 ayl,.int .i64 ayh,.int .i64 azl,.int .i64 azh,.int .i64 bxl,.int .i64 bxh,.int .i64 byl,.int .i64 byh,.int .i64 bzl,.int .i64 bzh] rfl _ _ (iC [axl,axh,ayl,ayh,azl,azh,bxl,bxh,byl,byh,bzl,bzh]) (HF29.out.get 9 rfl) rfl (by show 0+12≤12;omega) (one_all rfl) info_208 ?_;intro w30 hk ho;clear hw28 hg28;have HF31:=Lib.hid (HF29.out.only 9 rfl ho hk);clear ho hk;have c32:w30.cell? ⟨g1,0,none⟩=some (.int .i64 e3):=(HF31.out.get 4 rfl).cell 0)
   clear c32
   refine wp_region_fr [Kind.p,Kind.p,Kind.p,Kind.p,Kind.p,Kind.p,Kind.c 0,Kind.c 1,Kind.p] [6,7] [] w (fun _=>[]) (fun _=>_)
      (fun ix u _=>match ix with
       | 0=>u=.agg #[.int .i64 0,.int .i64 0,.int .i64 0,.int .i64 0,.int .i64 0,.int .i64 0,.int .i64 0,.int .i64 0,.int .i64 0,.int .i64 0,.int .i64 0,.int .i64 0,.int .i64 0,.int .i64 0,.int .i64 0]
       | 1=>u=.agg #[.int .i64 0,.int .i64 0,.int .i64 0,.int .i64 0,.int .i64 0,.int .i64 0,.int .i64 0,.int .i64 0,.int .i64 0,.int .i64 0,.int .i64 0,.int .i64 0,.int .i64 0,.int .i64 0,.int .i64 0,.int .i64 0]
       | 2=>u=.pointer (some ⟨g1,0,none⟩)
       | 3=>u=.pointer (some ⟨g1,0,none⟩)
       | 4=>u=.pointer (some ⟨g1,0,none⟩)
       | 5=>u=.int .i64 e3
       | 8=>u=.int .i64 e3
       | _=>True)
      (by kernel_rfl) (by kernel_rfl) (by kernel_rfl) [] rfl (by decide) (by kernel_rfl) (by kernel_rfl) HF31.out ?_ ?_
   ·refine ⟨?_,?_,?_,?_,?_,?_,?_,?_,?_,trivial⟩
    all_goals intro a w1 vs dn k K S hpre KE DE kk
    ·go_simp;exact kk _ _ (by simp) bR rfl
    ·go_simp;exact kk _ _ (by simp) bR rfl
    ·have e9:=KE 9 (by decide)
     go_simp;exact kk _ _ (by simp) bR rfl
    ·have e83:=dep (DE 2 _ 83 rfl rfl rfl)
     go_simp;exact kk _ _ (by simp) bR rfl
    ·have e84:=dep (DE 3 _ 84 rfl rfl rfl)
     go_simp;exact kk _ _ (by simp) bR rfl
    ·have e85:=dep (DE 4 _ 85 rfl rfl rfl)
     have ca:w1.cell? ⟨g1,0,none⟩=some (.int .i64 e3):=(S.fr.left.get 4 rfl).cell 0
     go_simp;exact kk _ _ (by simp) bR rfl
    ·subst hpre
     have e6:=KE 6 (by decide)
     have e81:=dep (DE 0 _ 81 rfl rfl rfl)
     exact wpo_storeF 38 (.tmp 6) (.tmp 81) rfl rfl (qb+1+1) 0 (by simpa [Act.eval] using e6) #[.int .i64 0,.int .i64 0,.int .i64 0,.int .i64 0,.int .i64 0,.int .i64 0,.int .i64 0,.int .i64 0,.int .i64 0,.int .i64 0,.int .i64 0,.int .i64 0,.int .i64 0,.int .i64 0,.int .i64 0] (by simpa [Act.eval] using e81) _ _ (iC [0,0,0,0,0,0,0,0,0,0,0,0,0,0,0]) (S.fr.left.get 2 rfl) rfl (by show 0+15≤15;omega) (one_all rfl) info_38 fun w' hk ho=>kk _ _ (by simp) (Fr.stage (S.fr.only 2 rfl ho hk) (by exact trivial)) trivial
    ·subst hpre
     have e7:=KE 7 (by decide)
     have e82:=dep (DE 1 _ 82 rfl rfl rfl)
     exact wpo_storeF 58 (.tmp 7) (.tmp 82) rfl rfl (qb+1+1+1) 0 (by simpa [Act.eval] using e7) #[.int .i64 0,.int .i64 0,.int .i64 0,.int .i64 0,.int .i64 0,.int .i64 0,.int .i64 0,.int .i64 0,.int .i64 0,.int .i64 0,.int .i64 0,.int .i64 0,.int .i64 0,.int .i64 0,.int .i64 0,.int .i64 0] (by simpa [Act.eval] using e82) _ _ (iC [0,0,0,0,0,0,0,0,0,0,0,0,0,0,0,0]) (S.fr.left.get 3 rfl) rfl (by show 0+16≤16;omega) (one_all rfl) info_58 fun w' hk ho=>kk _ _ (by simp) (Fr.stage (S.fr.only 3 rfl ho hk) (by exact trivial)) trivial
    ·have e86:=dep (DE 5 _ 86 rfl rfl rfl)
     go_simp;exact kk _ _ (by simp) bR rfl
   ·intro vs wf HFr HR
    have HFr':Fr w [] [(qb,160,#[.int .i64 mul,.int .i64 muh,.int .i64 rl,.int .i64 rh,.int .i64 ol,.int .i64 oh,.int .i64 sl,.int .i64 sh,.int .i64 pxl,.int .i64 pxh,.int .i64 pyl,.int .i64 pyh,.int .i64 pzl,.int .i64 pzh,.int .i64 time,.int .i64 step,.int .i64 tl,.int .i64 th,.int .i64 fl,.int .i64 fh,.int .i64 dxl,.int .i64 dxh,.int .i64 dyl,.int .i64 dyh,.int .i64 dzl,.int .i64 dzh,.slice A n c,.int .i64 dl,.int .i64 dh]),(qb+1,38,iC [st,axl,axh,ayl,ayh,azl,azh,bxl,bxh,byl,byh,bzl,bzh,sml,smh]),(qb+1+1,38,iC [0,0,0,0,0,0,0,0,0,0,0,0,0,0,0]),(qb+1+1+1,58,iC [0,0,0,0,0,0,0,0,0,0,0,0,0,0,0,0]),(g1,153,iC [e3]),(g10,31,iC [o1l,o1h]),(g14,31,iC [ql,qh]),(g18_10,31,iC [o3l,o3h]),(g22,208,iC [axl,axh,ayl,ayh,azl,azh,bxl,bxh,byl,byh,bzl,bzh]),(g28,208,iC [axl,axh,ayl,ayh,azl,azh,bxl,bxh,byl,byh,bzl,bzh])] wf:=HFr
    have v8:vs 8=.int .i64 e3:=HR 8 _ rfl
    clear HFr HR
    have HF33:=Lib.hid HFr'
    clear HFr'
    simp only [putAll,Act.put,List.setIfInBounds_toArray,List.set_cons_zero,List.set_cons_succ]
    simp only [v8]
    clear v8
    obtain ⟨w33,rfl⟩:∃ u:World,u=wf:=⟨_,rfl⟩
    go_wp2_with fail
    refine ret_agg3 rfl rfl rfl (HF33.out.get 2 rfl) rfl (HF33.out.get 3 rfl) rfl und_38 rfl info_38 und_58 rfl info_58 ?_
    exact HFIN.out _ noSt noTb e3 (HR.out) HF33.out.drop
end Go.Proofs.YtmkoegljnebdiaaGreat
