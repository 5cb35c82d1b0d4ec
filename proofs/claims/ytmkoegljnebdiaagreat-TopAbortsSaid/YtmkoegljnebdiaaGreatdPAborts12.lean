/- What is proved: the texts Na Nb Nc Nd Ne Nf Ng Md, one behind the other; each says at its head what it proves, and under which conditions. -/
import Derived.Test.YtmkoegljnebdiaaGreatdPAborts11
namespace Go.Proofs.YtmkoegljnebdiaaGreat
open Go.RowKit
set_option maxRecDepth 100000
set_option maxHeartbeats 16000000

theorem bnd_okA {α β:Type} {m:CM α} {k:α→CM β} {r:β} (hs:∀ a,Sticky (k a)) (h:(m.bnd k) 0=(r,0)):∃ a,m 0=(a,0)∧k a 0=(r,0):=by
 have h0:(m 0).2=0:=by
  rcases Classical.em ((m 0).2=0) with e | e
  ·exact e
  ·have h2:=hs (m 0).1 (m 0).2 e;have h3:(k (m 0).1 (m 0).2).2=0:=congrArg Prod.snd h;rw [h2] at h3;exact absurd h3 e
 refine ⟨(m 0).1,Prod.ext rfl h0,?_⟩
 have h5:k (m 0).1 (m 0).2=(r,0):=h;rwa [h0] at h5
theorem doM_okA {f:SpanD→SpanD→SpanD × Int} {a b r:SpanD} (h:doM f a b 0=(r,0)):f a b=(r,0):=by
 unfold doM at h;rwa [if_pos rfl] at h
theorem each_okA {f:SpanD→SpanD→SpanD × Int} {a b r:BoxD} (h:eachM (doM f) a b 0=(r,0)):f a.x b.x=(r.x,0)∧f a.y b.y=(r.y,0)∧f a.z b.z=(r.z,0):=by
 unfold eachM at h;obtain ⟨x,h1,h⟩:=bnd_okA (fun _=>(doM_sticky f _ _).bnd fun _=>(doM_sticky f _ _).bnd fun _=>Sticky.ret _) h;obtain ⟨y,h2,h⟩:=bnd_okA (fun _=>(doM_sticky f _ _).bnd fun _=>Sticky.ret _) h;obtain ⟨z,h3,h⟩:=bnd_okA (fun _=>Sticky.ret _) h;have e:BoxD.mk x y z=r:=congrArg Prod.fst h;subst e;exact ⟨doM_okA h1,doM_okA h2,doM_okA h3⟩
theorem each_stickyA (f:SpanD→SpanD→SpanD × Int) (a b:BoxD):Sticky (eachM (doM f) a b):=eachM_sticky (fun _ _=>doM_sticky _ _ _) _ _
theorem reached_okA {x m:SixD} {d:SpanD} {v f:BoxD} (h:reachedM x d v f 0=(m,0)):∃ dv df,eachM (doM mulB) (allBox d) v 0=(dv,0)∧eachM (doM addB) x.p dv 0=(m.p,0)∧eachM (doM mulB) (allBox d) f 0=(df,0)∧eachM (doM addB) x.v df 0=(m.v,0):=by
 unfold reachedM byM mulM addM at h;obtain ⟨dv,h1,h⟩:=bnd_okA (fun _=>(each_stickyA _ _ _).bnd fun _=>(each_stickyA _ _ _).bnd fun _=>(each_stickyA _ _ _).bnd fun _=>Sticky.ret _) h;obtain ⟨p,h2,h⟩:=bnd_okA (fun _=>(each_stickyA _ _ _).bnd fun _=>(each_stickyA _ _ _).bnd fun _=>Sticky.ret _) h;obtain ⟨df,h3,h⟩:=bnd_okA (fun _=>(each_stickyA _ _ _).bnd fun _=>Sticky.ret _) h;obtain ⟨v2,h4,h⟩:=bnd_okA (fun _=>Sticky.ret _) h;have e:SixD.mk p v2=m:=congrArg Prod.fst h;subst e;exact ⟨dv,df,h1,h2,h3,h4⟩
def Has0 (a:SpanD):Prop:=a.lo≤0∧0≤a.hi
theorem mul_has0 {d v q:SpanD} (hd:Has0 d) (h:mulB d v=(q,0)):Has0 q:=by
 unfold mulB at h;split at h
 ·obtain ⟨rfl,-,-⟩:=fit_ok h;obtain ⟨d1,d2⟩:=hd;have m1:min4 (d.lo * v.lo) (d.lo * v.hi) (d.hi * v.lo) (d.hi * v.hi)≤0:=by
   unfold min4;rcases Int.le_total v.lo 0 with h1 | h1
   ·have:=Int.mul_nonpos_of_nonneg_of_nonpos d2 h1;omega
   ·have:=Int.mul_nonpos_of_nonpos_of_nonneg d1 h1;omega
  have m2:0≤max4 (d.lo * v.lo) (d.lo * v.hi) (d.hi * v.lo) (d.hi * v.hi):=by
   unfold max4;rcases Int.le_total 0 v.hi with h1 | h1
   ·have:=Int.mul_nonneg d2 h1;omega
   ·have:=Int.mul_nonneg_of_nonpos_of_nonpos d1 h1;omega
  generalize min4 _ _ _ _=a at m1 ⊢
  generalize max4 _ _ _ _=b at m2 ⊢
  unfold Has0 dn32 up32;dsimp only;omega
 ·injection h with _ h;omega
theorem add_lesser {x y q r:SpanD} (hy:inS y x) (hq:Has0 q) (h:addB x q=(r,0)):inS y r:=by
 unfold addB at h;split at h
 ·obtain ⟨rfl,-,hb⟩:=fit_ok h;unfold bigB at hb;simp only [Bool.and_eq_true,decide_eq_true_eq] at hb;obtain ⟨h1,h2,h3,h4⟩:=hy;obtain ⟨q1,q2⟩:=hq;exact ⟨h1,by show x.lo+q.lo≤y.lo;omega,by show y.hi≤x.hi+q.hi;omega,hb.1⟩
 ·injection h with _ h;omega
theorem reached_lesser {x y m:SixD} {d:SpanD} {v f:BoxD} (hy:inSix y x) (hd:Has0 d) (h:reachedM x d v f 0=(m,0)):inSix y m:=by
 obtain ⟨dv,df,h1,h2,h3,h4⟩:=reached_okA h;obtain ⟨a1,a2,a3⟩:=each_okA h1;obtain ⟨b1,b2,b3⟩:=each_okA h2;obtain ⟨c1,c2,c3⟩:=each_okA h3;obtain ⟨d1,d2,d3⟩:=each_okA h4;exact ⟨⟨add_lesser hy.1.1 (mul_has0 hd a1) b1,add_lesser hy.1.2.1 (mul_has0 hd a2) b2,add_lesser hy.1.2.2 (mul_has0 hd a3) b3⟩,
  ⟨add_lesser hy.2.1 (mul_has0 hd c1) d1,add_lesser hy.2.2.1 (mul_has0 hd c2) d2,add_lesser hy.2.2.2 (mul_has0 hd c3) d3⟩⟩
theorem tube_lesser {F:SixD→SpanD→CM BoxD} (hF:∀ x m,Sticky (F x m)) {x y:SixD} {d m:SpanD} (hy:inSix y x) (hd:Has0 d):∀ (n:Nat) (b:SixD) (e:Int) (mo:SixD),(tubeK F x d m n b e).1=(mo,true)→(tubeK F x d m n b e).2=0→inSix y mo
 | 0,b,e,mo,h,_=>by
  have:(b,false)=(mo,true):=h
  exact absurd (congrArg Prod.snd this) (by simp)
 | n+1,b,e,mo,h,h0=>by
  simp only [tubeK] at h h0;split at h
  ·exact absurd (congrArg Prod.snd h) (by simp)
  ·rename_i he
   rw [if_neg he] at h0;have he0:(reachedM x d b.v (F b m e).1 (F b m e).2).2=0:=Classical.not_not.1 he;split at h
   ·have e0:(F b m e).2=0:=by
     rcases Classical.em ((F b m e).2=0) with q | q
     ·exact q
     ·have:=reached_sticky x d b.v (F b m e).1 _ q
      rw [this] at he0;exact he0
    rw [e0] at he0 h;have hm:(reachedM x d b.v (F b m e).1 0).1=mo:=congrArg Prod.fst h;exact reached_lesser hy hd (Prod.ext hm he0)
   ·rename_i hn
    rw [if_neg hn] at h0;exact tube_lesser hF hy hd n _ _ mo h h0

theorem IsoM.same {α:Type} (m:CM α):IsoM Eq m m:=fun r hr=>⟨r,hr,rfl⟩
theorem next_stickyA (a b c d e:SpanD):Sticky (nextM a b c d e) :=
 (doM_sticky _ _ _).bnd fun _=>(doM_sticky _ _ _).bnd fun _=>(doM_sticky _ _ _).bnd fun _=>(doM_sticky _ _ _).bnd fun _=>(doM_sticky _ _ _).bnd fun _=>(doM_sticky _ _ _).bnd fun _=>Sticky.ret _
theorem next_iso {l l' hf hf' p p' v v' f f':SpanD} (h1:inS l' l) (h2:inS hf' hf) (h3:inS p' p) (h4:inS v' v) (h5:inS f' f):IsoM (fun a b=>inS a.1 b.1∧inS a.2 b.2) (nextM l' hf' p' v' f') (nextM l hf p v f) :=
 IsoM.bnd (mulM_iso h1 h4) (fun _ _ a1=>IsoM.bnd (addM_iso h3 a1) (fun _ _ a2=>IsoM.bnd (mulM_iso h2 h5) (fun _ _ a3=>IsoM.bnd (addM_iso a2 a3) (fun _ _ p2=>IsoM.bnd (mulM_iso h1 h5) (fun _ _ b1=>IsoM.bnd (addM_iso h4 b1) (fun _ _ v2=>IsoM.ret ⟨p2,v2⟩)
  fun _=>Sticky.ret _) fun _=>(doM_sticky _ _ _).bnd fun _=>Sticky.ret _) fun _=>(doM_sticky _ _ _).bnd fun _=>(doM_sticky _ _ _).bnd fun _=>Sticky.ret _) fun _=>(doM_sticky _ _ _).bnd fun _=>(doM_sticky _ _ _).bnd fun _=>(doM_sticky _ _ _).bnd fun _=>Sticky.ret _)
  fun _=>(doM_sticky _ _ _).bnd fun _=>(doM_sticky _ _ _).bnd fun _=>(doM_sticky _ _ _).bnd fun _=>(doM_sticky _ _ _).bnd fun _=>Sticky.ret _) fun _=>(doM_sticky _ _ _).bnd fun _=>(doM_sticky _ _ _).bnd fun _=>(doM_sticky _ _ _).bnd fun _=>(doM_sticky _ _ _).bnd fun _=>(doM_sticky _ _ _).bnd fun _=>Sticky.ret _
def Lesser (E S:StateD):Prop:=E.t=S.t∧E.m=S.m∧inBox E.p S.p∧inBox E.v S.v
theorem tail_stickyA (a:ArcD) (s:StateD) (h:Int) (f:BoxD):Sticky (tailM a s h f) :=
 (doM_sticky _ _ _).bnd fun _=>(doM_sticky _ _ _).bnd fun _=>(next_stickyA _ _ _ _ _).bnd fun _=>(next_stickyA _ _ _ _ _).bnd fun _=>(next_stickyA _ _ _ _ _).bnd fun _=>(doM_sticky _ _ _).bnd fun _=>(doM_sticky _ _ _).bnd fun _=>Sticky.ret _
theorem tail_iso (a:ArcD) {E S:StateD} {h:Int} (hE:Lesser E S) {f f':BoxD} (hf:inBox f' f) (hh:Ok1 (ptS h)):IsoM (fun x y=>inBox x.1 y.1∧inBox x.2.1 y.2.1∧x.2.2=y.2.2) (tailM a E h f') (tailM a S h f):=by
 obtain ⟨_,e2,hp,hv⟩:=hE;have h2:Ok1 (wholeS 2):=⟨rfl,Int.le_refl _,Int.le_refl _,by decide⟩
 have s3:=fun (fl:SpanD) (x y z:SpanD × SpanD)=>(doM_sticky subB S.m fl).bnd fun m=>Sticky.ret ((⟨x.1,y.1,z.1⟩,⟨x.2,y.2,z.2⟩,m):BoxD × BoxD × SpanD);unfold tailM;rw [e2];refine IsoM.bnd (mulM_iso hh hh) (fun _ _ ll=>IsoM.bnd (divM_iso ll h2) (fun _ _ hf2=>IsoM.bnd (next_iso hh hf2 hp.1 hv.1 hf.1) (fun x' x rx=>IsoM.bnd (next_iso hh hf2 hp.2.1 hv.2.1 hf.2.1) (fun y' y ry=>IsoM.bnd (next_iso hh hf2 hp.2.2 hv.2.2 hf.2.2) (fun z' z rz =>
  IsoM.bnd (IsoM.same _) (fun fl' fl ef=>IsoM.bnd (R:=Eq) (by rw [ef];exact IsoM.same _) (fun m' m em=>IsoM.ret ⟨⟨rx.1,ry.1,rz.1⟩,⟨rx.2,ry.2,rz.2⟩,em⟩) ?_) ?_) ?_) ?_) ?_) ?_) ?_
 ·exact fun _=>Sticky.ret _
 ·exact fun _=>(doM_sticky _ _ _).bnd fun _=>Sticky.ret _
 ·exact fun _=>(doM_sticky _ _ _).bnd fun _=>(doM_sticky _ _ _).bnd fun _=>Sticky.ret _
 ·exact fun _=>(next_stickyA _ _ _ _ _).bnd fun _=>(doM_sticky _ _ _).bnd fun _=>(doM_sticky _ _ _).bnd fun _=>Sticky.ret _
 ·exact fun _=>(next_stickyA _ _ _ _ _).bnd fun _=>(next_stickyA _ _ _ _ _).bnd fun _=>(doM_sticky _ _ _).bnd fun _=>(doM_sticky _ _ _).bnd fun _=>Sticky.ret _
 ·exact fun _=>(next_stickyA _ _ _ _ _).bnd fun _=>(next_stickyA _ _ _ _ _).bnd fun _=>(next_stickyA _ _ _ _ _).bnd fun _=>(doM_sticky _ _ _).bnd fun _=>(doM_sticky _ _ _).bnd fun _=>Sticky.ret _
 ·exact fun _=>(doM_sticky _ _ _).bnd fun _=>(next_stickyA _ _ _ _ _).bnd fun _=>(next_stickyA _ _ _ _ _).bnd fun _=>(next_stickyA _ _ _ _ _).bnd fun _=>(doM_sticky _ _ _).bnd fun _=>(doM_sticky _ _ _).bnd fun _=>Sticky.ret _
theorem mass_same (a:ArcD) {E S:StateD} (h:Int) (hE:Lesser E S):massM a E h=massM a S h:=by unfold massM;rw [hE.1,hE.2.1]
def EulP (p:PlanetD) (a:ArcD) (E:StateD) (h:Int) (ms:SpanD) (E1:StateD):Prop :=
 ∃ en p2 v2 m2,massM a E h 0=((en,ms),0)∧((forceM p a ⟨E.p,E.v⟩ ms).bnd (tailM a E h)) 0=((p2,v2,m2),0)∧E1=⟨en.lo,p2,v2,m2⟩
theorem EulP.uniq {p:PlanetD} {a:ArcD} {E:StateD} {h:Int} {ms ms':SpanD} {E1 E2:StateD} (h1:EulP p a E h ms E1) (h2:EulP p a E h ms' E2):ms'=ms∧E2=E1:=by
 obtain ⟨en,p2,v2,m2,a1,a2,rfl⟩:=h1;obtain ⟨en',p2',v2',m2',b1,b2,rfl⟩:=h2;rw [a1] at b1;simp only [Prod.mk.injEq] at b1;obtain ⟨⟨rfl,rfl⟩,_⟩:=b1;rw [a2] at b2;simp only [Prod.mk.injEq] at b2;obtain ⟨⟨rfl,rfl,rfl⟩,_⟩:=b2;exact ⟨rfl,rfl⟩
theorem has0_d (h:Int):Has0 (dS h):=⟨by show min h 0≤0;omega,by show 0≤max h 0;omega⟩
theorem step_lesser {p:PlanetD} {a:ArcD} (hk:OkF p a) {E S S1:StateD} {tb:TubeD} {h:Int} (hE:Lesser E S) (hh:Ok1 (ptS h)) (hm:∀ en ms,massM a S h 0=((en,ms),0)→Ok1 ms) (hs:stepF (forceM p a) a S h=((S1,tb),0)) :
  ∃ E1,EulP p a E h tb.m E1∧Lesser E1 S1∧inBox E.p tb.p∧inBox E.v tb.v:=by
 unfold stepF at hs;obtain ⟨⟨en,ms⟩,em⟩:=eX ((massM a S h 0).1);obtain ⟨e0,ee⟩:=eX ((massM a S h 0).2);rw [em,ee] at hs;unfold stepT at hs;dsimp only at hs;split at hs
 ·rename_i hc
  rw [Bool.and_eq_true,decide_eq_true_eq] at hc;split at hs
  ·rename_i h0
   have he0:e0=0:=by
    rcases Classical.em (e0=0) with q | q
    ·exact q
    ·have:=tube_sticky (F:=forceM p a) (fun x m=>st_force p a x m) ⟨S.p,S.v⟩ (dS h) ms 7 ⟨S.p,S.v⟩ q
     rw [this] at hc;exact absurd hc.2 q
   subst he0;have hms:massM a S h 0=((en,ms),0):=Prod.ext em ee;obtain ⟨⟨mo,ok⟩,ht⟩:=eX ((tubeK (forceM p a) ⟨S.p,S.v⟩ (dS h) ms 8 ⟨S.p,S.v⟩ 0).1);rw [ht] at hc h0 hs;dsimp only at hc h0 hs;obtain ⟨hok,hte⟩:=hc;subst hok;have hin:=tube_lesser (F:=forceM p a) (fun x m=>st_force p a x m) (y:=⟨E.p,E.v⟩) ⟨hE.2.2.1,hE.2.2.2⟩ (has0_d h) 8 ⟨S.p,S.v⟩ 0 mo ht hte;obtain ⟨⟨P2,V2,M2⟩,hr⟩:=eX ((((forceM p a mo ms).bnd (tailM a S h)) 0).1);have hr2:((forceM p a mo ms).bnd (tailM a S h)) 0=((P2,V2,M2),0):=Prod.ext hr h0;have iso:=IsoM.bnd (force_iso hk (hm en ms hms) (x':=⟨E.p,E.v⟩) (x:=mo) hin) (fun f' f hf=>tail_iso a hE hf hh) (fun f=>tail_stickyA a S h f);obtain ⟨⟨p2,v2,m2⟩,i1,i2,i3,i4⟩:=iso _ hr2;rw [hr] at hs;simp only [Prod.mk.injEq] at hs;obtain ⟨⟨rfl,rfl⟩,-⟩:=hs;refine ⟨⟨en.lo,p2,v2,m2⟩,⟨en,p2,v2,m2,by rw [mass_same a h hE];exact hms,i1,rfl⟩,⟨rfl,i4,i2,i3⟩,hin.1,hin.2⟩
  ·rename_i h0
   simp only [Prod.mk.injEq] at hs;exact absurd hs.2 h0
 ·simp only [Prod.mk.injEq] at hs;obtain ⟨-,h9⟩:=hs;split at h9
  ·omega
  ·rename_i q;exact absurd h9 q

theorem ok_sub {a b r:SpanD} (h:subB a b=(r,0)):Ok1 r:=by
 unfold subB at h;split at h
 ·rename_i hb
  unfold addB at h;split at h
  ·rename_i hc
   obtain ⟨rfl,h1,h2⟩:=fit_ok h;rw [Bool.and_eq_true] at hc;have c1:=chk_iff.1 hc.1;have c2:=chk_iff.1 hc.2;unfold bigB at h1 h2;simp only [Bool.and_eq_true,decide_eq_true_eq] at h1 h2;exact ⟨chk_iff.2 ⟨h1.2,h2.2,by show a.lo+(negS b).lo≤a.hi+(negS b).hi;omega⟩,Int.le_refl _,Int.le_refl _,h2.1⟩
  ·injection h with _ h;omega
 ·injection h with _ h;omega
theorem mass_ok {a:ArcD} {S:StateD} {h:Int} {en ms:SpanD} (hm:massM a S h 0=((en,ms),0)):Ok1 ms:=by
 unfold massM at hm;have s3:∀ (en ms:SpanD),Sticky (fun e=>((en,ms),if e=0 then (if ms.lo≤0 then (4:Int) else 0) else e):CM (SpanD × SpanD)):=fun en ms e he=>if_neg he
 obtain ⟨en',h1,hm⟩:=bnd_okA (fun _=>(doM_sticky _ _ _).bnd fun _=>(doM_sticky _ _ _).bnd fun _=>s3 _ _) hm;obtain ⟨fl,h2,hm⟩:=bnd_okA (fun _=>(doM_sticky _ _ _).bnd fun _=>s3 _ _) hm;obtain ⟨ms',h3,hm⟩:=bnd_okA (fun _=>s3 _ _) hm;have e:(en',ms')=(en,ms):=congrArg Prod.fst hm;injection e with _ e2
 subst e2;exact ok_sub (doM_okA h3)
theorem runS_ok {G:StateD→Int→(StateD × TubeD) × Int} {s S1:StateD} {l:List Int} {h:Int} {tbs:List TubeD} (hr:runS G s (l ++ [h])=((S1,tbs),0)):∃ S0 t0 tb,runS G s l=((S0,t0),0)∧G S0 h=((S1,tb),0)∧tbs=t0 ++ [tb]:=by
 rw [runS_snoc] at hr;unfold stepR at hr;split at hr
 ·rename_i h1
  split at hr
  ·rename_i h2
   simp only [Prod.mk.injEq] at hr;obtain ⟨⟨rfl,rfl⟩,-⟩:=hr;exact ⟨_,_,_,Prod.ext rfl h1,Prod.ext rfl h2,rfl⟩
  ·rename_i h2
   have:=congrArg Prod.snd hr
   exact absurd this h2
 ·rename_i h1
  have:=congrArg Prod.snd hr
  exact absurd this h1
def TwinT (a b:TubeD):Prop:=a.m=b.m∧∃ P,inBox P a.p∧inBox P b.p
theorem run_twin {p:PlanetD} {r:ArcR} (hk:OkF p r.a) {E S Y:StateD} (h1:Lesser E S) (h2:Lesser E Y):∀ (l:List Int),(∀ h,h ∈ l→Ok1 (ptS h))→∀ (S1 Y1:StateD) (ts ty:List TubeD),runS (stepP p r) S l=((S1,ts),0)→runS (stepP p r) Y l=((Y1,ty),0) →
  (∃ E1,Lesser E1 S1∧Lesser E1 Y1)∧ts.length=l.length∧ty.length=l.length∧∀ (i:Nat) (a b:TubeD),ts[i]?=some a→ty[i]?=some b→TwinT a b:=by
 refine snocInd ?_ ?_
 ·intro _ S1 Y1 ts ty e1 e2;have a1:((S,[]),(0:Int))=((S1,ts),0):=e1;have a2:((Y,[]),(0:Int))=((Y1,ty),0):=e2;simp only [Prod.mk.injEq] at a1 a2;obtain ⟨⟨rfl,rfl⟩,-⟩:=a1;obtain ⟨⟨rfl,rfl⟩,-⟩:=a2;exact ⟨⟨E,h1,h2⟩,rfl,rfl,fun i a b ha=>by simp at ha⟩
 ·intro l h ih hl S1 Y1 ts ty e1 e2;obtain ⟨S0,t0,a,b1,b2,rfl⟩:=runS_ok e1;obtain ⟨Y0,y0,b,c1,c2,rfl⟩:=runS_ok e2;obtain ⟨⟨E0,g1,g2⟩,n1,n2,tw⟩:=ih (fun q hq=>hl q (List.mem_append_left _ hq)) S0 Y0 t0 y0 b1 c1;have hh:=hl h (List.mem_append_right _ (List.mem_singleton.2 rfl));obtain ⟨E1,k1,k2,k3,_⟩:=step_lesser hk g1 hh (fun _ _=>mass_ok) b2;obtain ⟨E2,m1,m2,m3,_⟩:=step_lesser hk g2 hh (fun _ _=>mass_ok) c2;obtain ⟨em,rfl⟩:=EulP.uniq k1 m1;refine ⟨⟨E2,k2,m2⟩,by simp [n1],by simp [n2],fun i x y hx hy=>?_⟩
  rcases Nat.lt_trichotomy i l.length with hi | hi | hi
  ·rw [List.getElem?_append_left (by omega)] at hx hy
   exact tw i x y hx hy
  ·subst hi;rw [List.getElem?_append_right (by omega)] at hx hy
   simp only [n1,n2,Nat.sub_self,List.getElem?_cons_zero,Option.some.injEq] at hx hy;subst hx hy;exact ⟨em.symm,E0.p,k3,m3⟩
  ·rw [List.getElem?_eq_none (by simp;omega)] at hx;cases hx

theorem fly_twin {p:PlanetD} {v:Nat→ArcR} {E s y:StateD} (h1:Lesser E s) (h2:Lesser E y):∀ (n:Nat),(∀ i,i<n→OkF p (v i).a∧∀ h,h ∈ lensL (v i).a→Ok1 (ptS h))→∀ (S Y:StateD) (st st':List StateD) (sg sg':List (List TubeD)),FlyTo p v s n S st sg→FlyTo p v y n Y st' sg' →
  (∃ E1,Lesser E1 S∧Lesser E1 Y)∧sg.length=n∧sg'.length=n∧∀ (i:Nat) (l l':List TubeD),sg[i]?=some l→sg'[i]?=some l'→l.length=l'.length∧∀ (j:Nat) (a b:TubeD),l[j]?=some a→l'[j]?=some b→TwinT a b
 | 0,_,S,Y,st,st',sg,sg',f1,f2=>by
  obtain ⟨rfl,rfl,rfl⟩:=f1;obtain ⟨rfl,rfl,rfl⟩:=f2;exact ⟨⟨E,h1,h2⟩,rfl,rfl,fun i l l' hl=>by simp at hl⟩
 | n+1,hk,S,Y,st,st',sg,sg',f1,f2=>by
  obtain ⟨S0,st0,sg0,S1,tb,m,a1,a2,a3,_,rfl,rfl,rfl⟩:=f1;obtain ⟨Y0,yt0,yg0,Y1,tb',m',b1,b2,b3,_,rfl,rfl,rfl⟩:=f2;obtain ⟨⟨E0,g1,g2⟩,n1,n2,tw⟩:=fly_twin h1 h2 n (fun i hi=>hk i (by omega)) _ _ _ _ _ _ a1 b1
  obtain ⟨⟨E1,k1,k2⟩,m1,m2,tw2⟩:=run_twin (hk n (by omega)).1 g1 g2 (lensL (v n).a) (hk n (by omega)).2 S1 Y1 tb tb' a2 b2
  have hm:m'=m:=by
   have e:S1.m=Y1.m:=k1.2.1.symm.trans k2.2.1;rw [e,b3] at a3;exact congrArg Prod.fst a3
  subst hm;refine ⟨⟨⟨E1.t,E1.p,E1.v,m'⟩,⟨k1.1,rfl,k1.2.2⟩,⟨k2.1,rfl,k2.2.2⟩⟩,by simp [n1],by simp [n2],fun i l l' hl hl'=>?_⟩
  rcases Nat.lt_trichotomy i n with hi | hi | hi
  ·rw [List.getElem?_append_left (by omega)] at hl hl'
   exact tw i l l' hl hl'
  ·subst hi;rw [List.getElem?_append_right (by omega)] at hl hl'
   simp only [n1,n2,Nat.sub_self,List.getElem?_cons_zero,Option.some.injEq] at hl hl';subst hl hl';exact ⟨m1.trans m2.symm,tw2⟩
  ·rw [List.getElem?_eq_none (by simp;omega)] at hl;cases hl
theorem height_iso {p:PlanetD} (hr:Ok1 p.radius) {P b:BoxD} (hb:inBox P b) (h0:(heightF p b).2=0):∃ q,heightF p P=(q,0)∧inS q (heightF p b).1:=by
 unfold heightF at h0 ⊢;split at h0
 ·rename_i hc
  rw [Bool.and_eq_true] at hc;have hp:chkBox P=true:=by
   unfold chkBox;rw [hb.1.1,hb.2.1.1,hb.2.2.1];rfl
  rw [if_pos (by rw [hc.1,hp];rfl),if_pos (by rw [hc.1,hc.2];rfl)]
  have iso:IsoM inS (heightM p P) (heightM p b):=IsoM.bnd (normM_iso hb) (fun _ _ hn=>subM_iso hn hr) fun _=>doM_sticky _ _ _;exact iso _ (Prod.ext rfl h0)
 ·exact absurd h0 (by decide)
theorem sure_lost {p:PlanetD} {m:ModeD} {E s y:StateD} (hr:Ok1 p.radius) (hk:∀ i,i<m.n→OkF p (m.v i).a∧∀ h,h ∈ lensL (m.v i).a→Ok1 (ptS h)) (h1:Lesser E s) (h2:Lesser E y) (hs:Sure p m s) (hl:Lost p m y):False:=by
 obtain ⟨S,st,sg,f1,t1,q1,q2⟩:=hs;obtain ⟨Y,st',sg',f2,t2⟩:=hl;obtain ⟨⟨E1,k1,k2⟩,n1,n2,tw⟩:=fly_twin h1 h2 m.n hk S Y st st' sg sg' f1 f2;rcases t2 with ⟨i,l',b,hl',hb,hlost⟩ | ⟨r1,r2⟩
 ·have hi:i<sg.length:=by rw [n1,← n2];exact (List.getElem?_eq_some_iff.1 hl').1
  obtain ⟨l,hl⟩:∃ l,sg[i]?=some l:=⟨_,List.getElem?_eq_getElem hi⟩;obtain ⟨e,tw2⟩:=tw i l l' hl hl';obtain ⟨j,hj⟩:=List.getElem?_of_mem hb;have hjl:j<l.length:=by rw [e];exact (List.getElem?_eq_some_iff.1 hj).1
  obtain ⟨a,ha⟩:∃ a,l[j]?=some a:=⟨_,List.getElem?_eq_getElem hjl⟩;obtain ⟨em,P,p1,p2⟩:=tw2 j a b ha hj;obtain ⟨u1,u2,u3,u4⟩:=t1 i l hl a (List.mem_of_getElem? ha);rcases hlost with ⟨w1,w2⟩ | ⟨w1,w2⟩
  ·obtain ⟨q,e1,c1⟩:=height_iso hr p1 u1;obtain ⟨q',e2,c2⟩:=height_iso hr p2 w1;rw [e1] at e2;injection e2 with e3
   subst e3;have c0:=(chk_iff.1 c1.1).2.2;have d1:=c1.2.1;have d2:=c2.2.2.1;omega
  ·rw [em] at u3 u4;obtain ⟨z,hz⟩:=eX (divB (m.v i).a.thrust b.m);rw [hz] at u3 u4 w1 w2;have hok:z.1.lo≤z.1.hi:=by
    obtain ⟨z1,z2⟩:=z;dsimp only at u3 ⊢;subst u3;unfold divB at hz;split at hz
    ·rename_i hc
     rw [Bool.and_eq_true] at hc;have hc2:=(chk_iff.1 hc.2).2.2;split at hz
     ·injection hz with _ hz;omega
     ·rename_i hn
      obtain ⟨rfl,e2,e3⟩:=fit_ok hz;have:=fq_cq (x:=(m.v i).a.thrust.lo) (y:=b.m.lo) (by omega)
      show min4 _ _ _ _≤max4 _ _ _ _
      unfold min4 max4;omega
    ·injection hz with _ hz;omega
   omega
 ·obtain ⟨q,e1,c1⟩:=norm_iso (r:=(spdB S.v).1) k1.2.2.2 (Prod.ext rfl q1);obtain ⟨q',e2,c2⟩:=norm_iso (r:=(spdB Y.v).1) k2.2.2.2 (Prod.ext rfl r1);rw [e1] at e2;injection e2 with e3
  subst e3;have c0:=(chk_iff.1 c1.1).2.2;have d1:=c1.2.2.1;have d2:=c2.2.1;omega

theorem ok_of {a:SpanD} (h:chkB a=true) (w:WdS a):Ok1 a:=⟨h,Int.le_refl _,Int.le_refl _,w.2.2⟩
theorem okB_of {b:BoxD} (h:chkBox b=true) (w:WdB b):OkB b:=by
 unfold chkBox at h;simp only [Bool.and_eq_true] at h;exact ⟨ok_of h.1 w.1,ok_of h.2.1 w.2.1,ok_of h.2.2 w.2.2⟩
theorem okF_of {p:PlanetD} {a:ArcD} (hp:planetB p=true) (wp:WdP p) (ha:arcT a=true) (wa:WdA a):OkF p a:=by
 unfold planetB at hp;unfold arcT arcB withinB posB at ha;simp only [Bool.and_eq_true] at hp ha;obtain ⟨⟨⟨h1,h2,h3,h4,h5⟩,_⟩,_⟩:=hp;exact ⟨ok_of h2 wp.mu,ok_of h3 wp.radius,ok_of h4 wp.oblate,ok_of h5 wp.spin,okB_of h1 wp.pull,ok_of (by simp_all) wa.thrust,⟨ok_of (by simp_all) wa.dir.1,ok_of (by simp_all) wa.dir.2.1,ok_of (by simp_all) wa.dir.2.2⟩⟩
theorem ok_lens {a:ArcD} (ha:arcT a=true) (wa:WdA a) (h:Int) (hh:h ∈ lensL a):Ok1 (ptS h):=by
 have hp:=arcT_pos ha;have m1:=Int.emod_nonneg a.time (show a.step ≠ 0 by omega)
 have m2:=Int.emod_lt_of_pos a.time hp.2;have ws:=wa.step;unfold I64 at ws;unfold lensL at hh;obtain ⟨i,_,rfl⟩:=List.mem_map.1 hh;have hb:0≤lenI (wholeN a) a.step (restI a) i∧lenI (wholeN a) a.step (restI a) i≤9223372036854775807:=by
  unfold lenI restI;split <;> omega
 generalize lenI (wholeN a) a.step (restI a) i=h at hb
 exact ⟨chk_iff.2 ⟨by show _≤h;omega,by show _≤h;omega,Int.le_refl h⟩,Int.le_refl _,Int.le_refl _,hb.2⟩
theorem one_lens {a:ArcD} (h1:0<a.time) (h2:a.step=a.time):lensL a=[a.time]:=by
 have e1:wholeN a=1:=by unfold wholeN;rw [h2,Int.ediv_self (by omega)];rfl
 have e2:restI a=0:=by unfold restI;rw [h2,Int.emod_self]
 unfold lensL countN;rw [if_pos e2,e1,e2,h2];rfl

theorem mass_end {a:ArcD} {S:StateD} {h:Int} {en ms:SpanD} (hm:massM a S h 0=((en,ms),0)):en=⟨S.t+h,S.t+h⟩:=by
 unfold massM at hm;have s3:∀ (en ms:SpanD),Sticky (fun e=>((en,ms),if e=0 then (if ms.lo≤0 then (4:Int) else 0) else e):CM (SpanD × SpanD)):=fun en ms e he=>if_neg he
 obtain ⟨en',h1,hm⟩:=bnd_okA (fun _=>(doM_sticky _ _ _).bnd fun _=>(doM_sticky _ _ _).bnd fun _=>s3 _ _) hm;obtain ⟨fl,h2,hm⟩:=bnd_okA (fun _=>(doM_sticky _ _ _).bnd fun _=>s3 _ _) hm;obtain ⟨ms',h3,hm⟩:=bnd_okA (fun _=>s3 _ _) hm;have e:(en',ms')=(en,ms):=congrArg Prod.fst hm;injection e with e1 _
 subst e1;have h4:=doM_okA h1;unfold addB at h4;split at h4
 ·exact (fit_ok h4).1
 ·injection h4 with _ h4;omega
theorem step_times {p:PlanetD} {a:ArcD} {S S1:StateD} {tb:TubeD} {h:Int} (hh:0<h) (hs:stepF (forceM p a) a S h=((S1,tb),0)):tb.frm=S.t∧tb.to=S1.t:=by
 unfold stepF at hs;obtain ⟨⟨en,ms⟩,em⟩:=eX ((massM a S h 0).1);obtain ⟨e0,ee⟩:=eX ((massM a S h 0).2);rw [em,ee] at hs;unfold stepT at hs;dsimp only at hs;split at hs
 ·rename_i hc
  rw [Bool.and_eq_true,decide_eq_true_eq] at hc;split at hs
  ·have he0:e0=0:=by
    rcases Classical.em (e0=0) with q | q
    ·exact q
    ·have:=tube_sticky (F:=forceM p a) (fun x m=>st_force p a x m) ⟨S.p,S.v⟩ (dS h) ms 7 ⟨S.p,S.v⟩ q
     rw [this] at hc;exact absurd hc.2 q
   subst he0;have hen:=mass_end (Prod.ext em ee:massM a S h 0=((en,ms),0));simp only [Prod.mk.injEq] at hs;obtain ⟨⟨rfl,rfl⟩,-⟩:=hs;subst hen;exact ⟨by show min S.t (S.t+h)=S.t;omega,by show max S.t (S.t+h)=S.t+h;omega⟩
  ·rename_i h0
   simp only [Prod.mk.injEq] at hs;exact absurd hs.2 h0
 ·simp only [Prod.mk.injEq] at hs;obtain ⟨-,h9⟩:=hs;split at h9
  ·omega
  ·rename_i q;exact absurd h9 q
theorem run_one {G:StateD→Int→(StateD × TubeD) × Int} {S S1:StateD} {h:Int} {tbs:List TubeD} (hr:runS G S [h]=((S1,tbs),0)):∃ tb,tbs=[tb]∧G S h=((S1,tb),0):=by
 obtain ⟨S0,t0,tb,h1,h2,rfl⟩:=runS_ok (l:=[]) hr;have e:((S,[]),(0:Int))=((S0,t0),0):=h1;simp only [Prod.mk.injEq] at e;obtain ⟨⟨rfl,rfl⟩,-⟩:=e;exact ⟨tb,rfl,h2⟩
theorem fly_one {p:PlanetD} {v:Nat→ArcR} {s:StateD}:∀ (n:Nat),(∀ i,i<n→0<(v i).a.time∧(v i).a.step=(v i).a.time)→∀ (S:StateD) (st:List StateD) (sg:List (List TubeD)),FlyTo p v s n S st sg →
  st.length=n∧sg.length=n∧(sg.flatten.length=n)∧∀ k,k<n→∃ Sk S1 tb,AtK s st k Sk∧sg[k]?=some [tb]∧sg.flatten[k]?=some tb∧stepP p (v k) Sk (v k).a.time=((S1,tb),0)∧∃ S2,st[k]?=some S2∧S2.t=S1.t
 | 0,_,S,st,sg,f=>by
  obtain ⟨rfl,rfl,rfl⟩:=f;exact ⟨rfl,rfl,rfl,fun k hk=>absurd hk (by omega)⟩
 | n+1,hv,S,st,sg,f=>by
  obtain ⟨S0,st0,sg0,S1,tbs,m,a1,a2,a3,_,rfl,rfl,rfl⟩:=f;obtain ⟨n1,n2,n3,ih⟩:=fly_one n (fun i hi=>hv i (by omega)) _ _ _ a1
  rw [one_lens (hv n (by omega)).1 (hv n (by omega)).2] at a2
  obtain ⟨tb,rfl,hst⟩:=run_one a2;refine ⟨by simp [n1],by simp [n2],by simp [n3],fun k hk=>?_⟩
  rcases Nat.lt_or_ge k n with h | h
  ·obtain ⟨Sk,S1',tb',b1,b2,b3,b4,S2,b5,b6⟩:=ih k h;refine ⟨Sk,S1',tb',?_,?_,?_,b4,S2,?_,b6⟩
   ·rcases b1 with b1 | ⟨c1,c2⟩
    ·exact .inl b1
    ·exact .inr ⟨c1,by rw [List.getElem?_append_left (by omega)];exact c2⟩
   ·rw [List.getElem?_append_left (by omega)];exact b2
   ·rw [List.flatten_append,List.getElem?_append_left (by omega)];exact b3
   ·rw [List.getElem?_append_left (by omega)];exact b5
  ·obtain rfl:k=n:=by omega
   refine ⟨S0,S1,tb,?_,?_,?_,hst,⟨S1.t,S1.p,S1.v,m⟩,?_,rfl⟩
   ·rcases fly_last n1 a1 with b1 | ⟨c1,c2⟩
    ·exact .inl b1
    ·exact .inr ⟨c1,by rw [List.getElem?_append_left (by omega)];exact c2⟩
   ·rw [List.getElem?_append_right (by omega),n2];simp
   ·rw [List.flatten_append,List.getElem?_append_right (by omega),n3];simp
   ·rw [List.getElem?_append_right (by omega),n1];simp

theorem add_chk {a b r:SpanD} (h:addB a b=(r,0)):chkB a=true:=by
 unfold addB at h;split at h
 ·rename_i hc;rw [Bool.and_eq_true] at hc;exact hc.1
 ·injection h with _ h;omega
theorem next_chk {l hf p v f:SpanD} {r:SpanD × SpanD} (h:nextM l hf p v f 0=(r,0)):chkB p=true∧chkB v=true:=by
 unfold nextM at h;obtain ⟨a1,h1,h⟩:=bnd_okA (fun _=>(doM_sticky _ _ _).bnd fun _=>(doM_sticky _ _ _).bnd fun _=>(doM_sticky _ _ _).bnd fun _=>(doM_sticky _ _ _).bnd fun _=>(doM_sticky _ _ _).bnd fun _=>Sticky.ret _) h;obtain ⟨a2,h2,h⟩:=bnd_okA (fun _=>(doM_sticky _ _ _).bnd fun _=>(doM_sticky _ _ _).bnd fun _=>(doM_sticky _ _ _).bnd fun _=>(doM_sticky _ _ _).bnd fun _=>Sticky.ret _) h;obtain ⟨a3,h3,h⟩:=bnd_okA (fun _=>(doM_sticky _ _ _).bnd fun _=>(doM_sticky _ _ _).bnd fun _=>(doM_sticky _ _ _).bnd fun _=>Sticky.ret _) h;obtain ⟨p2,h4,h⟩:=bnd_okA (fun _=>(doM_sticky _ _ _).bnd fun _=>(doM_sticky _ _ _).bnd fun _=>Sticky.ret _) h;obtain ⟨b1,h5,h⟩:=bnd_okA (fun _=>(doM_sticky _ _ _).bnd fun _=>Sticky.ret _) h;obtain ⟨v2,h6,h⟩:=bnd_okA (fun _=>Sticky.ret _) h;exact ⟨add_chk (doM_okA h2),add_chk (doM_okA h6)⟩
theorem tail_chk {a:ArcD} {s:StateD} {h:Int} {f:BoxD} {r:BoxD × BoxD × SpanD} (ht:tailM a s h f 0=(r,0)):chkBox s.p=true∧chkBox s.v=true:=by
 unfold tailM at ht;obtain ⟨ll,_,ht⟩:=bnd_okA (fun _=>(doM_sticky _ _ _).bnd fun _=>(next_stickyA _ _ _ _ _).bnd fun _=>(next_stickyA _ _ _ _ _).bnd fun _=>(next_stickyA _ _ _ _ _).bnd fun _=>(doM_sticky _ _ _).bnd fun _=>(doM_sticky _ _ _).bnd fun _=>Sticky.ret _) ht;obtain ⟨hf,_,ht⟩:=bnd_okA (fun _=>(next_stickyA _ _ _ _ _).bnd fun _=>(next_stickyA _ _ _ _ _).bnd fun _=>(next_stickyA _ _ _ _ _).bnd fun _=>(doM_sticky _ _ _).bnd fun _=>(doM_sticky _ _ _).bnd fun _=>Sticky.ret _) ht;obtain ⟨x,hx,ht⟩:=bnd_okA (fun _=>(next_stickyA _ _ _ _ _).bnd fun _=>(next_stickyA _ _ _ _ _).bnd fun _=>(doM_sticky _ _ _).bnd fun _=>(doM_sticky _ _ _).bnd fun _=>Sticky.ret _) ht;obtain ⟨y,hy,ht⟩:=bnd_okA (fun _=>(next_stickyA _ _ _ _ _).bnd fun _=>(doM_sticky _ _ _).bnd fun _=>(doM_sticky _ _ _).bnd fun _=>Sticky.ret _) ht;obtain ⟨z,hz,ht⟩:=bnd_okA (fun _=>(doM_sticky _ _ _).bnd fun _=>(doM_sticky _ _ _).bnd fun _=>Sticky.ret _) ht;have kx:=next_chk hx;have ky:=next_chk hy;have kz:=next_chk hz;unfold chkBox;rw [kx.1,ky.1,kz.1,kx.2,ky.2,kz.2];exact ⟨rfl,rfl⟩
theorem step_chk {p:PlanetD} {a:ArcD} {S S1:StateD} {tb:TubeD} {h:Int} (hs:stepF (forceM p a) a S h=((S1,tb),0)):chkBox S.p=true∧chkBox S.v=true:=by
 unfold stepF stepT at hs;split at hs
 ·split at hs
  ·rename_i h0
   obtain ⟨f,_,h2⟩:=bnd_okA (fun f=>tail_stickyA a S h f) (Prod.ext rfl h0);exact tail_chk h2
  ·rename_i h0
   simp only [Prod.mk.injEq] at hs;exact absurd hs.2 h0
 ·simp only [Prod.mk.injEq] at hs;obtain ⟨-,h9⟩:=hs;split at h9
  ·omega
  ·rename_i q;exact absurd h9 q
theorem escape_law {p:PlanetD} {a:ArcD} {m:ModeD} {y S1:StateD} {tb:TubeD} {h:Int} (hk:OkF p a) (wy:I64W y) (hh:0<h) (oh:Ok1 (ptS h)) (hs:stepF (forceM p a) a y h=((S1,tb),0))
  (hm:∀ i,i<m.n→OkF p (m.v i).a∧∀ h,h ∈ lensL (m.v i).a→Ok1 (ptS h)) (h1:Sure p m (stOf tb)) (h2:Lost p m ⟨y.t,y.p,y.v,tb.m⟩):False:=by
 obtain ⟨c1,c2⟩:=step_chk hs;have o1:=okB_of c1 wy.2.1;have o2:=okB_of c2 wy.2.2.1;obtain ⟨E1,_,_,k1,k2⟩:=step_lesser hk (E:=y) ⟨rfl,rfl,o1,o2⟩ oh (fun _ _=>mass_ok) hs;have ht:=(step_times hh hs).1;exact sure_lost hk.radius hm (E:=⟨y.t,y.p,y.v,tb.m⟩) (s:=stOf tb) (y:=⟨y.t,y.p,y.v,tb.m⟩) ⟨ht.symm,rfl,k1,k2⟩ ⟨rfl,rfl,o1,o2⟩ h1 h2
end Go.Proofs.YtmkoegljnebdiaaGreat
namespace Go.Proofs.YtmkoegljnebdiaaGreat
open Go.RowKit Go.Shelf
set_option maxRecDepth 100000
set_option maxHeartbeats 16000000

def tvK (ut:Value) (ax o:Nat):Value:=match ut with
 | .slice (some q) L c=>.slice (some ⟨q.block,ax,none⟩) (L - o) (c - o)
 | v=>v
theorem tvK_start {ut:Value} {ct:Array Value} {L:Nat} {xs:List Value} (h:LstAt 16 ut ct L xs):tvK ut 0 0=ut:=by
 rcases h.2 with ⟨rfl,_⟩ | ⟨g,cap,rfl,_⟩ <;> rfl
def EscI (p:PlanetD) (m:ModeD) (s:StateD) (st:List StateD) (sg:List (List TubeD)) (k j:Nat) (Sk:StateD) (un lo:Bool):Prop :=
 AtK s st k Sk∧(un=false→∀ i l x tb,sg[i]?=some l→l[x]?=some tb→(i<k ∨ (i=k∧x<j))→SureT p m (m.v i) tb)∧(lo=true→∃ i l tb,sg[i]?=some l∧tb ∈ l∧LostT p m (m.v i) tb)
theorem EscI.next {p:PlanetD} {m:ModeD} {s:StateD} {st:List StateD} {sg:List (List TubeD)} {k j:Nat} {Sk:StateD} {un lo un1 lo1 un2 lo2:Bool} {l:List TubeD} {tb:TubeD} {a b:SpanD} {e f:Int} (h:EscI p m s st sg k j Sk un lo) (hl:sg[k]?=some l) (hj:l[j]?=some tb)
  (ha:heightF p tb.p=(a,e)) (hb:divB (m.v k).a.thrust tb.m=(b,f)) (h1:un1=false→un=false∧e=0∧¬ a.lo<m.floor) (g1:lo1=true→lo=true ∨ (e=0∧a.hi<m.floor)) (h2:un2=false→un1=false∧f=0∧¬ m.load<b.hi) (g2:lo2=true→lo1=true ∨ (f=0∧m.load<b.lo)) :
  EscI p m s st sg k (j+1) Sk un2 lo2:=by
 obtain ⟨q1,q2,q3⟩:=h;refine ⟨q1,fun hu i l' x tb' e1 e2 hx=>?_,fun hlo=>?_⟩
 ·obtain ⟨u1,u2,u3⟩:=h2 hu;obtain ⟨v1,v2,v3⟩:=h1 u1;rcases hx with hx | ⟨rfl,hx⟩
  ·exact q2 v1 i l' x tb' e1 e2 (.inl hx)
  ·rcases Nat.lt_or_ge x j with hx2 | hx2
   ·exact q2 v1 i l' x tb' e1 e2 (.inr ⟨rfl,hx2⟩)
   ·obtain rfl:x=j:=by omega
    rw [hl] at e1;injection e1 with e1;subst e1
    rw [hj] at e2;injection e2 with e2;subst e2
    unfold SureT;rw [ha,hb];exact ⟨v2,v3,u2,u3⟩
 ·have hm:tb ∈ l:=List.mem_of_getElem? hj;rcases g2 hlo with h3 | h3
  ·rcases g1 h3 with h4 | h4
   ·exact q3 h4
   ·exact ⟨k,l,tb,hl,hm,by unfold LostT;rw [ha,hb];exact .inl h4⟩
  ·exact ⟨k,l,tb,hl,hm,by unfold LostT;rw [ha,hb];exact .inr h3⟩
theorem EscI.arc {p:PlanetD} {m:ModeD} {s:StateD} {st:List StateD} {sg:List (List TubeD)} {k:Nat} {Sk S':StateD} {un lo:Bool} {l:List TubeD} (h:EscI p m s st sg k l.length Sk un lo) (hl:sg[k]?=some l) (hs:st[k]?=some S'):EscI p m s st sg (k+1) 0 S' un lo:=by
 obtain ⟨_,q2,q3⟩:=h;refine ⟨.inr ⟨by omega,hs⟩,fun hu i l' x tb' e1 e2 hx=>?_,q3⟩
 rcases Nat.lt_or_ge i k with hi | hi
 ·exact q2 hu i l' x tb' e1 e2 (.inl hi)
 ·obtain rfl:i=k:=by omega
  rw [hl] at e1;injection e1 with e1;subst e1
  exact q2 hu i l x tb' hl e2 (.inr ⟨rfl,(List.getElem?_eq_some_iff.1 e2).1⟩)
theorem escape_any (p:PlanetD) (m:ModeD) (t:TubeD) (wp:WdP p) (wm:WdM m) (wt:I64W (stOf t)) (w:World) (hA:ArcsAt w w.heap.size m.A m.n m.v):Calls Tryz.prog 55 #[planetV p,modeV m,tubeV t] w (EscPost p m (stOf t) w):=by
 have HST:=hZ fun w=>state108_any t w;have HFL:=hZ fun w' (hb:Below w.heap.size w w')=>flyL_any p (stOf t) m.A m.n m.c m.v wp wm.arcs wt w' (hA.to hb);have HAA:=hZ hA;have HWV:=hZ wm.arcs;have HWT:=hZ wt;have HHT:=hZ fun b hb w=>height_any p b wp.radius hb w;have HSD:=hZ fun b hb w=>speed97_any b hb w;refine pQ fun PQ hPQ=>?_
 have HZ:Hid (∀ w',Fr w [] [] w'→PQ (.returned (.int .i64 0)) w'):=hZ fun w' h=>by rw [← hPQ];exact ⟨0,rfl,fun e=>absurd e (by decide),fun e=>absurd e (by decide),h.toBelow⟩
 have HONE:Hid (∀ w',Sure p m (stOf t)→Fr w [] [] w'→PQ (.returned (.int .i64 1)) w'):=hZ fun w' hs h=>by rw [← hPQ];exact ⟨1,rfl,fun _=>hs,fun e=>absurd e (by decide),h.toBelow⟩
 have HMIN:Hid (∀ w',Lost p m (stOf t)→Fr w [] [] w'→PQ (.returned (.int .i64 (-1))) w'):=hZ fun w' hs h=>by rw [← hPQ];exact ⟨-1,rfl,fun e=>absurd e (by decide),fun _=>hs,h.toBelow⟩
 have hn63:=hA.1.1;obtain ⟨⟨mul,muh⟩,⟨rl,rh⟩,⟨ol,oh⟩,⟨sl,sh⟩,⟨⟨pxl,pxh⟩,⟨pyl,pyh⟩,⟨pzl,pzh⟩⟩⟩:=p;obtain ⟨⟨hl,hh⟩,⟨pl,ph⟩,⟨ql,qh⟩,mf,mt,ms,md,n,v,A,c,mo,mr,mu⟩:=m;obtain ⟨tf,tg,⟨⟨axl,axh⟩,⟨ayl,ayh⟩,⟨azl,azh⟩⟩,⟨⟨bxl,bxh⟩,⟨byl,byh⟩,⟨bzl,bzh⟩⟩,⟨ml,mh⟩⟩:=t;unfold stOf at HWT HFL HONE HMIN;unfold tubeV stOf stateV at HST;unfold planetV stateV at HFL;unfold planetV boxV spanV at HHT;unfold boxV spanV at HSD;unfold planetV modeV modeA tubeV;dsimp only at HST HFL HAA HWV HWT HHT HSD HONE HMIN hn63 ⊢;clear hPQ hA wm wp wt;obtain ⟨qb,W0,hqb,hW0,HF0⟩:=fM (Fr.start w) [(#[mul,muh,rl,rh,ol,oh,sl,sh,pxl,pxh,pyl,pyh,pzl,pzh],36),(#[hl,hh,pl,ph,ql,qh,mf,mt,ms,md,.slice A n c,mo,mr,mu],89),(#[tf,tg,axl,axh,ayl,ayh,azl,azh,bxl,bxh,byl,byh,bzl,bzh,ml,mh],58)];go_enter Tryz.func55,Tryz.ntmps55;go_upto_region 1 with (fail);clear hW0 hqb;go_wp2_with (refine lF (gN HF0 2) #[tf,tg,axl,axh,ayl,ayh,azl,azh,bxl,bxh,byl,byh,bzl,bzh,ml,mh] u_58 i_58 ?_)
 refine mB HF0.out (HST.out _) fun w1 HF2=>?_;obtain ⟨g3,w3,hg3,hw3,HF4⟩:=fA HF2.out #[(0:Int),(0:Int),(0:Int),(0:Int),(0:Int),(0:Int),(0:Int),(0:Int),(0:Int),(0:Int),(0:Int),(0:Int),(0:Int),(0:Int),(0:Int)] 38;go_wp2_with (first
   | (refine lF (gN HF6 0) #[mul,muh,rl,rh,ol,oh,sl,sh,pxl,pxh,pyl,pyh,pzl,pzh] u_36 i_36 ?_)
   | (refine lF (gN HF6 3) #[tf,axl,axh,ayl,ayh,azl,azh,bxl,bxh,byl,byh,bzl,bzh,ml,mh] u_38 i_38 ?_)
   | (refine sW 3 HF4.out i_38 fun w5 HF6=>?_;clear hw3 hg3;have c7:=cA (gN HF6 1) 10))
 clear c7;refine (HFL.out _ HF6.out.toBelow).mono ?_
 rintro e wf (⟨r,hr,rfl,hw⟩ | ⟨S,st,sg,us,cs,ut,ct,hgd,hft,rfl,hl1,hl2,hw⟩)
 ·have hrb:(r != 0)=true:=by simpa using hr
  have HF8:Hid (Fr w [] [(qb,36,iC [mul,muh,rl,rh,ol,oh,sl,sh,pxl,pxh,pyl,pyh,pzl,pzh]),(qb+1,89,#[hl,hh,pl,ph,ql,qh,mf,mt,ms,md,.slice A n c,mo,mr,mu]),(qb+1+1,58,iC [tf,tg,axl,axh,ayl,ayh,azl,azh,bxl,bxh,byl,byh,bzl,bzh,ml,mh]),(g3,38,iC [tf,axl,axh,ayl,ayh,azl,azh,bxl,bxh,byl,byh,bzl,bzh,ml,mh])] wf):=hZ (HF6.out.below hw);clear hw;go_wp2_with fail
  exact HZ.out _ HF8.out.drop
 ·have HGD:=hZ hgd;have HF8:Hid (Fr w [] ([(qb,36,iC [mul,muh,rl,rh,ol,oh,sl,sh,pxl,pxh,pyl,pyh,pzl,pzh]),(qb+1,89,(#[hl,hh,pl,ph,ql,qh,mf,mt,ms,md,.slice A n c,mo,mr,mu]:Array Value)),(qb+1+1,58,iC [tf,tg,axl,axh,ayl,ayh,azl,azh,bxl,bxh,byl,byh,bzl,bzh,ml,mh]),(g3,38,iC [tf,axl,axh,ayl,ayh,azl,azh,bxl,bxh,byl,byh,bzl,bzh,ml,mh])] ++ (lstE 38 us cs ++ lstE 58 ut ct)) wf):=hZ (HF6.out.more hw);have HFT:=hZ hft;have HL1:=hZ hl1;have HL2:=hZ hl2;have hlens:=fly_lens hgd.arcs hft;have HLN:=hZ hlens;have HWD:=hZ (fly_wd HWT.out hft);have HTV:=hZ (tvK_start hl2);clear hw hgd hft hl1 hl2 hlens;obtain ⟨g9,hg9⟩:=eX wf.heap.size;obtain ⟨w9,hw9⟩:=eX (wf.alloc (.cells #[.bool false,.bool false] 199));have HF10:=hZ (frE hw9 (HF8.out.allocM hg9.symm 199 #[.bool false,.bool false]));have c11:=cA (gN HF10 1) 10;go_wp2_with fail
  clear hw9 hg9 c11;have HR0:Hid (∃ Sk un lo,Fr w [] ([(qb,36,iC [mul,muh,rl,rh,ol,oh,sl,sh,pxl,pxh,pyl,pyh,pzl,pzh]),(qb+1,89,(#[hl,hh,pl,ph,ql,qh,mf,mt,ms,md,.slice A n c,mo,mr,mu]:Array Value)),(qb+1+1,58,iC [tf,tg,axl,axh,ayl,ayh,azl,azh,bxl,bxh,byl,byh,bzl,bzh,ml,mh]),(g3,38,stA Sk),(g9,199,#[.bool un,.bool lo])] ++ (lstE 38 us cs ++ lstE 58 ut ct)) w9∧EscI ⟨⟨mul,muh⟩,⟨rl,rh⟩,⟨ol,oh⟩,⟨sl,sh⟩,⟨⟨pxl,pxh⟩,⟨pyl,pyh⟩,⟨pzl,pzh⟩⟩⟩ ⟨⟨hl,hh⟩,⟨pl,ph⟩,⟨ql,qh⟩,mf,mt,ms,md,n,v,A,c,mo,mr,mu⟩ ⟨tf,⟨⟨axl,axh⟩,⟨ayl,ayh⟩,⟨azl,azh⟩⟩,⟨⟨bxl,bxh⟩,⟨byl,byh⟩,⟨bzl,bzh⟩⟩,⟨ml,mh⟩⟩ st sg 0 0 Sk un lo):=hZ ⟨⟨tf,⟨⟨axl,axh⟩,⟨ayl,ayh⟩,⟨azl,azh⟩⟩,⟨⟨bxl,bxh⟩,⟨byl,byh⟩,⟨bzl,bzh⟩⟩,⟨ml,mh⟩⟩,false,false,HF10.out,.inl ⟨rfl,rfl⟩,fun _ i l x tb _ _ hx=>by omega,fun h=>absurd h (by decide)⟩
  go_loopw [9,40] (fun tv iv wr=>∃ ki:Nat,ki≤n∧iv=.int .i64 ki∧(∃ ax,(ax=offT sg ki * 16 ∨ offT sg ki=sg.flatten.length)∧tv=tvK ut ax (offT sg ki))∧Hid (∃ Sk un lo,Fr w [] ([(qb,36,iC [mul,muh,rl,rh,ol,oh,sl,sh,pxl,pxh,pyl,pyh,pzl,pzh]),(qb+1,89,(#[hl,hh,pl,ph,ql,qh,mf,mt,ms,md,.slice A n c,mo,mr,mu]:Array Value)),(qb+1+1,58,iC [tf,tg,axl,axh,ayl,ayh,azl,azh,bxl,bxh,byl,byh,bzl,bzh,ml,mh]),(g3,38,stA Sk),(g9,199,#[.bool un,.bool lo])] ++ (lstE 38 us cs ++ lstE 58 ut ct)) wr∧EscI ⟨⟨mul,muh⟩,⟨rl,rh⟩,⟨ol,oh⟩,⟨sl,sh⟩,⟨⟨pxl,pxh⟩,⟨pyl,pyh⟩,⟨pzl,pzh⟩⟩⟩ ⟨⟨hl,hh⟩,⟨pl,ph⟩,⟨ql,qh⟩,mf,mt,ms,md,n,v,A,c,mo,mr,mu⟩ ⟨tf,⟨⟨axl,axh⟩,⟨ayl,ayh⟩,⟨azl,azh⟩⟩,⟨⟨bxl,bxh⟩,⟨byl,byh⟩,⟨bzl,bzh⟩⟩,⟨ml,mh⟩⟩ st sg ki 0 Sk un lo)) (fun _ iv _=>n - (intOf iv).toNat)
  case atStart=>exact ⟨0,Nat.zero_le _,rfl,⟨0,.inl (by rw [show offT sg 0=0 from rfl]),HTV.out.symm⟩,HR0⟩
  case round =>
   obtain ⟨wo,rfl⟩:∃ wo:World,wo=wr:=⟨_,rfl⟩;obtain ⟨ki,hk,rfl,⟨ax,hax,htv⟩,hs⟩:=hrel;obtain ⟨Sk,un,lo,hfr,hes⟩:=hs.out;clear HR0 hs HF10;have h0k:(0:Int)≤(ki:Int):=by omega
   by_cases hlt:ki<n
   ·have hki:(ki:Int)<(n:Int):=by omega
    obtain ⟨l,hsl,hll⟩:=HLN.out.2.2.2 ki hlt;have hok:=HGD.out.arcs ki hlt;have hcnt:=count_steps (arcT_pos hok).1 (arcT_pos hok).2;rw [← hll] at hcnt;have hlen1:=HLN.out.1;obtain ⟨S',hS'⟩:∃ S',st[ki]?=some S':=⟨_,List.getElem?_eq_getElem (by rw [hlen1];exact hlt)⟩
    obtain ⟨o,ho⟩:=eX (offT sg ki);obtain ⟨L,hL⟩:=eX sg.flatten.length;obtain ⟨cn,hcn⟩:=eX l.length;have hoff:=offT_succ hsl;have hofl:offT sg (ki+1)≤sg.flatten.length:=offT_le;rw [ho,hcn] at hoff;rw [hoff,hL] at hofl;rw [ho] at htv hax;rw [hcn] at hcnt;have hLm:(sg.flatten.length:Int)≤4096:=by rw [HLN.out.2.2.1];exact HGD.out.sum
    rw [hL] at hLm;have hl2:=HL2.out;rw [hL] at hl2;obtain ⟨gt,cap,rfl,hcap1,hcap2,hcap3,hcap4⟩:∃ gt cap,ut=.slice (some ⟨gt,0,none⟩) L cap∧L≤cap∧cap≤maxLen∧ct.size=cap * 16∧ct.toList.take (L * 16)=tbsC sg.flatten:=by
     rcases hl2.2 with ⟨_,h0⟩ | ⟨gt,cap,h1,h2,h3,h4,h5⟩
     ·have hp:0<stepsI (v ki).a:=stepsI_pos hok;omega
     ·exact ⟨gt,cap,h1,h2,h3,h4,h5⟩
    obtain ⟨gs,cap',hus,-⟩:∃ gs cap',us=.slice (some ⟨gs,0,none⟩) n cap'∧n≤cap':=by
     rcases HL1.out.2 with ⟨_,h0⟩ | ⟨gs,cap',h1,h2,_⟩
     ·omega
     ·exact ⟨gs,cap',h1,h2⟩
    subst hus;rw [hL] at hax;have hcn1:0<cn:=by have hp:0<stepsI (v ki).a:=stepsI_pos hok;omega
    obtain rfl:ax=o * 16:=by rcases hax with h | h <;> omega
    replace htv:_=Value.slice (some ⟨gt,o * 16,none⟩) (L - o) (cap - o):=htv;subst htv;have HSEG:=hZ fun (j:Nat) (tb:TubeD) (hj:l[j]?=some tb)=>lst_seg tbA (fun _=>rfl) hl2 (offT_get hsl hj) (by have:=(List.getElem?_eq_some_iff.1 hj).1;omega)
    rw [ho] at HSEG;have HSG2:Hid ((cs.toList.drop (ki * 15)).take 15=(stA S').toList):=hZ (lst_seg stA (fun _=>rfl) HL1.out hS' hlt);have HWT2:=hZ fun (j:Nat) (tb:TubeD) (hj:l[j]?=some tb)=>HWD.out.2.2 l (List.mem_of_getElem? hsl) tb (List.mem_of_getElem? hj);have HDV:=hZ fun (tb:TubeD) (hm:WdS tb.m) w=>div_any (v ki).a.thrust tb.m (HWV.out ki).thrust hm w;obtain ⟨b,off,rfl,-,-⟩:=HAA.out.1.2 (by omega)
    have hcs:=HAA.out.cells rfl hlt hfr;have HCA:=fun w' (hb:Below w.heap.size w w')=>steps_any (v ki).a (v ki).A (v ki).c (HWV.out ki) w' ((HAA.out.2 ki hlt).to hb);unfold stepsT at HCA;rw [if_pos hok,if_neg (by omega),← hcnt] at HCA
    have HLL:=hZ (And.intro hsl (And.intro hS' (And.intro hcn (And.intro hoff (And.intro hL hcnt)))));have HES:=hZ hes;have hb1:o+cn≤L:=hofl;have hb4:cn≤L - o:=by omega
    obtain ⟨ay,hay,hay2⟩:∃ ay,Value.slice (if cap - o=cn then some ⟨gt,o * 16,none⟩ else some ⟨gt,o * 16+cn * 16,none⟩) (L - o - cn) (cap - o - cn)=Value.slice (some ⟨gt,ay,none⟩) (L - o - cn) (cap - o - cn)∧(ay=(o+cn) * 16 ∨ o+cn=L):=by
     by_cases h:cap - o=cn
     ·exact ⟨_,by rw [if_pos h],.inr (by omega)⟩
     ·exact ⟨_,by rw [if_neg h],.inl (by omega)⟩
    have HAY:=hZ hay;have HAY2:=hZ hay2;clear hay hay2 hax;have hb2:((o+cn:Nat):Int)≤4096:=by omega
    have hb3:cap≤9223372036854775807:=hcap2;have HEX:=hZ fun (un1 lo1 un2 lo2:Bool) (j:Nat) (un lo:Bool) (tb:TubeD) (a bb:SpanD) (e f:Int) (h:EscI ⟨⟨mul,muh⟩,⟨rl,rh⟩,⟨ol,oh⟩,⟨sl,sh⟩,⟨⟨pxl,pxh⟩,⟨pyl,pyh⟩,⟨pzl,pzh⟩⟩⟩ ⟨⟨hl,hh⟩,⟨pl,ph⟩,⟨ql,qh⟩,mf,mt,ms,md,n,v,(some ⟨b,off,none⟩),c,mo,mr,mu⟩ ⟨tf,⟨⟨axl,axh⟩,⟨ayl,ayh⟩,⟨azl,azh⟩⟩,⟨⟨bxl,bxh⟩,⟨byl,byh⟩,⟨bzl,bzh⟩⟩,⟨ml,mh⟩⟩ st sg ki j Sk un lo)=>EscI.next (un1:=un1) (lo1:=lo1) (un2:=un2) (lo2:=lo2) (tb:=tb) (a:=a) (b:=bb) (e:=e) (f:=f) h hsl;obtain ⟨⟨⟨time,step,⟨tl,th⟩,⟨fl,fh⟩,⟨⟨dxl,dxh⟩,⟨dyl,dyh⟩,⟨dzl,dzh⟩⟩,drag,⟨dl,dh⟩⟩,A1,c1⟩,hvk⟩:=eX (v ki);have HVK:=hZ hvk;simp only [hvk] at hcs HCA HDV HEX;unfold arcV at HCA;dsimp only [arcA] at hcs HCA HDV HEX;obtain ⟨n1,hn1⟩:=eX drag.length;rw [hn1] at hcs HCA;have HCX:=hZ hcs;replace HCA:=hZ HCA;unfold SpPost spanV at HDV;obtain ⟨zt,⟨⟨zpxl,zpxh⟩,⟨zpyl,zpyh⟩,⟨zpzl,zpzh⟩⟩,⟨⟨zvxl,zvxh⟩,⟨zvyl,zvyh⟩,⟨zvzl,zvzh⟩⟩,⟨zml,zmh⟩⟩:=Sk;obtain ⟨rt,⟨⟨rpxl,rpxh⟩,⟨rpyl,rpyh⟩,⟨rpzl,rpzh⟩⟩,⟨⟨rvxl,rvxh⟩,⟨rvyl,rvyh⟩,⟨rvzl,rvzh⟩⟩,⟨rml,rmh⟩⟩:=S';have HF:Hid (Fr w [] [(qb,36,iC [mul,muh,rl,rh,ol,oh,sl,sh,pxl,pxh,pyl,pyh,pzl,pzh]),(qb+1,89,#[hl,hh,pl,ph,ql,qh,mf,mt,ms,md,.slice (some ⟨b,off,none⟩) n c,mo,mr,mu]),(qb+1+1,58,iC [tf,tg,axl,axh,ayl,ayh,azl,azh,bxl,bxh,byl,byh,bzl,bzh,ml,mh]),(g3,38,iC [zt,zpxl,zpxh,zpyl,zpyh,zpzl,zpzh,zvxl,zvxh,zvyl,zvyh,zvzl,zvzh,zml,zmh]),(g9,199,#[.bool un,.bool lo]),(gs,38,cs),(gt,58,ct)] wo):=hZ hfr;clear hcn1 hvk hcs hn1 hfr hes hsl hS' hll hok hlen1 ho hL hl2 hcap3 hcap4 hoff hofl hcn hcnt hLm hcap2;obtain ⟨g12,hg12⟩:=eX wo.heap.size;obtain ⟨w12,hw12⟩:=eX (wo.alloc (.cells #[(0:Int),(0:Int),(0:Int),(0:Int),(0:Int),(0:Int),(0:Int),(0:Int),(0:Int),(0:Int),(0:Int),(0:Int),.slice none 0 0,(0:Int),(0:Int)] 46));have HF13:Hid (Fr w [] [(qb,36,iC [mul,muh,rl,rh,ol,oh,sl,sh,pxl,pxh,pyl,pyh,pzl,pzh]),(qb+1,89,#[hl,hh,pl,ph,ql,qh,mf,mt,ms,md,.slice (some ⟨b,off,none⟩) n c,mo,mr,mu]),(qb+1+1,58,iC [tf,tg,axl,axh,ayl,ayh,azl,azh,bxl,bxh,byl,byh,bzl,bzh,ml,mh]),(g3,38,iC [zt,zpxl,zpxh,zpyl,zpyh,zpzl,zpzh,zvxl,zvxh,zvyl,zvyh,zvzl,zvzh,zml,zmh]),(g9,199,#[.bool un,.bool lo]),(gs,38,cs),(gt,58,ct),(g12,46,#[(0:Int),(0:Int),(0:Int),(0:Int),(0:Int),(0:Int),(0:Int),(0:Int),(0:Int),(0:Int),(0:Int),(0:Int),.slice none 0 0,(0:Int),(0:Int)])] w12):=hZ (by rw [← hw12];exact HF.out.alloc hg12.symm 46 #[(0:Int),(0:Int),(0:Int),(0:Int),(0:Int),(0:Int),(0:Int),(0:Int),(0:Int),(0:Int),(0:Int),(0:Int),.slice none 0 0,(0:Int),(0:Int)])
    go_wp2_with (first
      | (refine wpLoadAt rfl 46 _ rfl b (off+ki * 15) rfl #[time,step,tl,th,fl,fh,dxl,dxh,dyl,dyh,dzl,dzh,.slice A1 n1 c1,dl,dh] _ HCX.out u_46 rfl i_46 ?_)
      | (refine lF (gN HF15 7) #[time,step,tl,th,fl,fh,dxl,dxh,dyl,dyh,dzl,dzh,.slice A1 n1 c1,dl,dh] u_46 i_46 ?_)
      | (refine sW 7 HF13.out i_46 fun w14 HF15=>?_;clear hw12 hg12))
    refine mB HF15.out (HCA.out _ HF15.out.toBelow) fun w16 HF17=>?_;go_wp2_with fail
    have HR1:Hid (∃ un lo,Fr w [] [(qb,36,iC [mul,muh,rl,rh,ol,oh,sl,sh,pxl,pxh,pyl,pyh,pzl,pzh]),(qb+1,89,#[hl,hh,pl,ph,ql,qh,mf,mt,ms,md,.slice (some ⟨b,off,none⟩) n c,mo,mr,mu]),(qb+1+1,58,iC [tf,tg,axl,axh,ayl,ayh,azl,azh,bxl,bxh,byl,byh,bzl,bzh,ml,mh]),(g3,38,iC [zt,zpxl,zpxh,zpyl,zpyh,zpzl,zpzh,zvxl,zvxh,zvyl,zvyh,zvzl,zvzh,zml,zmh]),(g9,199,#[.bool un,.bool lo]),(gs,38,cs),(gt,58,ct),(g12,46,#[time,step,tl,th,fl,fh,dxl,dxh,dyl,dyh,dzl,dzh,.slice A1 n1 c1,dl,dh])] w16∧EscI ⟨⟨mul,muh⟩,⟨rl,rh⟩,⟨ol,oh⟩,⟨sl,sh⟩,⟨⟨pxl,pxh⟩,⟨pyl,pyh⟩,⟨pzl,pzh⟩⟩⟩ ⟨⟨hl,hh⟩,⟨pl,ph⟩,⟨ql,qh⟩,mf,mt,ms,md,n,v,(some ⟨b,off,none⟩),c,mo,mr,mu⟩ ⟨tf,⟨⟨axl,axh⟩,⟨ayl,ayh⟩,⟨azl,azh⟩⟩,⟨⟨bxl,bxh⟩,⟨byl,byh⟩,⟨bzl,bzh⟩⟩,⟨ml,mh⟩⟩ st sg ki 0 ⟨zt,⟨⟨zpxl,zpxh⟩,⟨zpyl,zpyh⟩,⟨zpzl,zpzh⟩⟩,⟨⟨zvxl,zvxh⟩,⟨zvyl,zvyh⟩,⟨zvzl,zvzh⟩⟩,⟨zml,zmh⟩⟩ un lo):=hZ ⟨un,lo,HF17.out,HES.out⟩;have hcn0:(0:Int)≤(cn:Int):=by omega
    go_loopw [54] (fun iv wr=>∃ j:Nat,j≤cn∧iv=.int .i64 j∧Hid (∃ un lo,Fr w [] [(qb,36,iC [mul,muh,rl,rh,ol,oh,sl,sh,pxl,pxh,pyl,pyh,pzl,pzh]),(qb+1,89,#[hl,hh,pl,ph,ql,qh,mf,mt,ms,md,.slice (some ⟨b,off,none⟩) n c,mo,mr,mu]),(qb+1+1,58,iC [tf,tg,axl,axh,ayl,ayh,azl,azh,bxl,bxh,byl,byh,bzl,bzh,ml,mh]),(g3,38,iC [zt,zpxl,zpxh,zpyl,zpyh,zpzl,zpzh,zvxl,zvxh,zvyl,zvyh,zvzl,zvzh,zml,zmh]),(g9,199,#[.bool un,.bool lo]),(gs,38,cs),(gt,58,ct),(g12,46,#[time,step,tl,th,fl,fh,dxl,dxh,dyl,dyh,dzl,dzh,.slice A1 n1 c1,dl,dh])] wr∧EscI ⟨⟨mul,muh⟩,⟨rl,rh⟩,⟨ol,oh⟩,⟨sl,sh⟩,⟨⟨pxl,pxh⟩,⟨pyl,pyh⟩,⟨pzl,pzh⟩⟩⟩ ⟨⟨hl,hh⟩,⟨pl,ph⟩,⟨ql,qh⟩,mf,mt,ms,md,n,v,(some ⟨b,off,none⟩),c,mo,mr,mu⟩ ⟨tf,⟨⟨axl,axh⟩,⟨ayl,ayh⟩,⟨azl,azh⟩⟩,⟨⟨bxl,bxh⟩,⟨byl,byh⟩,⟨bzl,bzh⟩⟩,⟨ml,mh⟩⟩ st sg ki j ⟨zt,⟨⟨zpxl,zpxh⟩,⟨zpyl,zpyh⟩,⟨zpzl,zpzh⟩⟩,⟨⟨zvxl,zvxh⟩,⟨zvyl,zvyh⟩,⟨zvzl,zvzh⟩⟩,⟨zml,zmh⟩⟩ un lo)) (fun iv _=>cn - (intOf iv).toNat)
    case atStart=>exact ⟨0,Nat.zero_le _,rfl,HR1⟩
    case round =>
     obtain ⟨wi,rfl⟩:∃ wi:World,wi=wr:=⟨_,rfl⟩;obtain ⟨j,hj,rfl,hs⟩:=hrel;obtain ⟨un,lo,hfr,hes⟩:=hs.out;have HG:Hid (Fr w [] [(qb,36,iC [mul,muh,rl,rh,ol,oh,sl,sh,pxl,pxh,pyl,pyh,pzl,pzh]),(qb+1,89,#[hl,hh,pl,ph,ql,qh,mf,mt,ms,md,.slice (some ⟨b,off,none⟩) n c,mo,mr,mu]),(qb+1+1,58,iC [tf,tg,axl,axh,ayl,ayh,azl,azh,bxl,bxh,byl,byh,bzl,bzh,ml,mh]),(g3,38,iC [zt,zpxl,zpxh,zpyl,zpyh,zpzl,zpzh,zvxl,zvxh,zvyl,zvyh,zvzl,zvzh,zml,zmh]),(g9,199,#[.bool un,.bool lo]),(gs,38,cs),(gt,58,ct),(g12,46,#[time,step,tl,th,fl,fh,dxl,dxh,dyl,dyh,dzl,dzh,.slice A1 n1 c1,dl,dh])] wi):=hZ hfr;clear HR1 hs hfr HF17;have h0j:(0:Int)≤(j:Int):=by omega
     by_cases hjt:j<cn
     ·have hji:(j:Int)<(cn:Int):=by omega
      obtain ⟨tb,htb⟩:∃ tb,l[j]?=some tb:=⟨_,List.getElem?_eq_getElem (by rw [HLL.out.2.2.1];exact hjt)⟩
      have hsg:=HSEG.out j tb htb;rw [Nat.add_mul] at hsg;have hwt:=HWT2.out j tb htb;have HHX:=HHT.out tb.p hwt.p;obtain ⟨⟨⟨xl,xh⟩,e5⟩,hx⟩:=eX (heightF (⟨⟨mul,muh⟩,⟨rl,rh⟩,⟨ol,oh⟩,⟨sl,sh⟩,⟨⟨pxl,pxh⟩,⟨pyl,pyh⟩,⟨pzl,pzh⟩⟩⟩) tb.p);rw [hx] at HHX;have HDX:=HDV.out tb hwt.m;obtain ⟨⟨⟨yl,yh⟩,e6⟩,hy⟩:=eX (divB ⟨tl,th⟩ tb.m);rw [hy] at HDX;have HEN:=hZ fun un1 lo1 un2 lo2 h1 g1 h2 g2=>HEX.out un1 lo1 un2 lo2 j un lo tb ⟨xl,xh⟩ ⟨yl,yh⟩ e5 e6 hes htb hx hy h1 g1 h2 g2;obtain ⟨uf,ug,⟨⟨kaxl,kaxh⟩,⟨kayl,kayh⟩,⟨kazl,kazh⟩⟩,⟨⟨kbxl,kbxh⟩,⟨kbyl,kbyh⟩,⟨kbzl,kbzh⟩⟩,⟨uml,umh⟩⟩:=tb;unfold tbA tubeV at hsg;dsimp only [Value.cells] at hsg;dsimp only at HHX HDX;have HSG:=hZ hsg;replace HHX:=hZ HHX;replace HDX:=hZ HDX;clear htb hsg hwt hx hy hes;obtain ⟨g18,hg18⟩:=eX wi.heap.size;obtain ⟨w18,hw18⟩:=eX (wi.alloc (.cells #[(0:Int),(0:Int),(0:Int),(0:Int),(0:Int),(0:Int),(0:Int),(0:Int),(0:Int),(0:Int),(0:Int),(0:Int),(0:Int),(0:Int),(0:Int),(0:Int)] 58));have HF19:Hid (Fr w [] [(qb,36,iC [mul,muh,rl,rh,ol,oh,sl,sh,pxl,pxh,pyl,pyh,pzl,pzh]),(qb+1,89,#[hl,hh,pl,ph,ql,qh,mf,mt,ms,md,.slice (some ⟨b,off,none⟩) n c,mo,mr,mu]),(qb+1+1,58,iC [tf,tg,axl,axh,ayl,ayh,azl,azh,bxl,bxh,byl,byh,bzl,bzh,ml,mh]),(g3,38,iC [zt,zpxl,zpxh,zpyl,zpyh,zpzl,zpzh,zvxl,zvxh,zvyl,zvyh,zvzl,zvzh,zml,zmh]),(g9,199,#[.bool un,.bool lo]),(gs,38,cs),(gt,58,ct),(g12,46,#[time,step,tl,th,fl,fh,dxl,dxh,dyl,dyh,dzl,dzh,.slice A1 n1 c1,dl,dh]),(g18,58,iC [0,0,0,0,0,0,0,0,0,0,0,0,0,0,0,0])] w18):=hZ (by rw [← hw18];exact HG.out.alloc hg18.symm 58 #[(0:Int),(0:Int),(0:Int),(0:Int),(0:Int),(0:Int),(0:Int),(0:Int),(0:Int),(0:Int),(0:Int),(0:Int),(0:Int),(0:Int),(0:Int),(0:Int)])
      go_wp2_with (first
        | (refine wpLoadF rfl 58 _ rfl gt (o * 16+j * 16) rfl _ _ (HG.out.get 6 rfl) #[uf,ug,kaxl,kaxh,kayl,kayh,kazl,kazh,kbxl,kbxh,kbyl,kbyh,kbzl,kbzh,uml,umh] (HSG.out) _ u_58 rfl i_58 ?_)
        | (refine lF (gN HF21 0) #[mul,muh,rl,rh,ol,oh,sl,sh,pxl,pxh,pyl,pyh,pzl,pzh] u_36 i_36 ?_)
        | (refine lF (gN HF21 8) #[kaxl,kaxh,kayl,kayh,kazl,kazh] u_34 i_34 ?_)
        | (refine sW 8 HF19.out i_58 fun w20 HF21=>?_;clear hw18 hg18))
      refine mB HF21.out (HHX.out _) fun w22 HF23=>?_;obtain ⟨g24,w24,hg24,hw24,HF25⟩:=fA HF23.out #[.int .i64 0,.int .i64 0] 31;go_wp2_with (first
        | (refine lS (gN HF27 9) xl xh ?_)
        | (refine sW 9 HF25.out i_span fun w26 HF27=>?_;clear hw24 hg24;have c28:=cA (gN HF27 1) 12))
      clear c28;refine (least_any g9 un lo mr ⟨xl,xh⟩ e5 _ (HF27.out.get 4 rfl)).mono ?_
      rintro e wl1 ⟨rfl,un1,lo1,hw,h1,g1⟩;have HF29:=fN (HF27.out.turn 4 rfl hw);clear hw;go_wp2_with (first
        | (refine lS (gN HF29 7) tl th ?_)
        | (refine lS (gN HF29 8) uml umh ?_))
      refine mB HF29.out (HDX.out _) fun w30 HF31=>?_;obtain ⟨g32,w32,hg32,hw32,HF33⟩:=fA HF31.out #[.int .i64 0,.int .i64 0] 31;go_wp2_with (first
        | (refine lS (gN HF35 10) yl yh ?_)
        | (refine sW 10 HF33.out i_span fun w34 HF35=>?_;clear hw32 hg32;have c36:=cA (gN HF35 1) 11))
      clear c36;refine (most_any g9 un1 lo1 mo ⟨yl,yh⟩ e6 _ (HF35.out.get 4 rfl)).mono ?_
      rintro e wl2 ⟨rfl,un2,lo2,hw,h2,g2⟩;have HF37:=fN (HF35.out.turn 4 rfl hw);clear hw;go_wp2_with fail
      go_roundw
      case rel=>exact ⟨j+1,by omega,by go_num,hZ ⟨un2,lo2,HF37.out.sub (List.sublist_append_left [_,_,_,_,_,_,_,_] _),HEN.out _ _ _ _ h1 g1 h2 g2⟩⟩
      case measure=>simp [intOf];omega
     ·obtain rfl:cn=j:=by omega
      have hji:¬ (cn:Int)<(cn:Int):=by omega
      have HEC:=hZ (EscI.arc (by rw [← HLL.out.2.2.1] at hes;exact hes) HLL.out.1 HLL.out.2.1)
      clear hes;go_upto_region 18 with (fail);refine wrf [.p,.p,.p,.p,.p,.p,.p,.p,.c 0] [8] [] (fun _=>[]) (fun k=>[(qb,36,iC [mul,muh,rl,rh,ol,oh,sl,sh,pxl,pxh,pyl,pyh,pzl,pzh]),(qb+1,89,#[hl,hh,pl,ph,ql,qh,mf,mt,ms,md,.slice (some ⟨b,off,none⟩) n c,mo,mr,mu]),(qb+1+1,58,iC [tf,tg,axl,axh,ayl,ayh,azl,azh,bxl,bxh,byl,byh,bzl,bzh,ml,mh]),(g3,38,(if k≤0 then iC [zt,zpxl,zpxh,zpyl,zpyh,zpzl,zpzh,zvxl,zvxh,zvyl,zvyh,zvzl,zvzh,zml,zmh] else iC [rt,rpxl,rpxh,rpyl,rpyh,rpzl,rpzh,rvxl,rvxh,rvyl,rvyh,rvzl,rvzh,rml,rmh])),(g9,199,#[.bool un,.bool lo]),(gs,38,cs),(gt,58,ct),(g12,46,#[time,step,tl,th,fl,fh,dxl,dxh,dyl,dyh,dzl,dzh,.slice A1 n1 c1,dl,dh])]) (rV [.slice (some ⟨gt,o * 16,none⟩) (L - o) (cap - o),.int .i64 (cn:Int),.slice (some ⟨gt,ay,none⟩) (L - o - cn) (cap - o - cn),.slice (some ⟨gs,0,none⟩) n cap',.int .i64 (ki:Int),.pointer (some ⟨gs,ki * 15,none⟩),.agg #[rt,rpxl,rpxh,rpyl,rpyh,rpzl,rpzh,rvxl,rvxh,rvyl,rvyh,rvzl,rvzh,rml,rmh],.slice (some ⟨gt,ay,none⟩) (L - o - cn) (cap - o - cn)]) [] HG.out ?_ ?_
      ·refine ⟨?_,?_,?_,?_,?_,?_,?_,?_,?_,trivial⟩
       all_goals intro a w1 vs dn k K S hpre KE DE kk
       ·have e9:=KE 9;go_simp;exact kk _ _
       ·have e14:=KE 14;go_simp;exact kk _ _
       ·have e86:=dep (DE 0 86);have e87:=dep (DE 1 87);have e86:=dep (DE 0 86);have e87:=dep (DE 1 87);go_simp;rw [HAY.out];exact kk _ _
       ·have e8:=KE 8;go_simp;exact kk _ _
       ·have e12:=KE 12;go_simp;exact kk _ _
       ·have e89:=dep (DE 3 89);have e90:=dep (DE 4 90);go_simp;exact kk _ _
       ·have e91:=dep (DE 5 91);exact wpo_loadF 38 (.tmp 91) rfl gs (ki * 15) (by simpa [Act.eval] using e91) _ _ (S.fr.left.get 5 rfl) #[rt,rpxl,rpxh,rpyl,rpyh,rpzl,rpzh,rvxl,rvxh,rvyl,rvyh,rvzl,rvzh,rml,rmh] (HSG2.out) _ u_38 rfl i_38 (kk _ _)
       ·have e88:=dep (DE 2 88);go_simp;exact kk _ _
       ·subst hpre;exact oW (eT (KE 7)) (eT (dep (DE 6 92))) (gI (S.hi 0 8 rfl rfl) (S.fr.left.get 3 rfl)) i_38 fun w' hk ho=>kk _ _ (by simp) (Fr.stage (S.fr.only 3 rfl ho hk) (by exact trivial))
      ·intro vs w18 HFr HR;have v7:vs 7=.slice (some ⟨gt,ay,none⟩) (L - o - cn) (cap - o - cn):=HR 7 _ rfl;have HF18:=fW HFr;clear HFr HR;simp only [putAll,Act.put,List.setIfInBounds_toArray,List.set_cons_zero,List.set_cons_succ,v7];clear v7;go_wp2_with fail
       go_roundw
       case rel =>
        refine ⟨ki+1,by omega,by go_num,?_,hZ ⟨_,un,lo,HF18.out.sub ?_,HEC.out⟩⟩
        ·refine ⟨ay,?_,?_⟩
         ·rw [HLL.out.2.2.2.1,HLL.out.2.2.2.2.1];exact HAY2.out
         ·rw [HLL.out.2.2.2.1];show Value.slice (some ⟨gt,ay,none⟩) (L - o - cn) (cap - o - cn)=Value.slice (some ⟨gt,ay,none⟩) (L - (o+cn)) (cap - (o+cn))
          rw [Nat.sub_sub,Nat.sub_sub]
        ·exact List.sublist_append_left [_,_,_,_,_,_,_] _
       case measure=>simp [intOf];omega
   ·obtain rfl:n=ki:=by omega
    have hki:¬ (n:Int)<(n:Int):=by omega
    have hSk:Sk=S:=hes.1.uniq (fly_last HLN.out.1 HFT.out);subst hSk;have HSX:=HSD.out Sk.v HWD.out.1.2.2.1;obtain ⟨⟨⟨xl,xh⟩,e5⟩,hx⟩:=eX (normB [Sk.v.x,Sk.v.y,Sk.v.z]);rw [hx] at HSX;have HEE:=hZ hes;have HSU:Hid (∀ un1,un1=false→(un1=false→un=false∧e5=0∧xh≤mu)→Sure (⟨⟨mul,muh⟩,⟨rl,rh⟩,⟨ol,oh⟩,⟨sl,sh⟩,⟨⟨pxl,pxh⟩,⟨pyl,pyh⟩,⟨pzl,pzh⟩⟩⟩) (⟨⟨hl,hh⟩,⟨pl,ph⟩,⟨ql,qh⟩,mf,mt,ms,md,n,v,A,c,mo,mr,mu⟩) (⟨tf,⟨⟨axl,axh⟩,⟨ayl,ayh⟩,⟨azl,azh⟩⟩,⟨⟨bxl,bxh⟩,⟨byl,byh⟩,⟨bzl,bzh⟩⟩,⟨ml,mh⟩⟩)):=hZ fun un1 h h1=>by
     obtain ⟨q1,q2,q3⟩:=h1 h;refine ⟨_,_,_,HFT.out,fun i l hil tb htb=>?_,?_,?_⟩
     ·obtain ⟨x,hx1⟩:=List.getElem?_of_mem htb;exact hes.2.1 q1 i l x tb hil hx1 (.inl (by have:=(List.getElem?_eq_some_iff.1 hil).1;have:=HLN.out.2.1;omega))
     ·unfold spdB;rw [hx];exact q2
     ·unfold spdB;rw [hx];exact Int.not_lt.2 q3
    have HLO:Hid (∀ lo1,lo1=true→(lo1=true→lo=true ∨ (e5=0∧mu<xl))→Lost (⟨⟨mul,muh⟩,⟨rl,rh⟩,⟨ol,oh⟩,⟨sl,sh⟩,⟨⟨pxl,pxh⟩,⟨pyl,pyh⟩,⟨pzl,pzh⟩⟩⟩) (⟨⟨hl,hh⟩,⟨pl,ph⟩,⟨ql,qh⟩,mf,mt,ms,md,n,v,A,c,mo,mr,mu⟩) (⟨tf,⟨⟨axl,axh⟩,⟨ayl,ayh⟩,⟨azl,azh⟩⟩,⟨⟨bxl,bxh⟩,⟨byl,byh⟩,⟨bzl,bzh⟩⟩,⟨ml,mh⟩⟩)):=hZ fun lo1 h h1=>by
     refine ⟨_,_,_,HFT.out,?_⟩
     rcases h1 h with q | q
     ·exact .inl (hes.2.2 q)
     ·exact .inr (by unfold spdB;rw [hx];exact q)
    have HFR:=hZ hfr;obtain ⟨zt,⟨⟨zpxl,zpxh⟩,⟨zpyl,zpyh⟩,⟨zpzl,zpzh⟩⟩,⟨⟨zvxl,zvxh⟩,⟨zvyl,zvyh⟩,⟨zvzl,zvzh⟩⟩,⟨zml,zmh⟩⟩:=Sk;dsimp only at HSX;replace HSX:=hZ HSX;clear hx hes hfr htv;have HF9:Hid (Fr w [] ([(qb,36,iC [mul,muh,rl,rh,ol,oh,sl,sh,pxl,pxh,pyl,pyh,pzl,pzh]),(qb+1,89,(#[hl,hh,pl,ph,ql,qh,mf,mt,ms,md,.slice A n c,mo,mr,mu]:Array Value)),(qb+1+1,58,iC [tf,tg,axl,axh,ayl,ayh,azl,azh,bxl,bxh,byl,byh,bzl,bzh,ml,mh]),(g3,38,iC [zt,zpxl,zpxh,zpyl,zpyh,zpzl,zpzh,zvxl,zvxh,zvyl,zvyh,zvzl,zvzh,zml,zmh]),(g9,199,#[.bool un,.bool lo])] ++ (lstE 38 us cs ++ lstE 58 ut ct)) wo):=HFR;go_wp2_with (refine lF (gN HF9 3) #[zvxl,zvxh,zvyl,zvyh,zvzl,zvzh] u_34 i_34 ?_)
    refine mB HF9.out (HSX.out _) fun w12 HF13=>?_;obtain ⟨g14,hg14⟩:=eX w12.heap.size;obtain ⟨w14,hw14⟩:=eX (w12.alloc (.cells #[.int .i64 0,.int .i64 0] 31));have HF15:=hZ (frE hw14 (HF13.out.allocM hg14.symm 31 #[.int .i64 0,.int .i64 0]));go_wp2_with (first
      | (refine lS (gN HF17 5) xl xh ?_)
      | (refine sW 5 HF15.out i_span fun w16 HF17=>?_;clear hw14 hg14;have c18:=cA (gN HF17 1) 13))
    clear c18;refine (most_any g9 un lo mu ⟨xl,xh⟩ e5 _ (HF17.out.get 4 rfl)).mono ?_
    rintro e wl1 ⟨rfl,un1,lo1,hw,h1,g1⟩;have HF19:=fN (HF17.out.turn 4 rfl hw);clear hw;have HU1:=hZ (fun h=>HSU.out un1 h fun hh=>⟨(h1 hh).1,(h1 hh).2.1,Int.not_lt.1 (h1 hh).2.2⟩);have HL1':=hZ (fun h=>HLO.out lo1 h g1);clear h1 g1;have c20:=cA (gN HF19 4) 0;cases un1 with
    | false =>
     go_wp2_with fail
     clear c20;exact HONE.out _ (HU1.out (by trivial)) HF19.out.drop
    | true =>
     have c21:=cA (gN HF19 4) 1;cases lo1 with
     | false =>
      go_wp2_with fail
      clear c20 c21;exact HZ.out _ HF19.out.drop
     | true =>
      go_wp2_with fail
      clear c20 c21;exact HMIN.out _ (HL1'.out (by trivial)) HF19.out.drop
end Go.Proofs.YtmkoegljnebdiaaGreat
