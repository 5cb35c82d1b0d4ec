/- What is proved: the texts Ke Kf Fl Ma Mb Mc, one behind the other; each says at its head what it proves, and under which conditions. -/
import Derived.Test.YtmkoegljnebdiaaGreatdPAborts10
namespace Go.Proofs.YtmkoegljnebdiaaGreat
open Go.RowKit
set_option maxRecDepth 100000
set_option maxHeartbeats 16000000

structure WdP (p:PlanetD):Prop where
 mu:WdS p.mu
 radius:WdS p.radius
 oblate:WdS p.oblate
 spin:WdS p.spin
 pull:WdB p.pull
theorem bndP {α β:Type} {m:CM α} {k:α→CM β} {P:α→Prop} {Q:β→Prop} (hm:∀ e,P (m e).1) (hk:∀ a,P a→∀ e,Q (k a e).1):∀ e,Q ((m.bnd k) e).1:=fun e=>hk _ (hm e) _
theorem iteP {α:Type} {c:Prop} [Decidable c] {m n:CM α} {P:α→Prop} (hm:∀ e,P (m e).1) (hn:∀ e,P (n e).1):∀ e,P ((if c then m else n) e).1:=fun e=>by
 by_cases h:c
 ·rw [if_pos h];exact hm e
 ·rw [if_neg h];exact hn e
theorem wd_force (p:PlanetD) (wp:WdB p.pull) (a:ArcD) (x:SixD) (m:SpanD):∀ e,WdB (forceM p a x m e).1 :=
 bndP (P:=fun _=>True) (fun _=>trivial) fun _ _=>bndP (P:=WdB) (iteP (fun _=>wp) (bndP (P:=fun _=>True) (fun _=>trivial) fun _ _ _=>wd_each wd_subM _ _ _)) fun _ h1 =>
  bndP (P:=WdB) (iteP (fun _=>h1) fun _=>⟨wd_addM _ _ _,wd_addM _ _ _,h1.2.2⟩) fun _ h2=>bndP (P:=WdB) (iteP (fun _=>h2) fun _=>wd_each wd_addM _ _ _) fun _ h3=>iteP (fun _=>h3) fun _=>wd_each wd_subM _ _ _
def stepP (p:PlanetD) (r:ArcR):StateD→Int→(StateD × TubeD) × Int:=fun s h=>stepF (forceM p r.a) r.a s h
theorem stepP_any (p:PlanetD) (r:ArcR) (wp:WdP p) (wa:WdA r.a) (s:StateD) (h:Int) (hs:I64W s) (hh:I64 h) (w:World) (hT:PtsAt w w.heap.size r.A r.a.drag.length (ptL r.a.drag)) :
  Calls Tryz.prog 62 #[modelV p r.a r.A r.a.drag.length r.c,stateV s,.int .i64 h] w fun v w'=>v=.returned (.tuple #[stateV (stepP p r s h).1.1,tubeV (stepP p r s h).1.2,.int .i64 (stepP p r s h).2])∧Below w.heap.size w w' :=
 step_any (forceM p r.a) p r.a r.A r.a.drag.length r.c s h hs wa.flow hh w
  (fun cb e x m w' hcb hb hx hm hk=>force_any p r.a r.A r.c cb e x m wp.mu wp.radius wp.oblate wp.spin wp.pull wa.thrust wa.dir wa.drag hx hm w w' hT hb hcb hk)
  (fun x m e=>wd_force p wp.pull r.a x m e) (fun x m=>st_force p r.a x m)
theorem wd_tailQ (a:ArcD) (s:StateD) (h:Int) (f:BoxD) (e:Int):WdB (tailM a s h f e).1.1∧WdB (tailM a s h f e).1.2.1∧WdS (tailM a s h f e).1.2.2 :=
 ⟨⟨wd_addM _ _ _,wd_addM _ _ _,wd_addM _ _ _⟩,⟨wd_addM _ _ _,wd_addM _ _ _,wd_addM _ _ _⟩,wd_subM _ _ _⟩
theorem wd_stepP (p:PlanetD) (r:ArcR) (s:StateD) (h:Int):I64W (stepP p r s h).1.1:=by
 have hen:WdS (massM r.a s h 0).1.1:=wd_addM _ _ _;unfold stepP stepF stepT;generalize (massM r.a s h 0).1.2=ms
 generalize (massM r.a s h 0).2=em
 generalize (massM r.a s h 0).1.1=en at hen
 have hno:I64W noSt:=⟨by unfold I64 noSt;decide,⟨wd_zero,wd_zero,wd_zero⟩,⟨wd_zero,wd_zero,wd_zero⟩,wd_zero⟩
 split
 ·split
  ·exact ⟨hen.1,(wd_tailQ r.a s h _ _).1,(wd_tailQ r.a s h _ _).2.1,(wd_tailQ r.a s h _ _).2.2⟩
  ·exact hno
 ·exact hno
def FlyTo (p:PlanetD) (v:Nat→ArcR) (s:StateD):Nat→StateD→List StateD→List (List TubeD)→Prop
 | 0,S,st,sg=>S=s∧st=[]∧sg=[]
 | k+1,S,st,sg=>∃ S0 st0 sg0 S1 tb m,FlyTo p v s k S0 st0 sg0∧runS (stepP p (v k)) S0 (lensL (v k).a)=((S1,tb),0)∧subB S1.m (v k).a.drop=(m,0)∧0<m.lo∧S=⟨S1.t,S1.p,S1.v,m⟩∧st=st0 ++ [S]∧sg=sg0 ++ [tb]
def stsC (l:List StateD):List Value:=l.flatMap fun s=>(stA s).toList
def FlyL (p:PlanetD) (n:Nat) (v:Nat→ArcR) (s:StateD) (w:World) (e:Ending) (w':World):Prop :=
 (∃ r,r ≠ 0∧e=.returned (.tuple #[.slice none 0 0,.slice none 0 0,.int .i64 r])∧Below w.heap.size w w') ∨
 (∃ S st sg us cs ut ct,GoodF p n v s∧FlyTo p v s n S st sg∧e=.returned (.tuple #[us,ut,.int .i64 0])∧LstAt 15 us cs n (stsC st)∧LstAt 16 ut ct sg.flatten.length (tbsC sg.flatten)∧Fr w [] (lstE 38 us cs ++ lstE 58 ut ct) w')
theorem sum_le {v:Nat→ArcR}:∀ n,(∀ i,i<n→arcT (v i).a=true)→(∀ i,i<n→stepsI (v i).a≤sumN v n)∧0≤sumN v n
 | 0,_=>⟨fun i hi=>absurd hi (Nat.not_lt_zero i),Int.le_refl _⟩
 | n+1,h=>by
  obtain ⟨h1,h2⟩:=sum_le n fun i hi=>h i (by omega)
  have hp:=stepsI_pos (h n (by omega))
  rw [sumN];refine ⟨fun i hi=>?_,by omega⟩
  rcases Nat.lt_or_ge i n with k | k
  ·have:=h1 i k;omega
  ·obtain rfl:i=n:=by omega
   omega
theorem sum_mono {v:Nat→ArcR} {j:Nat}:∀ d,(∀ i,i<j+d→arcT (v i).a=true)→sumN v j≤sumN v (j+d)
 | 0,_=>Int.le_refl _
 | d+1,ha=>by
  have h1:=stepsI_pos (ha (j+d) (by omega))
  have h2:=sum_mono (j:=j) d fun i (hi:i<j+d)=>ha i (by omega)
  show sumN v j≤sumN v (j+d)+stepsI (v (j+d)).a
  omega
theorem fly_lens {p:PlanetD} {v:Nat→ArcR} {s:StateD}:∀ {k:Nat} {S:StateD} {st:List StateD} {sg:List (List TubeD)},(∀ i,i<k→arcT (v i).a=true)→FlyTo p v s k S st sg→st.length=k∧sg.length=k∧(sg.flatten.length:Int)=sumN v k∧∀ i,i<k→∃ l,sg[i]?=some l∧l.length=countN (v i).a
 | 0,S,st,sg,_,h=>by obtain ⟨_,rfl,rfl⟩:=h;exact ⟨rfl,rfl,rfl,fun i hi=>absurd hi (Nat.not_lt_zero i)⟩
 | k+1,S,st,sg,ha,h=>by
  obtain ⟨S0,st0,sg0,S1,tb,m,h0,h1,_,_,_,rfl,rfl⟩:=h;obtain ⟨i1,i2,i3,i4⟩:=fly_lens (fun i hi=>ha i (by omega)) h0
  obtain ⟨p1,p2⟩:=arcT_pos (ha k (by omega))
  have hl:=runS_len (stepP p (v k)) S0 (lensL (v k).a) (by rw [h1])
  rw [h1] at hl;have hl':tb.length=countN (v k).a:=by simpa [lensL] using hl
  have hc:=count_steps p1 p2;refine ⟨by simp [i1],by simp [i2],?_,fun i hi=>?_⟩
  ·rw [sumN,List.flatten_append,List.length_append,List.flatten_cons,List.flatten_nil,List.append_nil];omega
  ·rcases Nat.lt_or_ge i k with q | q
   ·rw [List.getElem?_append_left (by omega)];exact i4 i q
   ·obtain rfl:i=k:=by omega
    rw [List.getElem?_append_right (by omega),i2,Nat.sub_self];exact ⟨tb,rfl,hl'⟩
end Go.Proofs.YtmkoegljnebdiaaGreat
namespace Go.Proofs.YtmkoegljnebdiaaGreat
open Go.RowKit Go.Shelf
set_option maxRecDepth 100000
set_option maxHeartbeats 16000000

theorem und_39q:Tryz.prog.underlying 39=some (.slice 38):=by kernel_rfl
theorem i_38q:(Tryz.prog.info? 38).map (fun i=>(i.zero,i.size,i.bytes))=some (some (stateV noSt),15,120):=by kernel_rfl
def FlyI (p:PlanetD) (v:Nat→ArcR) (s:StateD) (W:World) (qb:Nat) (k:Nat) (us ut:Value) (w:World):Prop :=
 ∃ S st sg cs ct,FlyTo p v s k S st sg∧I64W S∧LstAt 15 us cs k (stsC st)∧LstAt 16 ut ct sg.flatten.length (tbsC sg.flatten)∧Fr W [] ([(qb,36,(planetV p).cells),(qb+1,38,stA S)] ++ (lstE 38 us cs ++ lstE 58 ut ct)) w
theorem lst_slice {sz:Nat} {u:Value} {cur:Array Value} {n:Nat} {xs:List Value} (h:LstAt sz u cur n xs):∃ q m c,u=.slice q m c:=by
 rcases h.2 with ⟨rfl,_⟩ | ⟨g0,cap,rfl,_⟩ <;> exact ⟨_,_,_,rfl⟩
theorem flyL_any (p:PlanetD) (s:StateD) (A:Option Addr) (n c:Nat) (v:Nat→ArcR) (wp:WdP p) (wv:∀ i,WdA (v i).a) (ws:I64W s) (w:World) (hA:ArcsAt w w.heap.size A n v) :
  Calls Tryz.prog 7 #[planetV p,.slice A n c,stateV s] w (FlyL p n v s w):=by
 have HCK:=hZ fun w' (hb:Below w.heap.size w w')=>checkL_any p s A n c v wv w' (hA.to hb);have HAA:=hZ hA;have HWV:=hZ wv;have HWS:=hZ ws;have HST:=hZ fun (r:ArcR) s h w' (wr:WdA r.a) hs hh hT=>stepP_any p r wp wr s h hs hh w' hT;refine pQ fun PQ hPQ=>?_
 have HERR:Hid (∀ w' r,r ≠ 0→Fr w [] [] w'→PQ (.returned (.tuple #[.slice none 0 0,.slice none 0 0,.int .i64 r])) w'):=hZ fun w' r hr h=>by rw [← hPQ];exact .inl ⟨r,hr,rfl,h.toBelow⟩
 have HOK:Hid (∀ w' S st sg us cs ut ct,GoodF p n v s→FlyTo p v s n S st sg→LstAt 15 us cs n (stsC st)→LstAt 16 ut ct sg.flatten.length (tbsC sg.flatten)→Fr w [] (lstE 38 us cs ++ lstE 58 ut ct) w'→PQ (.returned (.tuple #[us,ut,.int .i64 0])) w') :=
  hZ fun w' S st sg us cs ut ct h1 h2 h3 h4 h5=>by rw [← hPQ];exact .inr ⟨S,st,sg,us,cs,ut,ct,h1,h2,rfl,h3,h4,h5⟩
 have hn63:=hA.1.1;obtain ⟨⟨mul,muh⟩,⟨rl,rh⟩,⟨ol,oh⟩,⟨sl,sh⟩,⟨⟨pxl,pxh⟩,⟨pyl,pyh⟩,⟨pzl,pzh⟩⟩⟩:=p;obtain ⟨st,⟨⟨spxl,spxh⟩,⟨spyl,spyh⟩,⟨spzl,spzh⟩⟩,⟨⟨svxl,svxh⟩,⟨svyl,svyh⟩,⟨svzl,svzh⟩⟩,⟨sml,smh⟩⟩:=s;unfold planetV stateV at HCK ⊢;dsimp only at HCK ⊢;clear hPQ hA wv wp ws;obtain ⟨qb,W0,hqb,hW0,HF0⟩:=fM (Fr.start w) [(#[mul,muh,rl,rh,ol,oh,sl,sh,pxl,pxh,pyl,pyh,pzl,pzh],36),(#[st,spxl,spxh,spyl,spyh,spzl,spzh,svxl,svxh,svyl,svyh,svzl,svzh,sml,smh],38)];go_enter Tryz.func7,Tryz.ntmps7;go_upto_region 1 with (fail);clear hW0 hqb;go_wp2_with (first
   | (refine lF (gN HF0 0) #[mul,muh,rl,rh,ol,oh,sl,sh,pxl,pxh,pyl,pyh,pzl,pzh] u_36 i_36 ?_)
   | (refine lF (gN HF0 1) #[st,spxl,spxh,spyl,spyh,spzl,spzh,svxl,svxh,svyl,svyh,svzl,svzh,sml,smh] u_38 i_38 ?_))
 refine (HCK.out _ HF0.out.toBelow).mono ?_
 rintro e wc ⟨E,rfl,hgd,hw⟩;have HF1:Hid (Fr w [] [(qb,36,iC [mul,muh,rl,rh,ol,oh,sl,sh,pxl,pxh,pyl,pyh,pzl,pzh]),(qb+1,38,iC [st,spxl,spxh,spyl,spyh,spzl,spzh,svxl,svxh,svyl,svyh,svzl,svzh,sml,smh])] wc):=hZ (HF0.out.below hw);clear hw;by_cases hE:E=0
 rotate_left
 ·have hb2:(E != 0)=true:=by simpa using hE
  clear hgd;go_wp2_with fail
  refine bodyPost_ret (results_tmp3 rfl _ _ _) rfl ?_
  exact HERR.out _ _ hE HF1.out.drop
 ·subst hE;have HGD:=hZ (hgd rfl);clear hgd;have HI0:Hid (FlyI ⟨⟨mul,muh⟩,⟨rl,rh⟩,⟨ol,oh⟩,⟨sl,sh⟩,⟨⟨pxl,pxh⟩,⟨pyl,pyh⟩,⟨pzl,pzh⟩⟩⟩ v ⟨st,⟨⟨spxl,spxh⟩,⟨spyl,spyh⟩,⟨spzl,spzh⟩⟩,⟨⟨svxl,svxh⟩,⟨svyl,svyh⟩,⟨svzl,svzh⟩⟩,⟨sml,smh⟩⟩ w qb 0 (.slice none 0 0) (.slice none 0 0) wc):=hZ ⟨_,[],[],#[],#[],⟨rfl,rfl,rfl⟩,HWS.out,LstAt.nil 15,LstAt.nil 16,HF1.out⟩;go_wp2_with fail
  go_loopw [6,7,8,21] (fun us ut ev iv wr=>ev=.int .i64 0∧∃ k:Nat,k≤n∧iv=.int .i64 k∧Hid (FlyI ⟨⟨mul,muh⟩,⟨rl,rh⟩,⟨ol,oh⟩,⟨sl,sh⟩,⟨⟨pxl,pxh⟩,⟨pyl,pyh⟩,⟨pzl,pzh⟩⟩⟩ v ⟨st,⟨⟨spxl,spxh⟩,⟨spyl,spyh⟩,⟨spzl,spzh⟩⟩,⟨⟨svxl,svxh⟩,⟨svyl,svyh⟩,⟨svzl,svzh⟩⟩,⟨sml,smh⟩⟩ w qb k us ut wr)) (fun _ _ _ iv _=>n - (intOf iv).toNat)
  case atStart=>exact ⟨rfl,0,Nat.zero_le _,rfl,HI0⟩
  case round =>
   obtain ⟨wo,rfl⟩:∃ wo:World,wo=wr:=⟨_,rfl⟩;obtain ⟨rfl,k,hk,rfl,hs⟩:=hrel;clear HI0 HF1;have h0k:(0:Int)≤(k:Int):=by omega
   obtain ⟨Sq,stl,sgl,cs,ct,hft,hws,hl1,hl2,hfr⟩:=hs.out;obtain ⟨q1,m1,k1,rfl⟩:=lst_slice hl1;obtain ⟨q2,m2,k2,rfl⟩:=lst_slice hl2;clear hs;by_cases hlt:k<n
   ·have hki:(k:Int)<(n:Int):=by omega
    obtain ⟨b,off,rfl,-,-⟩:=HAA.out.1.2 (by omega)
    have HF:Hid (Fr w [] ([(qb,36,(#[mul,muh,rl,rh,ol,oh,sl,sh,pxl,pxh,pyl,pyh,pzl,pzh]:Array Value)),(qb+1,38,stA Sq)] ++ (lstE 38 (.slice q1 m1 k1) cs ++ lstE 58 (.slice q2 m2 k2) ct)) wo):=hZ hfr;have hcs:=HAA.out.1.2 (by omega)
    have hbl:Below w.heap.size w wo:=hfr.toBelow;have hcs:=HAA.out.cells rfl hlt hfr;have hok:=HGD.out.arcs k hlt;have hlen:=fly_lens (fun i hi=>HGD.out.arcs i (by omega)) hft
    have hsum:=sum_le n HGD.out.arcs;have hsk:=hsum.1 k hlt;have hgs:=HGD.out.sum;have hcount:=count_steps (arcT_pos hok).1 (arcT_pos hok).2;have hfl:sgl.flatten.length≤4096:=by
     have h1:=hlen.2.2.1;obtain ⟨d,hd⟩:∃ d,n=k+d:=⟨n - k,by omega⟩
     have h2:=sum_mono (v:=v) (j:=k) d (by rw [← hd];exact HGD.out.arcs)
     rw [← hd] at h2;omega
    have HAL:=hZ fun (w':World) (X:List Ent) hf=>alongR_any (⟨⟨mul,muh⟩,⟨rl,rh⟩,⟨ol,oh⟩,⟨sl,sh⟩,⟨⟨pxl,pxh⟩,⟨pyl,pyh⟩,⟨pzl,pzh⟩⟩⟩) (v k).a (v k).A (v k).a.drag.length (v k).c Sq (stepP (⟨⟨mul,muh⟩,⟨rl,rh⟩,⟨ol,oh⟩,⟨sl,sh⟩,⟨⟨pxl,pxh⟩,⟨pyl,pyh⟩,⟨pzl,pzh⟩⟩⟩) (v k)) w (fun s h w' hb hs hh=>HST.out (v k) s h w' (HWV.out k) hs hh ((HAA.out.2 k hlt).to hb)) (fun s h _=>wd_stepP (⟨⟨mul,muh⟩,⟨rl,rh⟩,⟨ol,oh⟩,⟨sl,sh⟩,⟨⟨pxl,pxh⟩,⟨pyl,pyh⟩,⟨pzl,pzh⟩⟩⟩) (v k) s h) hws (by omega) (arcT_pos hok).1 (arcT_pos hok).2 (HWV.out k).time (HWV.out k).step (w:=w') (X:=X) (by omega:sgl.flatten.length≤60000) hl2 hf
    obtain ⟨⟨⟨S1,tb⟩,e1⟩,hrun⟩:=eX (runS (stepP (⟨⟨mul,muh⟩,⟨rl,rh⟩,⟨ol,oh⟩,⟨sl,sh⟩,⟨⟨pxl,pxh⟩,⟨pyl,pyh⟩,⟨pzl,pzh⟩⟩⟩) (v k)) Sq (lensL (v k).a));rw [hrun] at HAL;have hwd1:e1=0→WdS S1.m:=fun he=>by
     have:=runS_wd hws (fun s h _=>wd_stepP (⟨⟨mul,muh⟩,⟨rl,rh⟩,⟨ol,oh⟩,⟨sl,sh⟩,⟨⟨pxl,pxh⟩,⟨pyl,pyh⟩,⟨pzl,pzh⟩⟩⟩) (v k) s h) (lensL (v k).a) (by rw [hrun];exact he)
     rw [hrun] at this;exact this.2.2.2
    have HSU:=hZ fun (he:e1=0) w=>sub_any S1.m (v k).a.drop (hwd1 he) (HWV.out k).drop w;obtain ⟨⟨⟨ml,mh⟩,e2⟩,hsub⟩:=eX (subB S1.m (v k).a.drop);rw [hsub] at HSU;have HNX:Hid (e1=0→e2=0→0<ml→FlyTo (⟨⟨mul,muh⟩,⟨rl,rh⟩,⟨ol,oh⟩,⟨sl,sh⟩,⟨⟨pxl,pxh⟩,⟨pyl,pyh⟩,⟨pzl,pzh⟩⟩⟩) v (⟨st,⟨⟨spxl,spxh⟩,⟨spyl,spyh⟩,⟨spzl,spzh⟩⟩,⟨⟨svxl,svxh⟩,⟨svyl,svyh⟩,⟨svzl,svzh⟩⟩,⟨sml,smh⟩⟩) (k+1) ⟨S1.t,S1.p,S1.v,⟨ml,mh⟩⟩ (stl ++ [⟨S1.t,S1.p,S1.v,⟨ml,mh⟩⟩]) (sgl ++ [tb])∧I64W ⟨S1.t,S1.p,S1.v,⟨ml,mh⟩⟩):=hZ fun he1 he2 hml=>by
     subst he1 he2;have hw1:=runS_wd hws (fun s h _=>wd_stepP (⟨⟨mul,muh⟩,⟨rl,rh⟩,⟨ol,oh⟩,⟨sl,sh⟩,⟨⟨pxl,pxh⟩,⟨pyl,pyh⟩,⟨pzl,pzh⟩⟩⟩) (v k) s h) (lensL (v k).a) (congrArg Prod.snd hrun);rw [hrun] at hw1;have hwm:WdS (⟨ml,mh⟩:SpanD):=by have:=wd_sub S1.m (v k).a.drop;rwa [hsub] at this
     exact ⟨⟨Sq,stl,sgl,S1,tb,⟨ml,mh⟩,hft,hrun,hsub,hml,rfl,rfl,rfl⟩,hw1.1,hw1.2.1,hw1.2.2.1,hwm⟩
    unfold AlongQ at HAL;have HBN:Hid (k≤65536):=hZ (by have:=HGD.out.len;omega)
    have HL1:=hZ hl1;obtain ⟨⟨⟨time,step,⟨tl,th⟩,⟨fl,fh⟩,⟨⟨dxl,dxh⟩,⟨dyl,dyh⟩,⟨dzl,dzh⟩⟩,drag,⟨dl,dh⟩⟩,A1,c1⟩,hvk⟩:=eX (v k);simp only [hvk] at hcs HAL HSU;dsimp only [arcA] at hcs HAL HSU;obtain ⟨n1,hn1⟩:=eX drag.length;rw [hn1] at hcs;have HCX:=hZ hcs;obtain ⟨qt,⟨⟨qpxl,qpxh⟩,⟨qpyl,qpyh⟩,⟨qpzl,qpzh⟩⟩,⟨⟨qvxl,qvxh⟩,⟨qvyl,qvyh⟩,⟨qvzl,qvzh⟩⟩,⟨qml,qmh⟩⟩:=Sq;obtain ⟨rt,⟨⟨rpxl,rpxh⟩,⟨rpyl,rpyh⟩,⟨rpzl,rpzh⟩⟩,⟨⟨rvxl,rvxh⟩,⟨rvyl,rvyh⟩,⟨rvzl,rvzh⟩⟩,⟨rml,rmh⟩⟩:=S1;unfold planetV arcV stateV at HAL;dsimp only at HAL;rw [hn1] at HAL;unfold SpPost spanV at HSU;dsimp only at HSU HNX;clear hcs hbl hok hlen hsum hsk hgs hcount hfl hrun hwd1 hsub hvk hn1 hft hws hl1 hl2 hfr;replace HF:Hid (Fr w [] ([(qb,36,iC [mul,muh,rl,rh,ol,oh,sl,sh,pxl,pxh,pyl,pyh,pzl,pzh]),(qb+1,38,iC [qt,qpxl,qpxh,qpyl,qpyh,qpzl,qpzh,qvxl,qvxh,qvyl,qvyh,qvzl,qvzh,qml,qmh])] ++ (lstE 38 (.slice q1 m1 k1) cs ++ lstE 58 (.slice q2 m2 k2) ct)) wo):=HF;obtain ⟨g2,w2,hg2,hw2,HF3⟩:=fAT HF.out #[(0:Int),(0:Int),(0:Int),(0:Int),(0:Int),(0:Int),(0:Int),(0:Int),(0:Int),(0:Int),(0:Int),(0:Int),.slice none 0 0,(0:Int),(0:Int)] 46;go_wp2_with (first
      | (refine wpLoadAt rfl 46 _ rfl b (off+k * 15) rfl #[time,step,tl,th,fl,fh,dxl,dxh,dyl,dyh,dzl,dzh,.slice A1 n1 c1,dl,dh] _ HCX.out u_46 rfl i_46 ?_)
      | (refine lF (gN HF5 0) #[mul,muh,rl,rh,ol,oh,sl,sh,pxl,pxh,pyl,pyh,pzl,pzh] u_36 i_36 ?_)
      | (refine lF (gN HF5 2) #[time,step,tl,th,fl,fh,dxl,dxh,dyl,dyh,dzl,dzh,.slice A1 n1 c1,dl,dh] u_46 i_46 ?_)
      | (refine lF (gN HF5 1) #[qt,qpxl,qpxh,qpyl,qpyh,qpzl,qpzh,qvxl,qvxh,qvyl,qvyh,qvzl,qvzh,qml,qmh] u_38 i_38 ?_)
      | (refine wpStoreF rfl rfl 46 _ _ rfl g2 0 rfl #[time,step,tl,th,fl,fh,dxl,dxh,dyl,dyh,dzl,dzh,.slice A1 n1 c1,dl,dh] rfl _ _ #[time,step,tl,th,fl,fh,dxl,dxh,dyl,dyh,dzl,dzh,.slice A1 n1 c1,dl,dh] (HF3.out.get 2 rfl) rfl (by show 0+15≤15;omega) (one_all rfl) i_46 ?_;intro w4 hk ho;clear hw2 hg2;have HF5:=fNT (HF3.out.only 2 rfl ho hk);clear ho hk))
    have hfx:Fr w [] (lstE 58 (.slice q2 m2 k2) ct ++ ([(qb,36,iC [mul,muh,rl,rh,ol,oh,sl,sh,pxl,pxh,pyl,pyh,pzl,pzh]),(qb+1,38,iC [qt,qpxl,qpxh,qpyl,qpyh,qpzl,qpzh,qvxl,qvxh,qvyl,qvyh,qvzl,qvzh,qml,qmh]),(g2,46,(#[time,step,tl,th,fl,fh,dxl,dxh,dyl,dyh,dzl,dzh,.slice A1 n1 c1,dl,dh]:Array Value))] ++ lstE 38 (.slice q1 m1 k1) cs)) w4:=HF5.out.perm (by rw [← List.append_assoc];exact List.perm_append_comm)
    refine (HAL.out _ _ hfx).mono ?_
    rintro e wa ⟨u,cur,rfl,hy,hn⟩;clear hfx;by_cases he1:e1=0
    rotate_left
    ·have hb2:(e1 == 0)=false:=by simpa using he1
     have hb3:(e1 != 0)=true:=by simpa using he1
     have HE:=hZ he1;have HFE:=hZ (hn he1);clear hy hn he1;go_wp2_with (refine wpStoreF rfl rfl 38 _ _ rfl (qb+1) 0 rfl #[rt,rpxl,rpxh,rpyl,rpyh,rpzl,rpzh,rvxl,rvxh,rvyl,rvyh,rvzl,rvzh,rml,rmh] rfl _ _ (iC [rt,rpxl,rpxh,rpyl,rpyh,rpzl,rpzh,rvxl,rvxh,rvyl,rvyh,rvzl,rvzh,rml,rmh]) (HFE.out.get 1 rfl) rfl (by show 0+15≤15;omega) (one_all rfl) i_38 ?_;intro w6 hk ho;have HF7:=fNT (HFE.out.only 1 rfl ho hk);clear ho hk)
     refine bodyPost_ret (results_tmp3 rfl _ _ _) rfl ?_
     exact HERR.out _ _ HE.out HF7.out.drop
    ·subst he1;obtain ⟨hl2',hf2'⟩:=hy rfl;obtain ⟨q3,m3,k3,rfl⟩:=lst_slice hl2';have HL2:=hZ hl2';have HSU1:=hZ (HSU.out rfl);have HFA:Hid (Fr w [] ([(qb,36,iC [mul,muh,rl,rh,ol,oh,sl,sh,pxl,pxh,pyl,pyh,pzl,pzh]),(qb+1,38,iC [qt,qpxl,qpxh,qpyl,qpyh,qpzl,qpzh,qvxl,qvxh,qvyl,qvyh,qvzl,qvzh,qml,qmh]),(g2,46,(#[time,step,tl,th,fl,fh,dxl,dxh,dyl,dyh,dzl,dzh,.slice A1 n1 c1,dl,dh]:Array Value))] ++ (lstE 38 (.slice q1 m1 k1) cs ++ lstE 58 (.slice q3 m3 k3) cur)) wa):=hZ (hf2'.perm (List.perm_append_comm.trans (by rw [List.append_assoc])))
     clear hy hn hl2' hf2' HSU;go_wp2_with (first
       | (refine lS (gN HF7 1) rml rmh ?_)
       | (refine lS (gN HF7 2) dl dh ?_)
       | (refine wpStoreF rfl rfl 38 _ _ rfl (qb+1) 0 rfl #[rt,rpxl,rpxh,rpyl,rpyh,rpzl,rpzh,rvxl,rvxh,rvyl,rvyh,rvzl,rvzh,rml,rmh] rfl _ _ (iC [rt,rpxl,rpxh,rpyl,rpyh,rpzl,rpzh,rvxl,rvxh,rvyl,rvyh,rvzl,rvzh,rml,rmh]) (HFA.out.get 1 rfl) rfl (by show 0+15≤15;omega) (one_all rfl) i_38 ?_;intro w6 hk ho;have HF7:=fNT (HFA.out.only 1 rfl ho hk);clear ho hk))
     refine mB HF7.out (HSU1.out _) fun w8 HF9=>?_;by_cases he2:e2=0
     rotate_left
     ·have hb2:(e2 == 0)=false:=by simpa using he2
      have hb3:(e2 != 0)=true:=by simpa using he2
      have HE:=hZ he2;clear he2;go_wp2_with (refine wpStoreF rfl rfl 31 _ _ rfl (qb+1) 13 rfl #[ml,mh] rfl _ _ (iC [rt,rpxl,rpxh,rpyl,rpyh,rpzl,rpzh,rvxl,rvxh,rvyl,rvyh,rvzl,rvzh,ml,mh]) (HF9.out.get 1 rfl) rfl (by show 13+2≤15;omega) (one_all rfl) i_span ?_;intro w10 hk ho;have HF11:=fNT (HF9.out.only 1 rfl ho hk);clear ho hk)
      refine bodyPost_ret (results_tmp3 rfl _ _ _) rfl ?_
      exact HERR.out _ _ HE.out HF11.out.drop
     ·subst he2;by_cases hml:ml≤0
      ·have hg:decide (ml≤0)=true:=decide_eq_true hml;clear hml;go_wp2_with (refine wpStoreF rfl rfl 31 _ _ rfl (qb+1) 13 rfl #[ml,mh] rfl _ _ (iC [rt,rpxl,rpxh,rpyl,rpyh,rpzl,rpzh,rvxl,rvxh,rvyl,rvyh,rvzl,rvzh,ml,mh]) (HF9.out.get 1 rfl) rfl (by show 13+2≤15;omega) (one_all rfl) i_span ?_;intro w10 hk ho;have HF11:=fNT (HF9.out.only 1 rfl ho hk);clear ho hk;have c12:=cA (gN HF11 1) 13)
       clear c12;refine bodyPost_ret (results_tmp3 rfl _ _ _) rfl ?_
       exact HERR.out _ _ (by decide) HF11.out.drop
      ·have hg:decide (ml≤0)=false:=decide_eq_false hml;have HN2:=hZ (HNX.out (by first | trivial | rfl) (by first | trivial | rfl) (by omega))
       clear hml HNX;go_wp2_with (first
         | (refine lF (gN HF11 1) #[rt,rpxl,rpxh,rpyl,rpyh,rpzl,rpzh,rvxl,rvxh,rvyl,rvyh,rvzl,rvzh,ml,mh] u_38 i_38 ?_)
         | (refine wpStoreF rfl rfl 31 _ _ rfl (qb+1) 13 rfl #[ml,mh] rfl _ _ (iC [rt,rpxl,rpxh,rpyl,rpyh,rpzl,rpzh,rvxl,rvxh,rvyl,rvyh,rvzl,rvzh,ml,mh]) (HF9.out.get 1 rfl) rfl (by show 13+2≤15;omega) (one_all rfl) i_span ?_;intro w10 hk ho;have HF11:=fNT (HF9.out.only 1 rfl ho hk);clear ho hk;have c12:=cA (gN HF11 1) 13;obtain ⟨g13,w13,hg13,hw13,HF14⟩:=fAT HF11.out #[rt,rpxl,rpxh,rpyl,rpyh,rpzl,rpzh,rvxl,rvxh,rvyl,rvyh,rvzl,rvzh,ml,mh] 38)
         | (refine wpList_push (e:=38) (v:=.slice q1 m1 k1) (cur:=cs) (n:=k) (xs:=stsC stl) (Y:=lstE 58 (.slice q3 m3 k3) cur) (N:=[(qb,36,iC [mul,muh,rl,rh,ol,oh,sl,sh,pxl,pxh,pyl,pyh,pzl,pzh]),(qb+1,38,iC [rt,rpxl,rpxh,rpyl,rpyh,rpzl,rpzh,rvxl,rvxh,rvyl,rvyh,rvzl,rvzh,ml,mh]),(g2,46,#[time,step,tl,th,fl,fh,dxl,dxh,dyl,dyh,dzl,dzh,.slice A1 n1 c1,dl,dh]),(g13,38,iC [rt,rpxl,rpxh,rpyl,rpyh,rpzl,rpzh,rvxl,rvxh,rvyl,rvyh,rvzl,rvzh,ml,mh])]) rfl (.tmp 56) (.tmp 58) 39 rfl HF14.out HL1.out und_39q i_38q rfl (by decide) (by decide) HBN.out g13 1 #[rt,rpxl,rpxh,rpyl,rpyh,rpzl,rpzh,rvxl,rvxh,rvyl,rvyh,rvzl,rvzh,ml,mh] 38 rfl rfl (HF14.out.get 3 rfl) rfl rfl ?_;intro v' w' cur' h2 h3;have HP:=hZ (And.intro h2 h3);clear h2 h3))
       clear c12 hw13 hg13;go_roundw
       case rel =>
        refine ⟨rfl,k+1,by omega,by go_num,hZ ⟨_,_,_,cur',cur,HN2.out.1,HN2.out.2,?_,?_,?_⟩⟩
        ·have e:=HP.out.1;unfold stsC at e ⊢;rw [List.flatMap_append];exact e
        ·have e:=HL2.out;unfold tbsC at e ⊢;rw [List.flatten_append,List.flatMap_append,List.length_append,List.flatten_cons,List.flatten_nil,List.append_nil];exact e
        ·exact HP.out.2.sub ((List.sublist_append_left [_,_] _).append_right _)
       case measure=>simp [intOf];omega
   ·obtain rfl:n=k:=by omega
    have hki:¬ (n:Int)<(n:Int):=by omega
    have HFT:=hZ hft;have HL1:=hZ hl1;have HL2:=hZ hl2;have HFR:=hZ hfr;clear hft hws hl1 hl2 hfr;go_wp2_with fail
    refine bodyPost_ret (results_tmp3 rfl _ _ _) rfl ?_
    exact HOK.out _ _ _ _ _ _ _ _ HGD.out HFT.out HL1.out HL2.out (HFR.out.sub (List.sublist_append_right _ _))
end Go.Proofs.YtmkoegljnebdiaaGreat
namespace Go.Proofs.YtmkoegljnebdiaaGreat
open Go.RowKit
set_option maxRecDepth 100000
set_option maxHeartbeats 16000000

def heightM (p:PlanetD) (b:BoxD):CM SpanD:=(normM b).bnd fun n=>subM n p.radius
def heightF (p:PlanetD) (b:BoxD):SpanD × Int:=if (planetB p && chkBox b)=true then heightM p b 0 else (zeroS,2)
theorem height_any (p:PlanetD) (b:BoxD) (hr:WdS p.radius) (hb:WdB b) (w:World) :
  Calls Tryz.prog 19 #[planetV p,boxV b] w fun e w'=>e=.returned (.tuple #[spanV (heightF p b).1,.int .i64 (heightF p b).2])∧Below w.heap.size w w':=by
 have HCP:=hZ (fun w=>checkPlanet_any p w);have HCB:=hZ (fun w g hk=>boxes1_any b w g 34 hk);have HNO:=hZ (fun cb w hk=>cnorm_any cb 0 b hb w hk);obtain ⟨⟨n,e1⟩,hn⟩:=eX (normM b 0);have wn:WdS (normM b 0).1:=wd_keep (wd_norm _) 0;rw [hn] at HNO wn;have HSU:=hZ (fun cb w hk=>csub_any cb e1 n p.radius wn hr w hk);obtain ⟨⟨r,e2⟩,hs⟩:=eX (subM n p.radius e1);rw [hs] at HSU;refine pQ fun PQ hPQ=>?_
 have HFIN:Hid (∀ w' v k,heightF p b=(v,k)→Fr w [] [] w'→PQ (.returned (.tuple #[spanV v,.int .i64 k])) w'):=hZ fun w' v k hr h=>by rw [← hPQ,hr];exact ⟨rfl,h.toBelow⟩
 have hh:heightM p b 0=(r,e2):=by
  unfold heightM CM.bnd;simp only [hn,hs]
 unfold heightF at HFIN;rw [hh] at HFIN;obtain ⟨bp,hbp⟩:=eX (planetB p);obtain ⟨bb,hbb⟩:=eX (chkBox b);rw [hbp] at HCP HFIN;rw [hbb] at HCB HFIN;obtain ⟨⟨mul,muh⟩,⟨rl,rh⟩,⟨ol,oh⟩,⟨sl,sh⟩,⟨⟨pxl,pxh⟩,⟨pyl,pyh⟩,⟨pzl,pzh⟩⟩⟩:=p;obtain ⟨⟨axl,axh⟩,⟨ayl,ayh⟩,⟨azl,azh⟩⟩:=b;obtain ⟨nl,nh⟩:=n;obtain ⟨ul,uh⟩:=r;unfold CkPost boxV spanV at HNO;unfold CkPost spanV at HSU;unfold planetV at HCP ⊢;unfold boxV;dsimp only at HNO HSU HCP HCB ⊢;clear hPQ hh hn hs hbp hbb hr hb wn;cases bp with
 | false =>
  simp only [Bool.false_eq_true,if_false] at HCP;obtain ⟨qb,W0,hqb,hW0,HF0⟩:=fM (Fr.start w) [(#[mul,muh,rl,rh,ol,oh,sl,sh,pxl,pxh,pyl,pyh,pzl,pzh],36),(#[axl,axh,ayl,ayh,azl,azh],34),(#[.int .i64 0,.int .i64 0],31)];go_enter Tryz.func19,Tryz.ntmps19;go_upto_region 1 with (fail);clear hW0 hqb;go_wp2_with (refine lF (gN HF0 0) #[mul,muh,rl,rh,ol,oh,sl,sh,pxl,pxh,pyl,pyh,pzl,pzh] u_36 i_36 ?_)
  refine mB HF0.out (HCP.out _) fun w1 HF2=>?_;go_wp2_with (refine sW 2 HF2.out i_span fun w3 HF4=>?_)
  refine ret_agg2 rfl rfl rfl (HF4.out.get 2 rfl) rfl u_span rfl i_span ?_
  exact HFIN.out _ zeroS 2 (by simp) HF4.out.drop
 | true =>
  simp only [if_true] at HCP;cases bb with
  | false =>
   obtain ⟨qb,W0,hqb,hW0,HF0⟩:=fM (Fr.start w) [(#[mul,muh,rl,rh,ol,oh,sl,sh,pxl,pxh,pyl,pyh,pzl,pzh],36),(#[axl,axh,ayl,ayh,azl,azh],34),(#[.int .i64 0,.int .i64 0],31)];go_enter Tryz.func19,Tryz.ntmps19;go_upto_region 1 with (fail);clear hW0 hqb;go_wp2_with (refine lF (gN HF0 0) #[mul,muh,rl,rh,ol,oh,sl,sh,pxl,pxh,pyl,pyh,pzl,pzh] u_36 i_36 ?_)
   refine mB HF0.out (HCP.out _) fun w1 HF2=>?_;obtain ⟨g3,w3,hg3,hw3,HF4⟩:=fA HF2.out #[axl,axh,ayl,ayh,azl,azh] 34;go_wp2_with (refine wpLoadFG rfl 34 _ rfl (qb+1) 0 rfl _ _ (HF2.out.get 1 rfl) #[axl,axh,ayl,ayh,azl,azh] rfl _ u_34 rfl i_34 ?_)
   clear hw3 hg3;refine mB HF4.out (HCB.out _ g3 (HF4.out.get 3 rfl)) fun w5 HF6=>?_;go_wp2_with (refine sW 2 HF6.out i_span fun w7 HF8=>?_)
   refine ret_agg2 rfl rfl rfl (HF8.out.get 2 rfl) rfl u_span rfl i_span ?_
   exact HFIN.out _ zeroS 2 (by simp) HF8.out.drop
  | true =>
   obtain ⟨qb,W0,hqb,hW0,HF0⟩:=fM (Fr.start w) [(#[mul,muh,rl,rh,ol,oh,sl,sh,pxl,pxh,pyl,pyh,pzl,pzh],36),(#[axl,axh,ayl,ayh,azl,azh],34),(#[.int .i64 0,.int .i64 0],31)];go_enter Tryz.func19,Tryz.ntmps19;go_upto_region 1 with (fail);clear hW0 hqb;go_wp2_with (refine lF (gN HF0 0) #[mul,muh,rl,rh,ol,oh,sl,sh,pxl,pxh,pyl,pyh,pzl,pzh] u_36 i_36 ?_)
   refine mB HF0.out (HCP.out _) fun w1 HF2=>?_;obtain ⟨g3,w3,hg3,hw3,HF4⟩:=fA HF2.out #[axl,axh,ayl,ayh,azl,azh] 34;go_wp2_with (refine wpLoadFG rfl 34 _ rfl (qb+1) 0 rfl _ _ (HF2.out.get 1 rfl) #[axl,axh,ayl,ayh,azl,azh] rfl _ u_34 rfl i_34 ?_)
   clear hw3 hg3;refine mB HF4.out (HCB.out _ g3 (HF4.out.get 3 rfl)) fun w5 HF6=>?_;obtain ⟨g7,w7,hg7,hw7,HF8⟩:=fA HF6.out #[.int .i64 0] 153;go_upto_region 4 with (fail);clear hw7 hg7;refine wrf [.p,.p,.p,.c 0,.p,.p,.c 1,.a 0,.c 2] [3,6,8] [(7,31,fun k=>(if k≤2 then iC [0,0] else iC [ul,uh]))] (fun _=>[]) (fun k=>[(qb,36,iC [mul,muh,rl,rh,ol,oh,sl,sh,pxl,pxh,pyl,pyh,pzl,pzh]),(qb+1,34,iC [axl,axh,ayl,ayh,azl,azh]),(qb+1+1,31,iC [0,0]),(g3,34,iC [axl,axh,ayl,ayh,azl,azh]),(g7,153,#[(match k with | 0=>.int .i64 0 | 1=>.int .i64 e1 | 2=>.int .i64 e2 | _=>.int .i64 e2)])]) (fun ix u _=>match ix with
       | 0=>u=.pointer (some ⟨g7,0,none⟩)
       | 1=>u=.pointer (some ⟨g7,0,none⟩)
       | 2=>u=.agg #[axl,axh,ayl,ayh,azl,azh]
       | 3=>u=.agg #[nl,nh]
       | 4=>u=.pointer (some ⟨qb,2,none⟩)
       | 5=>u=.agg #[rl,rh]
       | 6=>u=.agg #[ul,uh]
       | 7=>u=.pointer (some ⟨gOf u,0,none⟩)
       | _=>True) [7] HF8.out ?_ ?_
   ·refine ⟨?_,?_,?_,?_,?_,?_,?_,?_,?_,trivial⟩
    all_goals intro a w1 vs dn k K S hpre KE DE kk
    ·have e6:=KE 6;go_simp;exact kk _ _
    ·have e6:=KE 6;go_simp;exact kk _ _
    ·exact oL (eT (KE 3)) (S.fr.left.get 1 rfl) u_34 (kk _ _) i_34
    ·subst hpre;have e21:=dep (DE 1 21);have e22:=dep (DE 2 22);exact oD rfl (HNO.out g7 w1 (S.fr.left.get 4 rfl)) (by simp [Act.eval,e21,e22]) fun w' hb=>kk _ _ (by simp) (Fr.stage (S.fr.turn 4 rfl hb) (by exact ⟨rfl,trivial⟩))
    ·have e2:=KE 2;go_simp;exact kk _ _
    ·exact oM (eT (dep (DE 4 24))) (S.fr.left.get 0 rfl) (kk _ _)
    ·subst hpre;have e20:=dep (DE 0 20);have e23:=dep (DE 3 23);have e25:=dep (DE 5 25);exact oD rfl (HSU.out g7 w1 (S.fr.left.get 4 rfl)) (by simp [Act.eval,e20,e23,e25]) fun w' hb=>kk _ _ (by simp) (Fr.stage (S.fr.turn 4 rfl hb) (by exact ⟨rfl,trivial⟩))
    ·go_simp;exact kk _ _ (by simp) (by have h:=S.fr.alloc rfl 31 #[.int .i64 0,.int .i64 0];show Fr _ _ (_ ++ [(_,31,if k≤2 then _ else _)]) _;rw [if_pos (S.hi 2 8 rfl rfl)];exact h) rfl
    ·subst hpre;have e7:=dep (DE 7 7);have e26:=dep (DE 6 26);have HS:=Fr.done S.fr (by exact ⟨S.done 7 rfl,trivial⟩)
     exact oW (eT e7) (eT e26) (HS.get 5 rfl) i_span fun w' hk ho=>kk _ _ (by simp) (Fr.undone (HS.only 5 rfl ho hk) (by exact ⟨S.done 7 rfl,trivial⟩)) trivial
   ·intro vs wf HFr HR;have HFr':Fr w [] [(qb,36,iC [mul,muh,rl,rh,ol,oh,sl,sh,pxl,pxh,pyl,pyh,pzl,pzh]),(qb+1,34,iC [axl,axh,ayl,ayh,azl,azh]),(qb+1+1,31,iC [0,0]),(g3,34,iC [axl,axh,ayl,ayh,azl,azh]),(g7,153,iC [e2]),((gOf (vs 7)),31,iC [ul,uh])] wf:=HFr;have v7:vs 7=.pointer (some ⟨(gOf (vs 7)),0,none⟩):=HR 7 _ rfl;clear HFr HR;obtain ⟨g9_7,hg9_7⟩:=eX (gOf (vs 7));rw [hg9_7] at HFr';rw [hg9_7] at v7;clear hg9_7;have HF9:=hZ HFr';clear HFr';simp only [putAll,Act.put,List.setIfInBounds_toArray,List.set_cons_zero,List.set_cons_succ];simp only [v7];clear v7;obtain ⟨w9,rfl⟩:∃ u:World,u=wf:=⟨_,rfl⟩;go_upto_region 5 with (fail);refine wrf [.p,.p,.p,.p,.p,.c 0,.p] [5] [] (fun _=>[]) (fun k=>[(qb,36,iC [mul,muh,rl,rh,ol,oh,sl,sh,pxl,pxh,pyl,pyh,pzl,pzh]),(qb+1,34,iC [axl,axh,ayl,ayh,azl,azh]),(qb+1+1,31,(if k≤0 then iC [0,0] else iC [ul,uh])),(g3,34,iC [axl,axh,ayl,ayh,azl,azh]),(g7,153,iC [e2]),(g9_7,31,iC [ul,uh])]) (rM [(0,.agg #[ul,uh]),(1,.pointer (some ⟨g7,0,none⟩)),(2,.pointer (some ⟨g7,0,none⟩)),(3,.pointer (some ⟨g7,0,none⟩)),(4,.int .i64 e2),(6,.int .i64 e2)]) [] HF9.out ?_ ?_
    ·refine ⟨?_,?_,?_,?_,?_,?_,?_,trivial⟩
     all_goals intro a w1 vs dn k K S hpre KE DE kk
     ·exact oM (eT (KE 7)) (S.fr.left.get 5 rfl) (kk _ _)
     ·have e6:=KE 6;go_simp;exact kk _ _
     ·have e28:=dep (DE 1 28);go_simp;exact kk _ _
     ·have e29:=dep (DE 2 29);go_simp;exact kk _ _
     ·have e30:=dep (DE 3 30);have ca:w1.cell? ⟨g7,0,none⟩=some (.int .i64 e2):=(S.fr.left.get 4 rfl).cell 0;go_simp;exact kk _ _
     ·subst hpre;exact oW (eT (KE 4)) (eT (dep (DE 0 27))) (gI (S.hi 0 5 rfl rfl) (S.fr.left.get 2 rfl)) i_span fun w' hk ho=>kk _ _ (by simp) (Fr.stage (S.fr.only 2 rfl ho hk) (by exact trivial))
     ·have e31:=dep (DE 4 31);go_simp;exact kk _ _
    ·intro vs w10 HFr HR;have v6:vs 6=.int .i64 e2:=HR 6 _ rfl;have HF10:=fW HFr;clear HFr HR;simp only [putAll,Act.put,List.setIfInBounds_toArray,List.set_cons_zero,List.set_cons_succ,v6];clear v6;go_wp2_with fail
     refine ret_agg2 rfl rfl rfl (HF10.out.get 2 rfl) rfl u_span rfl i_span ?_
     exact HFIN.out _ ⟨ul,uh⟩ e2 (by simp) HF10.out.drop
theorem valid90_any (n:Int) (w:World):Calls Tryz.prog 90 #[.int .i64 n] w fun e w'=>e=.returned (.bool (numB n))∧w'=w:=by
 have HR:Hid (numB n=decide (-9223372036854775807≤n)):=hZ rfl;go_enter Tryz.func90,Tryz.ntmps90;go_wp2_with fail
 go_ret
 exact ⟨ret_bool HR.out.symm,rfl⟩
def stOf (t:TubeD):StateD:=⟨t.frm,t.p,t.v,t.m⟩
def tubeB (t:TubeD):Bool:=numB t.to && (decide (t.frm≤t.to) && stateB (stOf t))
theorem state108_any (t:TubeD) (w:World):Calls Tryz.prog 108 #[tubeV t] w fun e w'=>e=.returned (stateV (stOf t))∧Below w.heap.size w w':=by
 obtain ⟨tf,tg,⟨⟨axl,axh⟩,⟨ayl,ayh⟩,⟨azl,azh⟩⟩,⟨⟨bxl,bxh⟩,⟨byl,byh⟩,⟨bzl,bzh⟩⟩,⟨ml,mh⟩⟩:=t;unfold tubeV stOf stateV;dsimp only;refine pQ fun PQ hPQ=>?_
 have HFIN:Hid (∀ w',Fr w [] [] w'→PQ (.returned (.agg #[tf,axl,axh,ayl,ayh,azl,azh,bxl,bxh,byl,byh,bzl,bzh,ml,mh])) w'):=hZ fun w' h=>by rw [← hPQ];exact ⟨rfl,h.toBelow⟩
 clear hPQ;obtain ⟨qb,W0,hqb,hW0,HF0⟩:=fM (Fr.start w) [(#[tf,tg,axl,axh,ayl,ayh,azl,azh,bxl,bxh,byl,byh,bzl,bzh,ml,mh],58),(#[(0:Int),(0:Int),(0:Int),(0:Int),(0:Int),(0:Int),(0:Int),(0:Int),(0:Int),(0:Int),(0:Int),(0:Int),(0:Int),(0:Int),(0:Int)],38)];go_enter Tryz.func108,Tryz.ntmps108;go_upto_region 1 with (fail);clear hW0 hqb;have c1:W0.cell? ⟨qb,0,none⟩=some (.int .i64 tf):=(HF0.out.get 0 rfl).cell 0;go_wp2_with (first
   | (refine lF (gN HF0 0) #[axl,axh,ayl,ayh,azl,azh] u_34 i_34 ?_)
   | (refine lF (gN HF0 0) #[bxl,bxh,byl,byh,bzl,bzh] u_34 i_34 ?_)
   | (refine lS (gN HF0 0) ml mh ?_)
   | (refine sW 1 HF0.out i_38 fun w2 HF3=>?_;clear c1))
 refine ret_agg rfl rfl rfl (HF3.out.get 1 rfl) u_38 rfl i_38 ?_
 exact HFIN.out _ HF3.out.drop
theorem checkTube54_any (t:TubeD) (w:World):Calls Tryz.prog 54 #[tubeV t] w fun e w'=>e=.returned (.int .i64 (if tubeB t=true then 0 else 2))∧Below w.heap.size w w':=by
 have HV:=hZ fun w=>valid90_any t.to w;have HST:=hZ fun w=>state108_any t w;have HCS:=hZ fun w=>checkState_any (stOf t) w;refine pQ fun PQ hPQ=>?_
 have HFIN:Hid (∀ w' r,(if tubeB t=true then (0:Int) else 2)=r→Fr w [] [] w'→PQ (.returned (.int .i64 r)) w'):=hZ fun w' r hr h=>by rw [← hPQ];exact ⟨by rw [hr],h.toBelow⟩
 unfold tubeB at HFIN;obtain ⟨rv,hrv⟩:=eX (numB t.to);obtain ⟨rs,hrs⟩:=eX (stateB (stOf t));rw [hrv] at HV HFIN;rw [hrs] at HCS HFIN;obtain ⟨tf,tg,⟨⟨axl,axh⟩,⟨ayl,ayh⟩,⟨azl,azh⟩⟩,⟨⟨bxl,bxh⟩,⟨byl,byh⟩,⟨bzl,bzh⟩⟩,⟨ml,mh⟩⟩:=t;unfold tubeV stOf stateV at HST;unfold stOf stateV at HCS;unfold tubeV;dsimp only at HV HST HCS HFIN ⊢;clear hPQ hrv hrs;obtain ⟨qb,W0,hqb,hW0,HF0⟩:=fM (Fr.start w) [(#[tf,tg,axl,axh,ayl,ayh,azl,azh,bxl,bxh,byl,byh,bzl,bzh,ml,mh],58)];go_enter Tryz.func54,Tryz.ntmps54;go_upto_region 1 with (fail);clear hW0 hqb;have c1:W0.cell? ⟨qb,1,none⟩=some (.int .i64 tg):=(HF0.out.get 0 rfl).cell 1;go_wp2_with fail
 clear c1;refine (HV.out _).mono ?_
 rintro e w2 ⟨rfl,hw⟩;rw [hw];clear hw w2;cases rv with
 | false =>
  go_wp2_with fail
  exact HFIN.out _ 2 (by simp) HF0.out.drop
 | true =>
  by_cases hle:tf≤tg
  ·have g1:decide (tf≤tg)=true:=decide_eq_true hle;have g2:¬ tg<tf:=by omega
   have g3:decide (tg<tf)=false:=decide_eq_false g2;rw [g1] at HFIN;clear hle g1;have c3:W0.cell? ⟨qb,0,none⟩=some (.int .i64 tf):=(HF0.out.get 0 rfl).cell 0;have c4:W0.cell? ⟨qb,1,none⟩=some (.int .i64 tg):=(HF0.out.get 0 rfl).cell 1;go_wp2_with (refine lF (gN HF0 0) #[tf,tg,axl,axh,ayl,ayh,azl,azh,bxl,bxh,byl,byh,bzl,bzh,ml,mh] u_58 i_58 ?_)
   clear c3 c4;refine mB HF0.out (HST.out _) fun w5 HF6=>?_;go_wp2_with fail
   cases rs with
   | false =>
    simp only [Bool.false_eq_true,if_false] at HCS;refine mB HF6.out (HCS.out _) fun w7 HF8=>?_;go_wp2_with fail
    exact HFIN.out _ _ (by simp) HF8.out.drop
   | true =>
    simp only [if_true] at HCS;refine mB HF6.out (HCS.out _) fun w7 HF8=>?_;go_wp2_with fail
    exact HFIN.out _ _ (by simp) HF8.out.drop
  ·have g1:decide (tf≤tg)=false:=decide_eq_false hle;have g2:tg<tf:=by omega
   have g3:decide (tg<tf)=true:=decide_eq_true g2;rw [g1] at HFIN;clear hle g1;have c3:W0.cell? ⟨qb,0,none⟩=some (.int .i64 tf):=(HF0.out.get 0 rfl).cell 0;have c4:W0.cell? ⟨qb,1,none⟩=some (.int .i64 tg):=(HF0.out.get 0 rfl).cell 1;go_wp2_with fail
   clear c3 c4;exact HFIN.out _ 2 (by simp) HF0.out.drop
theorem least2_any {PQ:Ending→World→Prop} {w W:World} {g qb:Nat} {un' lo:Bool} {lim al ah e:Int} {s2 s4 s5 s7 s8 s9 s10 s11 s12 s13 s14 s15 s16 s17 s18 s19 s20 s21 s22 s23 s24 s25 s26 s27 s28 s29 s30 s31 s32 s33 s34 s35 s36 s37 s38 s39 s40 s41:Value} (HF0:Hid (Fr w [(g,199,#[.bool un',.bool lo])] [(qb,31,iC [al,ah])] W))
  (HFIN:Hid (∀ lo' w',(lo'=true→lo=true ∨ (e=0∧ah<lim))→Fr w [(g,199,#[.bool un',.bool lo'])] [] w'→PQ (.returned (.tuple #[])) w')) :
  Code.wp Tryz.prog (restC 2 (Tryz.f109).body) (bodyPost Tryz.prog Tryz.f109 PQ) ⟨#[.pointer (some ⟨g,0,none⟩),.int .i64 lim,s2,.int .i64 e,s4,s5,.pointer (some ⟨qb,0,none⟩),s7,s8,s9,s10,s11,s12,s13,s14,s15,s16,s17,s18,s19,s20,s21,s22,s23,s24,s25,s26,s27,s28,s29,s30,s31,s32,s33,s34,s35,s36,s37,s38,s39,s40,s41],[]⟩ W:=by
 conv=>arg 2;whnf
 cases lo with
 | true =>
  have c1:W.cell? ⟨g,1,none⟩=some (.bool true):=(HF0.out.getO 0 rfl).cell 1;go_wp2_with (refine wpStoreCell rfl rfl 4 _ _ rfl g 1 rfl (.bool true) rfl _ _ (HF0.out.getO 0 rfl) (by show 1<2;omega) rfl (by kernel_rfl) ?_;intro w2 hk ho;clear c1;have HF3:=fN (HF0.out.onlyO 0 rfl ho hk);clear ho hk)
  refine bodyPost_end (results_none rfl _ _ _) rfl ?_
  exact HFIN.out _ _ (by simp) HF3.out.drop
 | false =>
  by_cases he:e=0
  ·subst he;by_cases hc2:ah<lim
   ·have gc2:decide (ah<lim)=true:=decide_eq_true hc2;have HC:=hZ hc2;clear hc2;have c1:W.cell? ⟨g,1,none⟩=some (.bool false):=(HF0.out.getO 0 rfl).cell 1;have c2:W.cell? ⟨qb,1,none⟩=some (.int .i64 ah):=(HF0.out.get 0 rfl).cell 1;go_wp2_with (refine wpStoreCell rfl rfl 4 _ _ rfl g 1 rfl (.bool true) rfl _ _ (HF0.out.getO 0 rfl) (by show 1<2;omega) rfl (by kernel_rfl) ?_;intro w3 hk ho;clear c1 c2;have HF4:=fN (HF0.out.onlyO 0 rfl ho hk);clear ho hk)
    refine bodyPost_end (results_none rfl _ _ _) rfl ?_
    exact HFIN.out _ _ (by simp [HC.out]) HF4.out.drop
   ·have gc2:decide (ah<lim)=false:=decide_eq_false hc2;clear hc2;have c1:W.cell? ⟨g,1,none⟩=some (.bool false):=(HF0.out.getO 0 rfl).cell 1;have c2:W.cell? ⟨qb,1,none⟩=some (.int .i64 ah):=(HF0.out.get 0 rfl).cell 1;go_wp2_with (refine wpStoreCell rfl rfl 4 _ _ rfl g 1 rfl (.bool false) rfl _ _ (HF0.out.getO 0 rfl) (by show 1<2;omega) rfl (by kernel_rfl) ?_;intro w3 hk ho;clear c1 c2;have HF4:=fN (HF0.out.onlyO 0 rfl ho hk);clear ho hk)
    refine bodyPost_end (results_none rfl _ _ _) rfl ?_
    exact HFIN.out _ _ (by simp) HF4.out.drop
  ·have he2:(e == 0)=false:=by simpa using he
   clear he;have c1:W.cell? ⟨g,1,none⟩=some (.bool false):=(HF0.out.getO 0 rfl).cell 1;go_wp2_with (refine wpStoreCell rfl rfl 4 _ _ rfl g 1 rfl (.bool false) rfl _ _ (HF0.out.getO 0 rfl) (by show 1<2;omega) rfl (by kernel_rfl) ?_;intro w2 hk ho;clear c1;have HF3:=fN (HF0.out.onlyO 0 rfl ho hk);clear ho hk)
   refine bodyPost_end (results_none rfl _ _ _) rfl ?_
   exact HFIN.out _ _ (by simp) HF3.out.drop
theorem least_any (g:Nat) (un lo:Bool) (lim:Int) (a:SpanD) (e:Int) (w:World) (hk:Bk w g 199 #[.bool un,.bool lo]) :
  Calls Tryz.prog 109 #[.pointer (some ⟨g,0,none⟩),.int .i64 lim,spanV a,.int .i64 e] w fun r w'=>r=.returned (.tuple #[])∧∃ un' lo',Fr w [(g,199,#[.bool un',.bool lo'])] [] w'∧(un'=false→un=false∧e=0∧¬ a.lo<lim)∧(lo'=true→lo=true ∨ (e=0∧a.hi<lim)):=by
 have HKC:=hZ hk;refine pQ fun PQ hPQ=>?_
 have HFIN:Hid (∀ un',(un'=false→un=false∧e=0∧¬ a.lo<lim)→∀ lo' w',(lo'=true→lo=true ∨ (e=0∧a.hi<lim))→Fr w [(g,199,#[.bool un',.bool lo'])] [] w'→PQ (.returned (.tuple #[])) w'):=hZ fun un' h1 lo' w' h2 h3=>by rw [← hPQ];exact ⟨rfl,un',lo',h3,h1,h2⟩
 obtain ⟨al,ah⟩:=a;unfold spanV;dsimp only at HFIN ⊢;clear hPQ hk;cases un with
 | true =>
  obtain ⟨qb,W0,hqb,hW0,HF0⟩:=fM (Fr.start1 HKC.out) [(#[al,ah],31)];go_enter Tryz.func109,Tryz.ntmps109;go_upto_region 1 with (fail);clear hW0 hqb;rename_i hkk
  have HKK:=hZ hkk;clear hkk;have c1:W0.cell? ⟨g,0,none⟩=some (.bool true):=(HF0.out.getO 0 rfl).cell 0;go_wp2_with (refine wpStoreCell rfl rfl 4 _ _ rfl g 0 rfl (.bool true) rfl _ _ (HF0.out.getO 0 rfl) (by show 0<2;omega) rfl (by kernel_rfl) ?_;intro w2 hk ho;clear c1;have HF3:=fN (HF0.out.onlyO 0 rfl ho hk);clear ho hk)
  refine HKK.out _ _ ?_
  exact least2_any HF3 (hZ fun lo' w' h hf=>HFIN.out _ (by simp) lo' w' (by simpa using h) hf)
 | false =>
  by_cases he:e=0
  ·subst he;by_cases hc1:al<lim
   ·have gc1:decide (al<lim)=true:=decide_eq_true hc1;clear hc1;obtain ⟨qb,W0,hqb,hW0,HF0⟩:=fM (Fr.start1 HKC.out) [(#[al,ah],31)];go_enter Tryz.func109,Tryz.ntmps109;go_upto_region 1 with (fail);clear hW0 hqb;rename_i hkk
    have HKK:=hZ hkk;clear hkk;have c1:W0.cell? ⟨g,0,none⟩=some (.bool false):=(HF0.out.getO 0 rfl).cell 0;have c2:W0.cell? ⟨qb,0,none⟩=some (.int .i64 al):=(HF0.out.get 0 rfl).cell 0;go_wp2_with (refine wpStoreCell rfl rfl 4 _ _ rfl g 0 rfl (.bool true) rfl _ _ (HF0.out.getO 0 rfl) (by show 0<2;omega) rfl (by kernel_rfl) ?_;intro w3 hk ho;clear c1 c2;have HF4:=fN (HF0.out.onlyO 0 rfl ho hk);clear ho hk)
    refine HKK.out _ _ ?_
    exact least2_any HF4 (hZ fun lo' w' h hf=>HFIN.out _ (by simp) lo' w' (by simpa using h) hf)
   ·have gc1:decide (al<lim)=false:=decide_eq_false hc1;have HC:=hZ hc1;clear hc1;obtain ⟨qb,W0,hqb,hW0,HF0⟩:=fM (Fr.start1 HKC.out) [(#[al,ah],31)];go_enter Tryz.func109,Tryz.ntmps109;go_upto_region 1 with (fail);clear hW0 hqb;rename_i hkk
    have HKK:=hZ hkk;clear hkk;have c1:W0.cell? ⟨g,0,none⟩=some (.bool false):=(HF0.out.getO 0 rfl).cell 0;have c2:W0.cell? ⟨qb,0,none⟩=some (.int .i64 al):=(HF0.out.get 0 rfl).cell 0;go_wp2_with (refine wpStoreCell rfl rfl 4 _ _ rfl g 0 rfl (.bool false) rfl _ _ (HF0.out.getO 0 rfl) (by show 0<2;omega) rfl (by kernel_rfl) ?_;intro w3 hk ho;clear c1 c2;have HF4:=fN (HF0.out.onlyO 0 rfl ho hk);clear ho hk)
    refine HKK.out _ _ ?_
    exact least2_any HF4 (hZ fun lo' w' h hf=>HFIN.out _ (by have:=HC.out;simp;omega) lo' w' (by simpa using h) hf)
  ·have he2:(e != 0)=true:=by simpa using he
   clear he;obtain ⟨qb,W0,hqb,hW0,HF0⟩:=fM (Fr.start1 HKC.out) [(#[al,ah],31)];go_enter Tryz.func109,Tryz.ntmps109;go_upto_region 1 with (fail);clear hW0 hqb;rename_i hkk
   have HKK:=hZ hkk;clear hkk;have c1:W0.cell? ⟨g,0,none⟩=some (.bool false):=(HF0.out.getO 0 rfl).cell 0;go_wp2_with (refine wpStoreCell rfl rfl 4 _ _ rfl g 0 rfl (.bool true) rfl _ _ (HF0.out.getO 0 rfl) (by show 0<2;omega) rfl (by kernel_rfl) ?_;intro w2 hk ho;clear c1;have HF3:=fN (HF0.out.onlyO 0 rfl ho hk);clear ho hk)
   refine HKK.out _ _ ?_
   exact least2_any HF3 (hZ fun lo' w' h hf=>HFIN.out _ (by simp) lo' w' (by simpa using h) hf)
theorem most2_any {PQ:Ending→World→Prop} {w W:World} {g qb:Nat} {un' lo:Bool} {lim al ah e:Int} {s2 s4 s5 s7 s8 s9 s10 s11 s12 s13 s14 s15 s16 s17 s18 s19 s20 s21 s22 s23 s24 s25 s26 s27 s28 s29 s30 s31 s32 s33 s34 s35 s36 s37 s38 s39 s40 s41:Value} (HF0:Hid (Fr w [(g,199,#[.bool un',.bool lo])] [(qb,31,iC [al,ah])] W))
  (HFIN:Hid (∀ lo' w',(lo'=true→lo=true ∨ (e=0∧lim<al))→Fr w [(g,199,#[.bool un',.bool lo'])] [] w'→PQ (.returned (.tuple #[])) w')) :
  Code.wp Tryz.prog (restC 2 (Tryz.f111).body) (bodyPost Tryz.prog Tryz.f111 PQ) ⟨#[.pointer (some ⟨g,0,none⟩),.int .i64 lim,s2,.int .i64 e,s4,s5,.pointer (some ⟨qb,0,none⟩),s7,s8,s9,s10,s11,s12,s13,s14,s15,s16,s17,s18,s19,s20,s21,s22,s23,s24,s25,s26,s27,s28,s29,s30,s31,s32,s33,s34,s35,s36,s37,s38,s39,s40,s41],[]⟩ W:=by
 conv=>arg 2;whnf
 cases lo with
 | true =>
  have c1:W.cell? ⟨g,1,none⟩=some (.bool true):=(HF0.out.getO 0 rfl).cell 1;go_wp2_with (refine wpStoreCell rfl rfl 4 _ _ rfl g 1 rfl (.bool true) rfl _ _ (HF0.out.getO 0 rfl) (by show 1<2;omega) rfl (by kernel_rfl) ?_;intro w2 hk ho;clear c1;have HF3:=fN (HF0.out.onlyO 0 rfl ho hk);clear ho hk)
  refine bodyPost_end (results_none rfl _ _ _) rfl ?_
  exact HFIN.out _ _ (by simp) HF3.out.drop
 | false =>
  by_cases he:e=0
  ·subst he;by_cases hc2:lim<al
   ·have gc2:decide (lim<al)=true:=decide_eq_true hc2;have HC:=hZ hc2;clear hc2;have c1:W.cell? ⟨g,1,none⟩=some (.bool false):=(HF0.out.getO 0 rfl).cell 1;have c2:W.cell? ⟨qb,0,none⟩=some (.int .i64 al):=(HF0.out.get 0 rfl).cell 0;go_wp2_with (refine wpStoreCell rfl rfl 4 _ _ rfl g 1 rfl (.bool true) rfl _ _ (HF0.out.getO 0 rfl) (by show 1<2;omega) rfl (by kernel_rfl) ?_;intro w3 hk ho;clear c1 c2;have HF4:=fN (HF0.out.onlyO 0 rfl ho hk);clear ho hk)
    refine bodyPost_end (results_none rfl _ _ _) rfl ?_
    exact HFIN.out _ _ (by simp [HC.out]) HF4.out.drop
   ·have gc2:decide (lim<al)=false:=decide_eq_false hc2;clear hc2;have c1:W.cell? ⟨g,1,none⟩=some (.bool false):=(HF0.out.getO 0 rfl).cell 1;have c2:W.cell? ⟨qb,0,none⟩=some (.int .i64 al):=(HF0.out.get 0 rfl).cell 0;go_wp2_with (refine wpStoreCell rfl rfl 4 _ _ rfl g 1 rfl (.bool false) rfl _ _ (HF0.out.getO 0 rfl) (by show 1<2;omega) rfl (by kernel_rfl) ?_;intro w3 hk ho;clear c1 c2;have HF4:=fN (HF0.out.onlyO 0 rfl ho hk);clear ho hk)
    refine bodyPost_end (results_none rfl _ _ _) rfl ?_
    exact HFIN.out _ _ (by simp) HF4.out.drop
  ·have he2:(e == 0)=false:=by simpa using he
   clear he;have c1:W.cell? ⟨g,1,none⟩=some (.bool false):=(HF0.out.getO 0 rfl).cell 1;go_wp2_with (refine wpStoreCell rfl rfl 4 _ _ rfl g 1 rfl (.bool false) rfl _ _ (HF0.out.getO 0 rfl) (by show 1<2;omega) rfl (by kernel_rfl) ?_;intro w2 hk ho;clear c1;have HF3:=fN (HF0.out.onlyO 0 rfl ho hk);clear ho hk)
   refine bodyPost_end (results_none rfl _ _ _) rfl ?_
   exact HFIN.out _ _ (by simp) HF3.out.drop
theorem most_any (g:Nat) (un lo:Bool) (lim:Int) (a:SpanD) (e:Int) (w:World) (hk:Bk w g 199 #[.bool un,.bool lo]) :
  Calls Tryz.prog 111 #[.pointer (some ⟨g,0,none⟩),.int .i64 lim,spanV a,.int .i64 e] w fun r w'=>r=.returned (.tuple #[])∧∃ un' lo',Fr w [(g,199,#[.bool un',.bool lo'])] [] w'∧(un'=false→un=false∧e=0∧¬ lim<a.hi)∧(lo'=true→lo=true ∨ (e=0∧lim<a.lo)):=by
 have HKC:=hZ hk;refine pQ fun PQ hPQ=>?_
 have HFIN:Hid (∀ un',(un'=false→un=false∧e=0∧¬ lim<a.hi)→∀ lo' w',(lo'=true→lo=true ∨ (e=0∧lim<a.lo))→Fr w [(g,199,#[.bool un',.bool lo'])] [] w'→PQ (.returned (.tuple #[])) w'):=hZ fun un' h1 lo' w' h2 h3=>by rw [← hPQ];exact ⟨rfl,un',lo',h3,h1,h2⟩
 obtain ⟨al,ah⟩:=a;unfold spanV;dsimp only at HFIN ⊢;clear hPQ hk;cases un with
 | true =>
  obtain ⟨qb,W0,hqb,hW0,HF0⟩:=fM (Fr.start1 HKC.out) [(#[al,ah],31)];go_enter Tryz.func111,Tryz.ntmps111;go_upto_region 1 with (fail);clear hW0 hqb;rename_i hkk
  have HKK:=hZ hkk;clear hkk;have c1:W0.cell? ⟨g,0,none⟩=some (.bool true):=(HF0.out.getO 0 rfl).cell 0;go_wp2_with (refine wpStoreCell rfl rfl 4 _ _ rfl g 0 rfl (.bool true) rfl _ _ (HF0.out.getO 0 rfl) (by show 0<2;omega) rfl (by kernel_rfl) ?_;intro w2 hk ho;clear c1;have HF3:=fN (HF0.out.onlyO 0 rfl ho hk);clear ho hk)
  refine HKK.out _ _ ?_
  exact most2_any HF3 (hZ fun lo' w' h hf=>HFIN.out _ (by simp) lo' w' (by simpa using h) hf)
 | false =>
  by_cases he:e=0
  ·subst he;by_cases hc1:lim<ah
   ·have gc1:decide (lim<ah)=true:=decide_eq_true hc1;clear hc1;obtain ⟨qb,W0,hqb,hW0,HF0⟩:=fM (Fr.start1 HKC.out) [(#[al,ah],31)];go_enter Tryz.func111,Tryz.ntmps111;go_upto_region 1 with (fail);clear hW0 hqb;rename_i hkk
    have HKK:=hZ hkk;clear hkk;have c1:W0.cell? ⟨g,0,none⟩=some (.bool false):=(HF0.out.getO 0 rfl).cell 0;have c2:W0.cell? ⟨qb,1,none⟩=some (.int .i64 ah):=(HF0.out.get 0 rfl).cell 1;go_wp2_with (refine wpStoreCell rfl rfl 4 _ _ rfl g 0 rfl (.bool true) rfl _ _ (HF0.out.getO 0 rfl) (by show 0<2;omega) rfl (by kernel_rfl) ?_;intro w3 hk ho;clear c1 c2;have HF4:=fN (HF0.out.onlyO 0 rfl ho hk);clear ho hk)
    refine HKK.out _ _ ?_
    exact most2_any HF4 (hZ fun lo' w' h hf=>HFIN.out _ (by simp) lo' w' (by simpa using h) hf)
   ·have gc1:decide (lim<ah)=false:=decide_eq_false hc1;have HC:=hZ hc1;clear hc1;obtain ⟨qb,W0,hqb,hW0,HF0⟩:=fM (Fr.start1 HKC.out) [(#[al,ah],31)];go_enter Tryz.func111,Tryz.ntmps111;go_upto_region 1 with (fail);clear hW0 hqb;rename_i hkk
    have HKK:=hZ hkk;clear hkk;have c1:W0.cell? ⟨g,0,none⟩=some (.bool false):=(HF0.out.getO 0 rfl).cell 0;have c2:W0.cell? ⟨qb,1,none⟩=some (.int .i64 ah):=(HF0.out.get 0 rfl).cell 1;go_wp2_with (refine wpStoreCell rfl rfl 4 _ _ rfl g 0 rfl (.bool false) rfl _ _ (HF0.out.getO 0 rfl) (by show 0<2;omega) rfl (by kernel_rfl) ?_;intro w3 hk ho;clear c1 c2;have HF4:=fN (HF0.out.onlyO 0 rfl ho hk);clear ho hk)
    refine HKK.out _ _ ?_
    exact most2_any HF4 (hZ fun lo' w' h hf=>HFIN.out _ (by have:=HC.out;simp;omega) lo' w' (by simpa using h) hf)
  ·have he2:(e != 0)=true:=by simpa using he
   clear he;obtain ⟨qb,W0,hqb,hW0,HF0⟩:=fM (Fr.start1 HKC.out) [(#[al,ah],31)];go_enter Tryz.func111,Tryz.ntmps111;go_upto_region 1 with (fail);clear hW0 hqb;rename_i hkk
   have HKK:=hZ hkk;clear hkk;have c1:W0.cell? ⟨g,0,none⟩=some (.bool false):=(HF0.out.getO 0 rfl).cell 0;go_wp2_with (refine wpStoreCell rfl rfl 4 _ _ rfl g 0 rfl (.bool true) rfl _ _ (HF0.out.getO 0 rfl) (by show 0<2;omega) rfl (by kernel_rfl) ?_;intro w2 hk ho;clear c1;have HF3:=fN (HF0.out.onlyO 0 rfl ho hk);clear ho hk)
   refine HKK.out _ _ ?_
   exact most2_any HF3 (hZ fun lo' w' h hf=>HFIN.out _ (by simp) lo' w' (by simpa using h) hf)
theorem speed97_any (b:BoxD) (hb:WdB b) (w:World):Calls Tryz.prog 97 #[boxV b] w fun e w'=>e=.returned (.tuple #[spanV (normB [b.x,b.y,b.z]).1,.int .i64 (normB [b.x,b.y,b.z]).2])∧Below w.heap.size w w':=by
 have HN:=hZ fun w g t hk=>normBox_any b hb w g t hk;refine pQ fun PQ hPQ=>?_
 have HFIN:Hid (∀ w' r,normB [b.x,b.y,b.z]=r→Fr w [] [] w'→PQ (.returned (.tuple #[.agg #[.int .i64 r.1.lo,.int .i64 r.1.hi],.int .i64 r.2])) w'):=hZ fun w' r hr h=>by rw [← hPQ,hr];exact ⟨rfl,h.toBelow⟩
 obtain ⟨⟨⟨nl,nh⟩,ne⟩,hn⟩:=eX (normB [b.x,b.y,b.z]);unfold SpPost at HN;rw [hn] at HN HFIN;obtain ⟨⟨axl,axh⟩,⟨ayl,ayh⟩,⟨azl,azh⟩⟩:=b;unfold spanV at HN;unfold boxV;dsimp only at HN ⊢;clear hPQ hn hb;obtain ⟨qb,W0,hqb,hW0,HF0⟩:=fM (Fr.start w) [(#[axl,axh,ayl,ayh,azl,azh],34),(#[.int .i64 0,.int .i64 0],31)];go_enter Tryz.func97,Tryz.ntmps97;go_upto_region 1 with (fail);clear hW0 hqb;go_wp2_with fail
 refine mB HF0.out (HN.out _ _ 34 (HF0.out.get 0 rfl)) fun w1 HF2=>?_;go_wp2_with (refine sW 1 HF2.out i_span fun w3 HF4=>?_)
 refine ret_agg2 rfl rfl rfl (HF4.out.get 1 rfl) rfl u_span rfl i_span ?_
 exact HFIN.out _ _ rfl HF4.out.drop
theorem inside95_any (i a:SpanD) (e:Int) (hi:WdS i) (ha:WdS a) (w:World):Calls Tryz.prog 95 #[spanV i,spanV a,.int .i64 e] w fun r w'=>∃ b,r=.returned (.bool b)∧Below w.heap.size w w':=by
 have HWI:=hZ fun w=>within_any a i ha hi w;obtain ⟨bw,hbw⟩:=eX (withinB a i);rw [hbw] at HWI;refine pQ fun PQ hPQ=>?_
 have HFIN:Hid (∀ w' b,Fr w [] [] w'→PQ (.returned (.bool b)) w'):=hZ fun w' b h=>by rw [← hPQ];exact ⟨b,rfl,h.toBelow⟩
 obtain ⟨il,ih⟩:=i;obtain ⟨al,ah⟩:=a;unfold spanV at HWI ⊢;dsimp only at HWI ⊢;clear hPQ hbw hi ha;by_cases he:e=0
 ·subst he;obtain ⟨qb,W0,hqb,hW0,HF0⟩:=fM (Fr.start w) [(#[il,ih],31),(#[al,ah],31)];go_enter Tryz.func95,Tryz.ntmps95;go_upto_region 1 with (fail);clear hW0 hqb;go_wp2_with (first
    | (refine wpLoadFG rfl 31 _ rfl (qb+1) 0 rfl _ _ (HF0.out.get 1 rfl) #[al,ah] rfl _ u_span rfl i_span ?_)
    | (refine wpLoadFG rfl 31 _ rfl qb 0 rfl _ _ (HF0.out.get 0 rfl) #[il,ih] rfl _ u_span rfl i_span ?_))
  refine mB HF0.out (HWI.out _) fun w1 HF2=>?_;go_wp2_with fail
  exact HFIN.out _ _ HF2.out.drop
 ·have he2:(e == 0)=false:=by simpa using he
  obtain ⟨qb,W0,hqb,hW0,HF0⟩:=fM (Fr.start w) [(#[il,ih],31),(#[al,ah],31)];go_enter Tryz.func95,Tryz.ntmps95;go_upto_region 1 with (fail);clear hW0 hqb;go_wp2_with fail
  exact HFIN.out _ _ HF0.out.drop

structure ModeD where
 height:SpanD
 speed:SpanD
 pressure:SpanD
 frm:Int
 till:Int
 failures:Int
 delay:Int
 n:Nat
 v:Nat→ArcR
 A:Option Addr
 c:Nat
 load:Int
 floor:Int
 touch:Int
def modeA (m:ModeD):Array Value:=#[m.height.lo,m.height.hi,m.speed.lo,m.speed.hi,m.pressure.lo,m.pressure.hi,m.frm,m.till,m.failures,m.delay,.slice m.A m.n m.c,m.load,m.floor,m.touch]
def modeV (m:ModeD):Value:=.agg (modeA m)
theorem u_89:Tryz.prog.underlying 89=some (.struct (match Tryz.prog.underlying 89 with | some (.struct f)=>f | _=>#[])):=by kernel_rfl
theorem i_89:(Tryz.prog.info? 89).map (·.size)=some 14:=by kernel_rfl
structure WdM (m:ModeD):Prop where
 height:WdS m.height
 speed:WdS m.speed
 pressure:WdS m.pressure
 failures:I64 m.failures
 delay:I64 m.delay
 load:I64 m.load
 arcs:∀ i,WdA (m.v i).a
structure ModeOk (m:ModeD):Prop where
 height:chkB m.height=true
 speed:chkB m.speed=true
 pressure:chkB m.pressure=true
 frm:numB m.frm=true
 till:numB m.till=true
 floor:numB m.floor=true
 le:m.frm≤m.till
 delay:0≤m.delay
 load:0≤m.load
 touch:0≤m.touch
 fail0:0≤m.failures
 fail1:m.failures≤65535
 len:m.n≤32
 arcs:∀ i,i<m.n→arcT (m.v i).a=true
 sum:sumN m.v m.n≤64
theorem checkMode_any (m:ModeD) (wm:WdM m) (w:World) (hA:ArcsAt w w.heap.size m.A m.n m.v) :
  Calls Tryz.prog 42 #[modeV m] w fun e w'=>∃ r,e=.returned (.int .i64 r)∧(r=0 ↔ ModeOk m)∧Below w.heap.size w w':=by
 have HAA:=hZ hA;have HWV:=hZ wm.arcs;have HC1:=hZ fun w=>check_any m.height w;have HC2:=hZ fun w=>check_any m.speed w;have HC3:=hZ fun w=>check_any m.pressure w;have HV1:=hZ fun w=>valid90_any m.frm w;have HV2:=hZ fun w=>valid90_any m.till w;have HV3:=hZ fun w=>valid90_any m.floor w;refine pQ fun PQ hPQ=>?_
 have HNO:Hid (∀ w',¬ ModeOk m→Fr w [] [] w'→PQ (.returned (.int .i64 2)) w'):=hZ fun w' hn h=>by rw [← hPQ];exact ⟨2,rfl,⟨fun e=>absurd e (by decide),fun e=>absurd e hn⟩,h.toBelow⟩
 have HOK:Hid (∀ w',ModeOk m→Fr w [] [] w'→PQ (.returned (.int .i64 0)) w'):=hZ fun w' hn h=>by rw [← hPQ];exact ⟨0,rfl,⟨fun _=>hn,fun _=>rfl⟩,h.toBelow⟩
 unfold errC at HC1 HC2 HC3;obtain ⟨b1,hb1⟩:=eX (chkB m.height);obtain ⟨b2,hb2⟩:=eX (chkB m.speed);obtain ⟨b3,hb3⟩:=eX (chkB m.pressure);obtain ⟨b4,hb4⟩:=eX (numB m.frm);obtain ⟨b5,hb5⟩:=eX (numB m.till);obtain ⟨b6,hb6⟩:=eX (numB m.floor);rw [hb1] at HC1;rw [hb2] at HC2;rw [hb3] at HC3;rw [hb4] at HV1;rw [hb5] at HV2;rw [hb6] at HV3;have HB1:=hZ hb1;have HB2:=hZ hb2;have HB3:=hZ hb3;have HB4:=hZ hb4;have HB5:=hZ hb5;have HB6:=hZ hb6;have hn63:=hA.1.1;have hf64:=wm.failures;obtain ⟨⟨hl,hh⟩,⟨pl,ph⟩,⟨ql,qh⟩,mf,mt,ms,md,n,v,A,c,mo,mr,mu⟩:=m;unfold modeV modeA;unfold spanV at HC1 HC2 HC3;unfold I64 at hf64;dsimp only at HAA HWV HC1 HC2 HC3 HV1 HV2 HV3 HNO HOK HB1 HB2 HB3 HB4 HB5 HB6 hn63 hf64 ⊢;clear hPQ hb1 hb2 hb3 hb4 hb5 hb6 hA wm;obtain ⟨qb,W0,hqb,hW0,HF0⟩:=fM (Fr.start w) [(#[hl,hh,pl,ph,ql,qh,mf,mt,ms,md,.slice A n c,mo,mr,mu],89)];go_enter Tryz.func42,Tryz.ntmps42;go_upto_region 1 with (fail);clear hW0 hqb;obtain ⟨g1,hg1⟩:=eX W0.heap.size;obtain ⟨w1,hw1⟩:=eX (W0.alloc (.cells #[hl,hh,pl,ph,ql,qh] 31));have HF2:=fE hw1 (HF0.out.alloc hg1.symm 31 #[hl,hh,pl,ph,ql,qh]);go_wp2_with (first
   | (refine lS (gN HF0 0) hl hh ?_)
   | (refine lS (gN HF0 0) pl ph ?_)
   | (refine lS (gN HF0 0) ql qh ?_))
 clear hw1 hg1;refine wp_loop_rounds 4 ?_
 rw [rounds_succ];obtain ⟨g3,w3,hg3,hw3,HF4⟩:=fA HF2.out #[.int .i64 0,.int .i64 0] 31;go_wp2_with (first
   | (refine lS (gN HF2 1) hl hh ?_)
   | (refine lS (gN HF6 2) hl hh ?_)
   | (refine sW 2 HF4.out i_span fun w5 HF6=>?_;clear hw3 hg3))
 cases b1 with
 | false =>
  simp only [Bool.false_eq_true,if_false] at HC1;refine mB HF6.out (HC1.out _) fun w7 HF8=>?_;go_wp2_with fail
  exact HNO.out _ (fun h=>by have:=HB1.out.symm.trans h.height;cases this) HF8.out.drop
 | true =>
  simp only [if_true] at HC1;refine mB HF6.out (HC1.out _) fun w7 HF8=>?_;go_wp2_with fail
  rw [rounds_succ];obtain ⟨g9,w9,hg9,hw9,HF10⟩:=fA HF8.out #[.int .i64 0,.int .i64 0] 31;go_wp2_with (first
    | (refine lS (gN HF8 1) pl ph ?_)
    | (refine lS (gN HF12 3) pl ph ?_)
    | (refine sW 3 HF10.out i_span fun w11 HF12=>?_;clear hw9 hg9))
  cases b2 with
  | false =>
   simp only [Bool.false_eq_true,if_false] at HC2;refine mB HF12.out (HC2.out _) fun w13 HF14=>?_;go_wp2_with fail
   exact HNO.out _ (fun h=>by have:=HB2.out.symm.trans h.speed;cases this) HF14.out.drop
  | true =>
   simp only [if_true] at HC2;refine mB HF12.out (HC2.out _) fun w13 HF14=>?_;go_wp2_with fail
   rw [rounds_succ];obtain ⟨g15,w15,hg15,hw15,HF16⟩:=fA HF14.out #[.int .i64 0,.int .i64 0] 31;go_wp2_with (first
     | (refine lS (gN HF14 1) ql qh ?_)
     | (refine lS (gN HF18 4) ql qh ?_)
     | (refine sW 4 HF16.out i_span fun w17 HF18=>?_;clear hw15 hg15))
   cases b3 with
   | false =>
    simp only [Bool.false_eq_true,if_false] at HC3;refine mB HF18.out (HC3.out _) fun w19 HF20=>?_;go_wp2_with fail
    exact HNO.out _ (fun h=>by have:=HB3.out.symm.trans h.pressure;cases this) HF20.out.drop
   | true =>
    simp only [if_true] at HC3;refine mB HF18.out (HC3.out _) fun w19 HF20=>?_;go_wp2_with fail
    rw [rounds_succ];have c21:=cA (gN HF20 0) 6;go_wp2_with fail
    clear c21;refine (HV1.out _).mono ?_
    rintro e w22 ⟨rfl,hw⟩;rw [hw];clear hw w22;cases b4 with
    | false =>
     go_wp2_with fail
     exact HNO.out _ (fun h=>by have:=HB4.out.symm.trans h.frm;cases this) HF20.out.drop
    | true =>
     have c23:=cA (gN HF20 0) 7;go_wp2_with fail
     clear c23;refine (HV2.out _).mono ?_
     rintro e w24 ⟨rfl,hw⟩;rw [hw];clear hw w24;cases b5 with
     | false =>
      go_wp2_with fail
      exact HNO.out _ (fun h=>by have:=HB5.out.symm.trans h.till;cases this) HF20.out.drop
     | true =>
      have c25:=cA (gN HF20 0) 12;go_wp2_with fail
      clear c25;refine (HV3.out _).mono ?_
      rintro e w26 ⟨rfl,hw⟩;rw [hw];clear hw w26;cases b6 with
      | false =>
       go_wp2_with fail
       exact HNO.out _ (fun h=>by have:=HB6.out.symm.trans h.floor;cases this) HF20.out.drop
      | true =>
       by_cases hk0:mf≤mt
       rotate_left
       ·have gk0:decide (mf≤mt)=false:=decide_eq_false hk0;have HK0:=hZ hk0;clear hk0;have c27:=cA (gN HF20 0) 6;have c28:=cA (gN HF20 0) 7;go_wp2_with fail
        clear c27 c28;exact HNO.out _ (fun h=>by have h1:=h.le;have h2:=HK0.out;dsimp only at h1;omega) HF20.out.drop
       ·have gk0:decide (mf≤mt)=true:=decide_eq_true hk0;have HK0:=hZ hk0;clear hk0;by_cases hk1:0≤md
        rotate_left
        ·have gk1:decide (0≤md)=false:=decide_eq_false hk1;have HK1:=hZ hk1;clear hk1;have c27:=cA (gN HF20 0) 6;have c28:=cA (gN HF20 0) 7;have c29:=cA (gN HF20 0) 9;go_wp2_with fail
         clear c27 c28 c29;exact HNO.out _ (fun h=>by have h1:=h.delay;have h2:=HK1.out;dsimp only at h1;omega) HF20.out.drop
        ·have gk1:decide (0≤md)=true:=decide_eq_true hk1;have HK1:=hZ hk1;clear hk1;by_cases hk2:0≤mo
         rotate_left
         ·have gk2:decide (0≤mo)=false:=decide_eq_false hk2;have HK2:=hZ hk2;clear hk2;have c27:=cA (gN HF20 0) 6;have c28:=cA (gN HF20 0) 7;have c29:=cA (gN HF20 0) 9;have c30:=cA (gN HF20 0) 11;go_wp2_with fail
          clear c27 c28 c29 c30;exact HNO.out _ (fun h=>by have h1:=h.load;have h2:=HK2.out;dsimp only at h1;omega) HF20.out.drop
         ·have gk2:decide (0≤mo)=true:=decide_eq_true hk2;have HK2:=hZ hk2;clear hk2;by_cases hk3:0≤mu
          rotate_left
          ·have gk3:decide (0≤mu)=false:=decide_eq_false hk3;have HK3:=hZ hk3;clear hk3;have c27:=cA (gN HF20 0) 6;have c28:=cA (gN HF20 0) 7;have c29:=cA (gN HF20 0) 9;have c30:=cA (gN HF20 0) 11;have c31:=cA (gN HF20 0) 13;go_wp2_with fail
           clear c27 c28 c29 c30 c31;exact HNO.out _ (fun h=>by have h1:=h.touch;have h2:=HK3.out;dsimp only at h1;omega) HF20.out.drop
          ·have gk3:decide (0≤mu)=true:=decide_eq_true hk3;have HK3:=hZ hk3;clear hk3;by_cases hm0:ms<0
           ·have g10:decide (ms<0)=true:=decide_eq_true (by omega)
            have gi0:ms<0:=by omega
            have HM0:=hZ hm0;clear hm0;have c27:=cA (gN HF20 0) 6;have c28:=cA (gN HF20 0) 7;have c29:=cA (gN HF20 0) 9;have c30:=cA (gN HF20 0) 11;have c31:=cA (gN HF20 0) 13;have c32:=cA (gN HF20 0) 8;go_wp2_with fail
            clear c27 c28 c29 c30 c31 c32;exact HNO.out _ (fun h=>by have:=h.fail0;have:=HM0.out;dsimp only at *;omega) HF20.out.drop
           ·have g10:decide (ms<0)=false:=decide_eq_false (by omega)
            have gi0:¬ ms<0:=by omega
            have HM0:=hZ hm0;clear hm0;by_cases hm1:65535<ms
            ·have g11:decide (65535<ms)=true:=decide_eq_true (by omega)
             have gi1:65535<ms:=by omega
             have HM1:=hZ hm1;clear hm1;have c27:=cA (gN HF20 0) 6;have c28:=cA (gN HF20 0) 7;have c29:=cA (gN HF20 0) 9;have c30:=cA (gN HF20 0) 11;have c31:=cA (gN HF20 0) 13;have c32:=cA (gN HF20 0) 8;have c33:=cA (gN HF20 0) 8;go_wp2_with fail
             clear c27 c28 c29 c30 c31 c32 c33;exact HNO.out _ (fun h=>by have:=h.fail1;have:=HM1.out;dsimp only at *;omega) HF20.out.drop
            ·have g11:decide (65535<ms)=false:=decide_eq_false (by omega)
             have gi1:¬ 65535<ms:=by omega
             have HM1:=hZ hm1;clear hm1;by_cases hm2:32<n
             ·have g12:decide ((32:Int)<(n:Int))=true:=decide_eq_true (by omega)
              have gi2:(32:Int)<(n:Int):=by omega
              have HM2:=hZ hm2;clear hm2;have c27:=cA (gN HF20 0) 6;have c28:=cA (gN HF20 0) 7;have c29:=cA (gN HF20 0) 9;have c30:=cA (gN HF20 0) 11;have c31:=cA (gN HF20 0) 13;have c32:=cA (gN HF20 0) 8;have c33:=cA (gN HF20 0) 8;have c34:=cA (gN HF20 0) 10;go_wp2_with fail
              clear c27 c28 c29 c30 c31 c32 c33 c34;exact HNO.out _ (fun h=>by have:=h.len;have:=HM2.out;dsimp only at *;omega) HF20.out.drop
             ·have g12:decide ((32:Int)<(n:Int))=false:=decide_eq_false (by omega)
              have gi2:¬ (32:Int)<(n:Int):=by omega
              have HM2:=hZ hm2;clear hm2;have c27:=cA (gN HF20 0) 6;have c28:=cA (gN HF20 0) 7;have c29:=cA (gN HF20 0) 9;have c30:=cA (gN HF20 0) 11;have c31:=cA (gN HF20 0) 13;have c32:=cA (gN HF20 0) 8;have c33:=cA (gN HF20 0) 8;have c34:=cA (gN HF20 0) 10;have c35:=cA (gN HF20 0) 10;go_wp2_with fail
              clear c27 c28 c29 c30 c31 c32 c33 c34 c35;go_loopw [7,86] (fun sv iv wr=>∃ k:Nat,k≤n∧iv=.int .i64 k∧∃ sm:Int,sv=.int .i64 sm∧0≤sm∧sm≤64∧Hid (Fr w [] [(qb,89,#[hl,hh,pl,ph,ql,qh,mf,mt,ms,md,.slice A n c,mo,mr,mu]),(g1,31,iC [hl,hh,pl,ph,ql,qh]),(g3,31,iC [hl,hh]),(g9,31,iC [pl,ph]),(g15,31,iC [ql,qh])] wr∧sm=sumN v k∧∀ j,j<k→arcT (v j).a=true)) (fun _ iv _=>n - (intOf iv).toNat)
              case atStart=>exact ⟨0,Nat.zero_le _,rfl,0,rfl,by decide,by decide,hZ ⟨HF20.out,rfl,fun j hj=>absurd hj (Nat.not_lt_zero j)⟩⟩
              case round =>
               obtain ⟨wi,rfl⟩:∃ wi:World,wi=wr:=⟨_,rfl⟩;obtain ⟨k,hk,rfl,sm,rfl,hs0,hs1,hs⟩:=hrel;have HF2:=hZ hs.out.1;have HSM:=hZ hs.out.2.1;have HLS:=hZ hs.out.2.2;clear hs HF20;have h0k:(0:Int)≤(k:Int):=by omega
               by_cases hlt:k<n
               ·have hki:(k:Int)<(n:Int):=by omega
                obtain ⟨b,off,rfl,-,-⟩:=HAA.out.1.2 (by omega)
                have hcs:=HAA.out.cells rfl hlt HF2.out;have HCA:=fun w' (hb:Below w.heap.size w w')=>steps_any (v k).a (v k).A (v k).c (HWV.out k) w' ((HAA.out.2 k hlt).to hb);have hsp:=@stepsI_pos (v k).a;have HSS:Hid (sumN v (k+1)=sm+stepsI (v k).a):=hZ (by rw [sumN,HSM.out])
                unfold stepsT at HCA;obtain ⟨ba,hba⟩:=eX (arcT (v k).a);rw [hba] at HCA hsp;have HBA:=hZ hba;obtain ⟨q,hq⟩:=eX (stepsI (v k).a);rw [hq] at HCA hsp HSS;obtain ⟨⟨⟨time,step,⟨tl,th⟩,⟨fl,fh⟩,⟨⟨dxl,dxh⟩,⟨dyl,dyh⟩,⟨dzl,dzh⟩⟩,drag,⟨dl,dh⟩⟩,A1,c1⟩,hvk⟩:=eX (v k);simp only [hvk] at hcs HCA;unfold arcV at HCA;dsimp only [arcA] at hcs HCA;obtain ⟨n1,hn1⟩:=eX drag.length;rw [hn1] at hcs HCA;have HCX:=hZ hcs;clear hvk hcs hn1 hq hba;cases ba with
                | false =>
                 simp only [Bool.false_eq_true,if_false] at HCA;replace HCA:=hZ HCA;clear hsp;have m1:IntKind.i64.wrap sm=sm:=IntWalk.i64_in _ (by omega)
                 have m1':wrap64 sm=sm:=w64_in (by omega) (by omega)
                 obtain ⟨g36,w36,hg36,hw36,HF37⟩:=fA HF2.out #[(0:Int),(0:Int),(0:Int),(0:Int),(0:Int),(0:Int),(0:Int),(0:Int),(0:Int),(0:Int),(0:Int),(0:Int),.slice none 0 0,(0:Int),(0:Int)] 46;go_wp2_with (first
                   | (refine wpLoadAt rfl 46 _ rfl b (off+k * 15) rfl #[time,step,tl,th,fl,fh,dxl,dxh,dyl,dyh,dzl,dzh,.slice A1 n1 c1,dl,dh] _ HCX.out u_46 rfl i_46 ?_)
                   | (refine lF (gN HF39 5) #[time,step,tl,th,fl,fh,dxl,dxh,dyl,dyh,dzl,dzh,.slice A1 n1 c1,dl,dh] u_46 i_46 ?_)
                   | (refine sW 5 HF37.out i_46 fun w38 HF39=>?_;clear hw36 hg36))
                 refine mB HF39.out (HCA.out _ HF39.out.toBelow) fun w40 HF41=>?_;go_wp2_with fail
                 exact HNO.out _ (fun h=>by have:=HBA.out.symm.trans (h.arcs k hlt);cases this) HF41.out.drop
                | true =>
                 have hq0:=hsp rfl;simp only [if_true] at HCA;clear hsp;by_cases hq:4096<q
                 ·rw [if_pos hq] at HCA;dsimp only at HCA;replace HCA:=hZ HCA;have HQ:=hZ hq;clear hq hq0;have m1:IntKind.i64.wrap sm=sm:=IntWalk.i64_in _ (by omega)
                  have m1':wrap64 sm=sm:=w64_in (by omega) (by omega)
                  obtain ⟨g36,w36,hg36,hw36,HF37⟩:=fA HF2.out #[(0:Int),(0:Int),(0:Int),(0:Int),(0:Int),(0:Int),(0:Int),(0:Int),(0:Int),(0:Int),(0:Int),(0:Int),.slice none 0 0,(0:Int),(0:Int)] 46;go_wp2_with (first
                    | (refine wpLoadAt rfl 46 _ rfl b (off+k * 15) rfl #[time,step,tl,th,fl,fh,dxl,dxh,dyl,dyh,dzl,dzh,.slice A1 n1 c1,dl,dh] _ HCX.out u_46 rfl i_46 ?_)
                    | (refine lF (gN HF39 5) #[time,step,tl,th,fl,fh,dxl,dxh,dyl,dyh,dzl,dzh,.slice A1 n1 c1,dl,dh] u_46 i_46 ?_)
                    | (refine sW 5 HF37.out i_46 fun w38 HF39=>?_;clear hw36 hg36))
                  refine mB HF39.out (HCA.out _ HF39.out.toBelow) fun w40 HF41=>?_;go_wp2_with fail
                  exact HNO.out _ (fun h=>by have h0:=HQ.out;have h1:=h.sum;have h2:=HSS.out;have h3:=sum_mono (v:=v) (j:=k+1) (n - (k+1)) (fun i hi=>h.arcs i (by dsimp only;omega));rw [show k+1+(n - (k+1))=n by omega] at h3;dsimp only at h1;omega) HF41.out.drop
                 ·rw [if_neg hq] at HCA;dsimp only at HCA;replace HCA:=hZ HCA;have m1:IntKind.i64.wrap (sm+q)=sm+q:=IntWalk.i64_in _ (by omega)
                  have m1':wrap64 (sm+q)=sm+q:=w64_in (by omega) (by omega)
                  obtain ⟨g36,w36,hg36,hw36,HF37⟩:=fA HF2.out #[(0:Int),(0:Int),(0:Int),(0:Int),(0:Int),(0:Int),(0:Int),(0:Int),(0:Int),(0:Int),(0:Int),(0:Int),.slice none 0 0,(0:Int),(0:Int)] 46;go_wp2_with (first
                    | (refine wpLoadAt rfl 46 _ rfl b (off+k * 15) rfl #[time,step,tl,th,fl,fh,dxl,dxh,dyl,dyh,dzl,dzh,.slice A1 n1 c1,dl,dh] _ HCX.out u_46 rfl i_46 ?_)
                    | (refine lF (gN HF39 5) #[time,step,tl,th,fl,fh,dxl,dxh,dyl,dyh,dzl,dzh,.slice A1 n1 c1,dl,dh] u_46 i_46 ?_)
                    | (refine sW 5 HF37.out i_46 fun w38 HF39=>?_;clear hw36 hg36))
                  refine mB HF39.out (HCA.out _ HF39.out.toBelow) fun w40 HF41=>?_;by_cases hsq:64<sm+q
                  ·have HQ:=hZ hsq;clear hq hq0;go_wp2_with fail
                   exact HNO.out _ (fun h=>by have h0:=HQ.out;have h1:=h.sum;have h2:=HSS.out;have h3:=sum_mono (v:=v) (j:=k+1) (n - (k+1)) (fun i hi=>h.arcs i (by dsimp only;omega));rw [show k+1+(n - (k+1))=n by omega] at h3;dsimp only at h1;omega) HF41.out.drop
                  ·have hsq':=hZ hsq;go_wp2_with fail
                   go_roundw
                   case rel=>exact ⟨k+1,by omega,by go_num,sm+q,rfl,by omega,by omega,hZ ⟨HF41.out.sub (List.sublist_append_left [_,_,_,_,_] _),HSS.out.symm,fun j hj=>by
                    by_cases ej:j=k
                    ·subst ej;exact HBA.out
                    ·exact HLS.out j (by omega)⟩⟩
                   case measure=>simp [intOf];omega
               ·obtain rfl:n=k:=by omega
                have hki:¬ (n:Int)<(n:Int):=by omega
                go_wp2_with fail
                exact HOK.out _ ⟨HB1.out,HB2.out,HB3.out,HB4.out,HB5.out,HB6.out,HK0.out,HK1.out,HK2.out,HK3.out,by have:=HM0.out;dsimp only;omega,by have:=HM1.out;dsimp only;omega,by have:=HM2.out;dsimp only;omega,HLS.out,by dsimp only;rw [← HSM.out];exact hs1⟩ HF2.out.drop

def SureT (p:PlanetD) (m:ModeD) (r:ArcR) (tb:TubeD):Prop:=(heightF p tb.p).2=0∧¬ (heightF p tb.p).1.lo<m.floor∧(divB r.a.thrust tb.m).2=0∧¬ m.load<(divB r.a.thrust tb.m).1.hi
def LostT (p:PlanetD) (m:ModeD) (r:ArcR) (tb:TubeD):Prop:=((heightF p tb.p).2=0∧(heightF p tb.p).1.hi<m.floor) ∨ ((divB r.a.thrust tb.m).2=0∧m.load<(divB r.a.thrust tb.m).1.lo)
def spdB (b:BoxD):SpanD × Int:=normB [b.x,b.y,b.z]
def Sure (p:PlanetD) (m:ModeD) (s:StateD):Prop:=∃ S st sg,FlyTo p m.v s m.n S st sg∧(∀ i l,sg[i]?=some l→∀ tb ∈ l,SureT p m (m.v i) tb)∧(spdB S.v).2=0∧¬ m.touch<(spdB S.v).1.hi
def Lost (p:PlanetD) (m:ModeD) (s:StateD):Prop:=∃ S st sg,FlyTo p m.v s m.n S st sg∧((∃ i l tb,sg[i]?=some l∧tb ∈ l∧LostT p m (m.v i) tb) ∨ ((spdB S.v).2=0∧m.touch<(spdB S.v).1.lo))
def EscPost (p:PlanetD) (m:ModeD) (s:StateD) (w:World) (e:Ending) (w':World):Prop:=∃ v:Int,e=.returned (.int .i64 v)∧(v=1→Sure p m s)∧(v<0→Lost p m s)∧Below w.heap.size w w'
def AtK (s:StateD) (st:List StateD) (k:Nat) (S:StateD):Prop:=(k=0∧S=s) ∨ (0<k∧st[k - 1]?=some S)
theorem fly_last {p:PlanetD} {v:Nat→ArcR} {s:StateD}:∀ {n:Nat} {S:StateD} {st:List StateD} {sg:List (List TubeD)},st.length=n→FlyTo p v s n S st sg→AtK s st n S
 | 0,_,_,_,_,h=>by obtain ⟨rfl,_,_⟩:=h;exact .inl ⟨rfl,rfl⟩
 | n+1,S,_,_,hl,h=>by
  obtain ⟨S0,st0,sg0,S1,tb,m,_,_,_,_,rfl,rfl,rfl⟩:=h;have:st0.length=n:=by simpa using hl
  exact .inr ⟨by omega,by rw [Nat.add_sub_cancel,List.getElem?_append_right (by omega),this,Nat.sub_self];rfl⟩
theorem AtK.uniq {s:StateD} {st:List StateD} {k:Nat} {S S':StateD} (h:AtK s st k S) (h':AtK s st k S'):S=S':=by
 rcases h with ⟨h1,h2⟩ | ⟨h1,h2⟩ <;> rcases h' with ⟨k1,k2⟩ | ⟨k1,k2⟩
 ·rw [h2,k2]
 ·omega
 ·omega
 ·rw [h2] at k2;exact Option.some.inj k2
structure WdT (t:TubeD):Prop where
 frm:I64 t.frm
 till:I64 t.to
 p:WdB t.p
 v:WdB t.v
 m:WdS t.m
theorem wd_minmax {a b:Int} (ha:I64 a) (hb:I64 b):I64 (min a b)∧I64 (max a b):=by unfold I64 at *;omega
theorem wd_stepT (p:PlanetD) (r:ArcR) (s:StateD) (hs:I64W s) (h:Int):WdT (stepP p r s h).1.2:=by
 have hen:WdS (massM r.a s h 0).1.1:=wd_addM _ _ _;have hms:WdS (massM r.a s h 0).1.2:=wd_subM _ _ _;unfold stepP stepF stepT;generalize (massM r.a s h 0).1.2=ms at hms
 generalize (massM r.a s h 0).2=em
 generalize (massM r.a s h 0).1.1=en at hen
 have hno:WdT noTb:=⟨by unfold I64 noTb;decide,by unfold I64 noTb;decide,⟨wd_zero,wd_zero,wd_zero⟩,⟨wd_zero,wd_zero,wd_zero⟩,wd_zero⟩
 split
 ·split
  ·have hx:=wd_tubeK (F:=forceM p r.a) (x:=⟨s.p,s.v⟩) (d:=dS h) (m:=ms) 8 ⟨s.p,s.v⟩ em ⟨hs.2.1,hs.2.2.1⟩;exact ⟨(wd_minmax hs.1 hen.1).1,(wd_minmax hs.1 hen.1).2,hx.1,hx.2,hms⟩
  ·exact hno
 ·exact hno
theorem runS_tubes {p:PlanetD} {r:ArcR} {s:StateD} (hs:I64W s) (l:List Int):(runS (stepP p r) s l).2=0→I64W (runS (stepP p r) s l).1.1∧∀ tb ∈ (runS (stepP p r) s l).1.2,WdT tb:=by
 refine snocInd (P:=fun l=>(runS (stepP p r) s l).2=0→I64W (runS (stepP p r) s l).1.1∧∀ tb ∈ (runS (stepP p r) s l).1.2,WdT tb) (fun _=>⟨hs,fun tb h=>(List.not_mem_nil h).elim⟩) (fun l x ih h=>?_) l
 rw [runS_snoc] at h ⊢;unfold stepR at h ⊢;by_cases h1:(runS (stepP p r) s l).2=0
 ·rw [if_pos h1] at h ⊢;obtain ⟨i1,i2⟩:=ih h1;by_cases h2:(stepP p r (runS (stepP p r) s l).1.1 x).2=0
  ·rw [if_pos h2];refine ⟨wd_stepP p r _ x,fun tb hm=>?_⟩
   rcases List.mem_append.1 hm with q | q
   ·exact i2 tb q
   ·rw [List.mem_singleton.1 q];exact wd_stepT p r _ i1 x
  ·rw [if_neg h2] at h;exact absurd h h2
 ·rw [if_neg h1] at h;exact absurd h h1
theorem fly_wd {p:PlanetD} {v:Nat→ArcR} {s:StateD} (hs:I64W s):∀ {n:Nat} {S:StateD} {st:List StateD} {sg:List (List TubeD)},FlyTo p v s n S st sg→I64W S∧(∀ S ∈ st,I64W S)∧∀ l ∈ sg,∀ tb ∈ l,WdT tb
 | 0,_,_,_,h=>by obtain ⟨rfl,rfl,rfl⟩:=h;exact ⟨hs,fun _ h=>(List.not_mem_nil h).elim,fun _ h=>(List.not_mem_nil h).elim⟩
 | n+1,S,_,_,h=>by
  obtain ⟨S0,st0,sg0,S1,tb,m,h0,h1,h2,_,rfl,rfl,rfl⟩:=h;obtain ⟨i1,i2,i3⟩:=fly_wd hs h0;have ht:=runS_tubes (p:=p) (r:=v n) i1 (lensL (v n).a) (congrArg Prod.snd h1);rw [h1] at ht;have hm:WdS m:=by have:=wd_sub S1.m (v n).a.drop;rwa [h2] at this
  have hS:I64W ⟨S1.t,S1.p,S1.v,m⟩:=⟨ht.1.1,ht.1.2.1,ht.1.2.2.1,hm⟩;refine ⟨hS,fun S h=>?_,fun l h=>?_⟩
  ·rcases List.mem_append.1 h with q | q
   ·exact i2 S q
   ·rw [List.mem_singleton.1 q];exact hS
  ·rcases List.mem_append.1 h with q | q
   ·exact i3 l q
   ·rw [List.mem_singleton.1 q];exact ht.2
def offT (sg:List (List TubeD)) (k:Nat):Nat:=(sg.take k).flatten.length
theorem offT_succ {sg:List (List TubeD)} {k:Nat} {l:List TubeD} (h:sg[k]?=some l):offT sg (k+1)=offT sg k+l.length:=by
 unfold offT;obtain ⟨hk,e⟩:=List.getElem?_eq_some_iff.1 h;rw [List.take_succ_eq_append_getElem hk,List.flatten_append,List.length_append,e];simp
theorem offT_le {sg:List (List TubeD)} {k:Nat}:offT sg k≤sg.flatten.length:=by
 unfold offT;have e:sg.flatten=(sg.take k).flatten ++ (sg.drop k).flatten:=by rw [← List.flatten_append,List.take_append_drop]
 rw [e,List.length_append];omega
theorem offT_get {sg:List (List TubeD)} {k j:Nat} {l:List TubeD} {tb:TubeD} (h:sg[k]?=some l) (hj:l[j]?=some tb):sg.flatten[offT sg k+j]?=some tb:=by
 obtain ⟨hk,e⟩:=List.getElem?_eq_some_iff.1 h;have e2:sg.flatten=(sg.take k).flatten ++ (l ++ (sg.drop (k+1)).flatten):=by
  rw [← e,← List.flatten_cons,← List.flatten_append,List.getElem_cons_drop,List.take_append_drop]
 rw [e2];unfold offT;rw [List.getElem?_append_right (by omega),Nat.add_sub_cancel_left,List.getElem?_append_left (List.getElem?_eq_some_iff.1 hj).1]
 exact hj
theorem seg_of {α:Type} (f:α→Array Value) (sz:Nat) (hf:∀ a,(f a).size=sz):∀ (l:List α) (i:Nat) (a:α),l[i]?=some a→((l.flatMap fun a=>(f a).toList).drop (i * sz)).take sz=(f a).toList
 | [],i,a,h=>by simp at h
 | x :: l,0,a,h=>by
  simp at h;subst h
  rw [List.flatMap_cons,Nat.zero_mul,List.drop_zero,List.take_append_of_le_length (by simp [hf]),List.take_of_length_le (by simp [hf])]
 | x :: l,i+1,a,h=>by
  rw [List.flatMap_cons,show (i+1) * sz=(f x).toList.length+i * sz by rw [Array.length_toList,hf,Nat.add_mul];omega,List.drop_append,Nat.add_sub_cancel_left,List.drop_of_length_le (by omega),List.nil_append,seg_of f sz hf l i a (by simpa using h)]
theorem lst_seg {α:Type} (f:α→Array Value) {sz:Nat} (hf:∀ a,(f a).size=sz) {g cap n:Nat} {cur:Array Value} {l:List α} (hl:LstAt sz (.slice (some ⟨g,0,none⟩) n cap) cur n (l.flatMap fun a=>(f a).toList)) {i:Nat} {a:α} (hi:l[i]?=some a) (hn:i<n) :
  (cur.toList.drop (i * sz)).take (f a).size=(f a).toList:=by
 rcases hl.2 with ⟨h,_⟩ | ⟨g',cap',h,_,_,_,h5⟩
 ·cases h
 ·have e:=seg_of f sz hf l i a hi;rw [← h5] at e;rw [hf];have h1:i * sz+sz≤n * sz:=by
   have:=Nat.mul_le_mul_right sz (show i+1≤n from hn)
   rw [Nat.add_mul] at this;omega
  rw [List.drop_take,List.take_take] at e;rwa [Nat.min_eq_left (by omega)] at e
end Go.Proofs.YtmkoegljnebdiaaGreat
