/- What is proved: the texts Og Fk Fo Mv, one behind the other; each says at its head what it proves, and under which conditions. -/
import Derived.Test.YtmkoegljnebdiaaGreatdPAborts17
namespace Go.Proofs.YtmkoegljnebdiaaGreat
open Go.RowKit
set_option maxRecDepth 100000
set_option maxHeartbeats 16000000

def stopT (y:StateD) (m:SpanD):TubeD:=⟨y.t,y.t,y.p,y.v,m⟩
structure FlK (p:PlanetD) (y z:StateD) (tb:TubeD):Prop where
 wd:I64W y
 wt:I64W (stOf tb)
 frm:tb.frm=y.t
 till:tb.to=z.t
 ok:tubeB tb=true→tubeB (stopT y tb.m)=true
 law:∀ m,ModeOk m→WdM m→Sure p m (stOf tb)→Lost p m (stOf (stopT y tb.m))→False
theorem wd_stopT {y:StateD} {tb:TubeD} (h1:I64W y) (h2:I64W (stOf tb)):I64W (stOf (stopT y tb.m)):=⟨h1.1,h1.2.1,h1.2.2.1,h2.2.2.2⟩
theorem flight_law {p:PlanetD} {n:Nat} {v:Nat→ArcR} {s S:StateD} {st:List StateD} {sg:List (List TubeD)} (wp:WdP p) (wv:∀ i,WdA (v i).a) (ws:I64W s) (hg:GoodF p n (fun i=>oneR (v i)) s) (hf:FlyTo p (fun i=>oneR (v i)) s n S st sg) :
  st.length=n∧sg.flatten.length=n∧∀ k,k<n→∃ y z,AtK s st k y∧st[k]?=some z∧FlK p y z (sg.flatten.getD k noTb):=by
 have hv:∀ i,i<n→0<((fun i=>oneR (v i)) i).a.time∧((fun i=>oneR (v i)) i).a.step=((fun i=>oneR (v i)) i).a.time:=fun i hi=>⟨(arcT_pos (hg.arcs i hi)).1,rfl⟩;obtain ⟨h1,_,h2,h3⟩:=fly_one n hv S st sg hf;obtain ⟨_,hw2,hw3⟩:=fly_wd ws hf;refine ⟨h1,h2,fun k hk=>?_⟩
 obtain ⟨y,S1,tb,b1,b2,b3,b4,z,b5,b6⟩:=h3 k hk;have hgd:sg.flatten.getD k noTb=tb:=by rw [List.getD_eq_getElem?_getD,b3];rfl
 rw [hgd];have wy:I64W y:=by
  rcases b1 with ⟨_,rfl⟩ | ⟨_,c2⟩
  ·exact ws
  ·exact hw2 _ (List.mem_of_getElem? c2)
 have wtb:=hw3 _ (List.mem_of_getElem? b2) tb (by simp)
 have wa:WdA (oneR (v k)).a:=⟨(wv k).time,(wv k).time,(wv k).thrust,(wv k).flow,(wv k).dir,(wv k).drag,(wv k).drop⟩;have hb:=b4;unfold stepP at hb;have htm:=step_times (hv k hk).1 hb;have hck:=step_chk hb;have wtm:I64W (stOf tb):=⟨by rw [show (stOf tb).t=tb.frm from rfl,htm.1];exact wy.1,wtb.p,wtb.v,wtb.m⟩
 refine ⟨y,z,b1,b5,wy,wtm,htm.1,by rw [htm.2,b6],fun ht=>?_,fun m hm wm h4 h5=>?_⟩
 ·unfold tubeB stateB stOf at ht;unfold tubeB stateB stOf stopT;simp only [Bool.and_eq_true] at ht ⊢;obtain ⟨q1,q2,⟨⟨q3,q4⟩,q5⟩,q6⟩:=ht;have q3':numB y.t=true:=by rw [← htm.1];exact q3
  exact ⟨q3',decide_eq_true (Int.le_refl _),⟨⟨q3',hck.1,hck.2⟩,q5⟩,q6⟩
 ·have ok:=okF_of hg.p wp (hg.arcs k hk) wa;have ol:=ok_lens (hg.arcs k hk) wa (oneR (v k)).a.time (by rw [one_lens (hv k hk).1 rfl];simp)
  exact escape_law ok wy (hv k hk).1 ol hb (fun i hi=>⟨okF_of hg.p wp (hm.arcs i hi) (wm.arcs i),fun h hh=>ok_lens (hm.arcs i hi) (wm.arcs i) h hh⟩) h4 h5
end Go.Proofs.YtmkoegljnebdiaaGreat
namespace Go.Proofs.YtmkoegljnebdiaaGreat
open Go.RowKit Go.Shelf
set_option maxRecDepth 100000
set_option maxHeartbeats 16000000
end Go.Proofs.YtmkoegljnebdiaaGreat
namespace Go.Proofs.YtmkoegljnebdiaaGreat
open Go.RowKit
set_option maxRecDepth 100000
set_option maxHeartbeats 16000000

def pullF (b:BoxD):SixD→SpanD→CM BoxD:=fun _ _ e=>(b,e)
theorem step62_any (p:PlanetD) (a:ArcD) (s:StateD) (h:Int) (hmu:p.mu=zeroS) (hsp:p.spin=zeroS) (hth:a.thrust=zeroS) (hfl:a.flow=zeroS) (hs:I64W s) (wp:WdB p.pull) (hh:I64 h) (w:World) :
  Calls Tryz.prog 62 #[modelV p a none 0 0,stateV s,.int .i64 h] w fun v w'=>v=.returned (.tuple #[stateV (stepF (pullF p.pull) a s h).1.1,tubeV (stepF (pullF p.pull) a s h).1.2,.int .i64 (stepF (pullF p.pull) a s h).2])∧Below w.heap.size w w' :=
 step_any (pullF p.pull) p a none 0 0 s h hs (by rw [hfl];exact wd_zero) hh w (fun cb e x m w' _ _ _ _ hk=>force0_any p a none 0 hmu hsp hth cb e x m w' hk) (fun _ _ _=>wp) (fun _ _ _ _=>rfl)
theorem step21_any (p:PlanetD) (a:ArcD) (s:StateD) (h:Int) (hmu:p.mu=zeroS) (hsp:p.spin=zeroS) (hth:a.thrust=zeroS) (hfl:a.flow=zeroS) (hs:I64W s) (wp:WdB p.pull) (hh:I64 h) (hd:WdB a.dir)
  (hp:planetB p=true) (ha:arcB a=true) (hsb:stateB s=true) (hn:numB h=true) (h0:h ≠ 0) (w:World) :
  Calls Tryz.prog 21 #[planetV p,arcV a none 0 0,stateV s,.int .i64 h] w fun v w'=>v=.returned (.tuple #[stateV (stepF (pullF p.pull) a s h).1.1,tubeV (stepF (pullF p.pull) a s h).1.2,.int .i64 (stepF (pullF p.pull) a s h).2])∧Below w.heap.size w w':=by
 have HCP:=hZ (fun w=>checkPlanet_any p w);have HCA:=hZ (fun w=>checkArc0_any a none 0 hd w);have HCS:=hZ (fun w=>checkState_any s w);have HV:=hZ (fun w=>fvalid_any h w);rw [hp,if_pos rfl] at HCP;rw [ha,if_pos rfl] at HCA;rw [hsb,if_pos rfl] at HCS;rw [hn] at HV;have HST:=hZ (fun w=>step62_any p a s h hmu hsp hth hfl hs wp hh w);refine pQ fun PQ hPQ=>?_
 have HFIN:Hid (∀ w' S t e,stepF (pullF p.pull) a s h=((S,t),e)→Fr w [] [] w'→PQ (.returned (.tuple #[stateV S,tubeV t,.int .i64 e])) w'):=hZ fun w' S t e hr hf=>by
  rw [← hPQ,hr];exact ⟨rfl,hf.toBelow⟩
 obtain ⟨⟨⟨s2,t2⟩,e2⟩,hst⟩:=eX (stepF (pullF p.pull) a s h);rw [hst] at HST HFIN;have h0b:(h == 0)=false:=by simpa using h0
 clear hPQ hst hmu hsp hth hfl hs wp hh hd hp ha hsb hn;obtain ⟨⟨mul,muh⟩,⟨rl,rh⟩,⟨ol,oh⟩,⟨sl,sh⟩,⟨⟨pxl,pxh⟩,⟨pyl,pyh⟩,⟨pzl,pzh⟩⟩⟩:=p;obtain ⟨time,step,⟨tl,th⟩,⟨fl,fh⟩,⟨⟨dxl,dxh⟩,⟨dyl,dyh⟩,⟨dzl,dzh⟩⟩,drag,⟨dl,dh⟩⟩:=a;obtain ⟨ut,⟨⟨upxl,upxh⟩,⟨upyl,upyh⟩,⟨upzl,upzh⟩⟩,⟨⟨uvxl,uvxh⟩,⟨uvyl,uvyh⟩,⟨uvzl,uvzh⟩⟩,⟨uml,umh⟩⟩:=s;obtain ⟨rt,⟨⟨rpxl,rpxh⟩,⟨rpyl,rpyh⟩,⟨rpzl,rpzh⟩⟩,⟨⟨rvxl,rvxh⟩,⟨rvyl,rvyh⟩,⟨rvzl,rvzh⟩⟩,⟨rml,rmh⟩⟩:=s2;obtain ⟨yf,yg,⟨⟨ypxl,ypxh⟩,⟨ypyl,ypyh⟩,⟨ypzl,ypzh⟩⟩,⟨⟨yvxl,yvxh⟩,⟨yvyl,yvyh⟩,⟨yvzl,yvzh⟩⟩,⟨yml,ymh⟩⟩:=t2;unfold planetV at HCP ⊢;unfold arcV at HCA ⊢;unfold stateV at HCS ⊢;unfold modelV stateV tubeV at HST;unfold stateV tubeV at HFIN;dsimp only at HCP HCA HCS HST HFIN ⊢;obtain ⟨qb,W0,hqb,hW0,HF0⟩:=fM (Fr.start w) [(#[mul,muh,rl,rh,ol,oh,sl,sh,pxl,pxh,pyl,pyh,pzl,pzh],36),(#[time,step,tl,th,fl,fh,dxl,dxh,dyl,dyh,dzl,dzh,.slice none 0 0,dl,dh],46),(#[ut,upxl,upxh,upyl,upyh,upzl,upzh,uvxl,uvxh,uvyl,uvyh,uvzl,uvzh,uml,umh],38),(#[(0:Int),(0:Int),(0:Int),(0:Int),(0:Int),(0:Int),(0:Int),(0:Int),(0:Int),(0:Int),(0:Int),(0:Int),(0:Int),(0:Int),(0:Int)],38),(#[(0:Int),(0:Int),(0:Int),(0:Int),(0:Int),(0:Int),(0:Int),(0:Int),(0:Int),(0:Int),(0:Int),(0:Int),(0:Int),(0:Int),(0:Int),(0:Int)],58)];go_enter Tryz.func21,Tryz.ntmps21;go_upto_region 1 with (fail);clear hW0 hqb;go_wp2_with (refine lF (gN HF0 0) #[mul,muh,rl,rh,ol,oh,sl,sh,pxl,pxh,pyl,pyh,pzl,pzh] u_36 i_36 ?_)
 refine mB HF0.out (HCP.out _) fun w1 HF2=>?_;go_wp2_with (refine wpLoadFG rfl 46 _ rfl (qb+1) 0 rfl _ _ (HF2.out.get 1 rfl) #[time,step,tl,th,fl,fh,dxl,dxh,dyl,dyh,dzl,dzh,.slice none 0 0,dl,dh] rfl _ u_46 rfl i_46 ?_)
 refine mB HF2.out (HCA.out _) fun w3 HF4=>?_;go_wp2_with (refine wpLoadFG rfl 38 _ rfl (qb+1+1) 0 rfl _ _ (HF4.out.get 2 rfl) #[ut,upxl,upxh,upyl,upyh,upzl,upzh,uvxl,uvxh,uvyl,uvyh,uvzl,uvzh,uml,umh] rfl _ u_38 rfl i_38 ?_)
 refine mB HF4.out (HCS.out _) fun w5 HF6=>?_;go_wp2_with fail
 refine (HV.out _).mono ?_
 rintro e w7 ⟨rfl,hw⟩;rw [hw];clear hw w7;go_wp2_with (first
   | (refine lF (gN HF6 0) #[mul,muh,rl,rh,ol,oh,sl,sh,pxl,pxh,pyl,pyh,pzl,pzh] u_36 i_36 ?_)
   | (refine lF (gN HF6 1) #[time,step,tl,th,fl,fh,dxl,dxh,dyl,dyh,dzl,dzh,.slice none 0 0,dl,dh] u_46 i_46 ?_)
   | (refine lF (gN HF6 2) #[ut,upxl,upxh,upyl,upyh,upzl,upzh,uvxl,uvxh,uvyl,uvyh,uvzl,uvzh,uml,umh] u_38 i_38 ?_))
 refine mB HF6.out (HST.out _) fun w8 HF9=>?_;go_wp2_with (first
   | (refine sW 3 HF9.out i_38 fun w10 HF11=>?_)
   | (refine sW 4 HF11.out i_58 fun w12 HF13=>?_))
 refine bodyPost_ret (results_ccT rfl _ _ (qb+1+1+1) (qb+1+1+1+1) _ _ _ _ _ _ rfl (HF13.out.get 3 rfl) rfl (HF13.out.get 4 rfl) u_38 rfl i_38 u_58 rfl i_58) rfl ?_
 exact HFIN.out _ ⟨rt,⟨⟨rpxl,rpxh⟩,⟨rpyl,rpyh⟩,⟨rpzl,rpzh⟩⟩,⟨⟨rvxl,rvxh⟩,⟨rvyl,rvyh⟩,⟨rvzl,rvzh⟩⟩,⟨rml,rmh⟩⟩ ⟨yf,yg,⟨⟨ypxl,ypxh⟩,⟨ypyl,ypyh⟩,⟨ypzl,ypzh⟩⟩,⟨⟨yvxl,yvxh⟩,⟨yvyl,yvyh⟩,⟨yvzl,yvzh⟩⟩,⟨yml,ymh⟩⟩ e2 rfl HF13.out.drop
def awP1:PlanetD:=⟨zeroS,⟨25769803776,25769803776⟩,zeroS,zeroS,zeroB3⟩
def awB1:BoxD:=⟨⟨12884901888,12884901888⟩,⟨17179869184,17179869184⟩,⟨51539607552,51539607552⟩⟩
def awA2:ArcD:=⟨21474836480,8589934592,zeroS,zeroS,zeroB3,[],zeroS⟩
def awP3:PlanetD:=⟨zeroS,zeroS,zeroS,zeroS,⟨zeroS,zeroS,⟨-33554432,-33554432⟩⟩⟩
def awA3:ArcD:=⟨4294967296,4294967296,zeroS,zeroS,zeroB3,[],zeroS⟩
def awS3:StateD:=⟨0,zeroB3,⟨⟨4294967296,4294967296⟩,zeroS,⟨4294967296,4294967296⟩⟩,⟨4294967296,4294967296⟩⟩
theorem aw_height:heightF awP1 awB1=(⟨30064771072,30064771072⟩,0):=by kernel_rfl
theorem aw_steps:stepsB awA2=(3,0):=by kernel_rfl
theorem aw_step:(stepF (pullF awP3.pull) awA3 awS3 68719476736).2=0∧(stepF (pullF awP3.pull) awA3 awS3 68719476736).1.1.t=68719476736∧(stepF (pullF awP3.pull) awA3 awS3 68719476736).1.1.p.z.lo=64424509440:=⟨by kernel_rfl,by kernel_rfl,by kernel_rfl⟩
theorem wd_b3:WdB zeroB3:=⟨wd_zero,wd_zero,wd_zero⟩
theorem awake_any (w:World):Calls Tryz.prog 5 #[] w fun e w'=>e=.returned (.bool true)∧Below w.heap.size w w':=by
 refine pQ fun PQ hPQ=>?_
 have HFIN:Hid (∀ w',Fr w [] [] w'→PQ (.returned (.bool true)) w'):=hZ fun w' h=>by rw [← hPQ];exact ⟨rfl,h.toBelow⟩
 have wdc:∀ a b:Int,-9223372036854775808≤a∧a≤9223372036854775807→-9223372036854775808≤b∧b≤9223372036854775807→WdS ⟨a,b⟩:=fun a b h k=>⟨h,k⟩;have H1:=hZ (fun w=>height_any awP1 awB1 (wdc _ _ (by decide) (by decide)) ⟨wdc _ _ (by decide) (by decide),wdc _ _ (by decide) (by decide),wdc _ _ (by decide) (by decide)⟩ w)
 rw [aw_height] at H1;have H2:=hZ (fun w=>steps0_any awA2 none 0 wd_b3 (by unfold I64;decide) (by unfold I64;decide) w)
 rw [aw_steps] at H2;have H3:=hZ (fun w=>step21_any awP3 awA3 awS3 68719476736 rfl rfl rfl rfl ⟨by unfold I64;decide,wd_b3,⟨wdc _ _ (by decide) (by decide),wd_zero,wdc _ _ (by decide) (by decide)⟩,wdc _ _ (by decide) (by decide)⟩ ⟨wd_zero,wd_zero,wdc _ _ (by decide) (by decide)⟩ (by unfold I64;decide) wd_b3 (by kernel_rfl) (by kernel_rfl) (by kernel_rfl) (by kernel_rfl) (by decide) w)
 obtain ⟨e1,e2,e3⟩:=aw_step;obtain ⟨⟨⟨s2,t2⟩,er⟩,hst⟩:=eX (stepF (pullF awP3.pull) awA3 awS3 68719476736);rw [hst] at H3 e1 e2 e3;dsimp only at H3 e1 e2 e3;subst e1;obtain ⟨rt,⟨⟨rpxl,rpxh⟩,⟨rpyl,rpyh⟩,⟨rpzl,rpzh⟩⟩,⟨⟨rvxl,rvxh⟩,⟨rvyl,rvyh⟩,⟨rvzl,rvzh⟩⟩,⟨rml,rmh⟩⟩:=s2;obtain ⟨yf,yg,⟨⟨ypxl,ypxh⟩,⟨ypyl,ypyh⟩,⟨ypzl,ypzh⟩⟩,⟨⟨yvxl,yvxh⟩,⟨yvyl,yvyh⟩,⟨yvzl,yvzh⟩⟩,⟨yml,ymh⟩⟩:=t2;dsimp only at e2 e3;subst e2 e3;unfold planetV boxV spanV at H1;unfold arcV at H2;unfold planetV arcV stateV tubeV at H3;dsimp only at H1 H2 H3;have heq:∀ w,(binOp .eql 31 (.agg #[.int .i64 30064771072,.int .i64 30064771072]) (.agg #[.int .i64 30064771072,.int .i64 30064771072])).run Tryz.prog w=.ok (.bool true) w:=fun w=>by kernel_rfl
 clear hPQ hst;have HF0:Hid (Fr w [] [] w):=hZ (Fr.start w);go_enter Tryz.func5,Tryz.ntmps5;go_upto_region 1 with (fail);obtain ⟨g1,w1,hg1,hw1,HF2⟩:=fA HF0.out #[.int .i64 0,.int .i64 0] 31;go_wp2_with (refine sW 0 HF2.out i_span fun w3 HF4=>?_;clear hw1 hg1)
 refine mB HF4.out (H1.out _) fun w5 HF6=>?_;obtain ⟨g7,w7,hg7,hw7,HF8⟩:=fA HF6.out #[.int .i64 0,.int .i64 0] 31;go_wp2_with (refine sW 1 HF8.out i_span fun w9 HF10=>?_;clear hw7 hg7)
 refine mB HF10.out (H2.out _) fun w11 HF12=>?_;go_wp2_with (refine lF (gN HF12 0) #[.int .i64 4294967296,.int .i64 4294967296] u_span i_span ?_)
 refine mB HF12.out (H3.out _) fun w13 HF14=>?_;obtain ⟨g15,w15,hg15,hw15,HF16⟩:=fA HF14.out #[(0:Int),(0:Int),(0:Int),(0:Int),(0:Int),(0:Int),(0:Int),(0:Int),(0:Int),(0:Int),(0:Int),(0:Int),(0:Int),(0:Int),(0:Int)] 38;obtain ⟨g17,w17,hg17,hw17,HF18⟩:=fA HF16.out #[(0:Int),(0:Int),(0:Int),(0:Int),(0:Int),(0:Int),(0:Int),(0:Int),(0:Int),(0:Int),(0:Int),(0:Int),(0:Int),(0:Int),(0:Int),(0:Int)] 58;go_wp2_with (first
   | (refine sW 2 HF18.out i_38 fun w19 HF20=>?_;clear hw15 hg15 hw17 hg17)
   | (refine wpLoadFG rfl 31 _ rfl g7 0 rfl _ _ (HF22.out.get 1 rfl) #[.int .i64 30064771072,.int .i64 30064771072] rfl _ u_span rfl i_span ?_)
   | (refine sW 3 HF20.out i_58 fun w21 HF22=>?_;have c23:=cA (gN HF22 2) 0;have c24:=cA (gN HF22 2) 5))
 clear c23 c24;exact HFIN.out _ HF22.out.drop
end Go.Proofs.YtmkoegljnebdiaaGreat
