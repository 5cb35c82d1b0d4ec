/- What is proved: the texts Qe Rd Rs, one behind the other; each says at its head what it proves, and under which conditions. -/
import Derived.Test.YtmkoegljnebdiaaGreatRows
import Derived.ProofKit
import Derived.OpenShut
import Derived.JoinedOf
import Derived.JoinedCond
import Derived.SizedLaws
import Derived.ChangeSame
import Derived.Carry
import Derived.Test.YtmkoegljnebdiaaGreatdPLands13
namespace Go.Proofs.YtmkoegljnebdiaaGreat
open Go.RowKit Go.Shelf
set_option maxRecDepth 100000
set_option maxHeartbeats 16000000

theorem topLands_any (x0 x1 x2 x3 x4 x5 x6 x7 off:Int) (hx0:0≤x0∧x0≤255) (hx1:0≤x1∧x1≤255) (hx2:0≤x2∧x2≤255) (hx3:0≤x3∧x3≤255) (hx4:0≤x4∧x4≤255) (hx5:0≤x5∧x5≤255) (hx6:0≤x6∧x6≤255) (hx7:0≤x7∧x7≤255) (ho:0≤off∧off≤65535)
  (nm:ByteArray) (A:Option Addr) (n c:Nat) (v:Nat→SpotD) (w:World) (hz:ZoneAt w A n v) :
  Calls Tryz.prog 3 #[.agg #[.int .u8 x0,.int .u8 x1,.int .u8 x2,.int .u8 x3,.int .u8 x4,.int .u8 x5,.int .u8 x6,.int .u8 x7,.int .u16 off],zoneV nm A n c] w fun e w'=>e=.returned (.bool true)∧Below w.heap.size w w':=by
 obtain ⟨PQ,hPQ⟩:∃ Q:Ending→World→Prop,(fun e w'=>e=.returned (.bool true)∧Below w.heap.size w w')=Q:=⟨_,rfl⟩
 have HFIN:Hid (∀ w',Fr w [] [] w'→PQ (.returned (.bool true)) w'):=Lib.hid fun w' h=>by rw [← hPQ];exact ⟨rfl,h.toBelow⟩
 rw [hPQ]
 have HAW:=Lib.hid (fun w=>awake_any w)
 have HNU:=Lib.hid (fun (N:List Ent) (w':World) (hf:Fr w [] N w')=>newUnit_any nm A n c v w' (hz.below hf.toBelow))
 have HCZ:Hid (∀ (s:SpotD) {N:List Ent} {w':World},Fr w [] N w'→Calls Tryz.prog 11 #[zoneV nm A n c,spotV s] w' fun e w''=>(∃ b,e=.returned (.bool b)∧(b=true→ZoneOk n v∧∀ k,k<n→0≤leftI (v k) (v ((k+1) % n)) s))∧Below w'.heap.size w' w''):=Lib.hid fun s N w' hf=>contains11_any nm A n c v s w' (hz.below hf.toBelow)
 have HCF:Hid (∀ (r:RectD) (s:SpotD),r.a.x≤s.x∧s.x≤r.b.x∧r.a.y≤s.y∧s.y≤r.b.y→(∃ du dv,SepUV du dv n v 4 (cornP r))→∀ {N:List Ent} {w':World},Fr w [] N w'→Calls Tryz.prog 11 #[zoneV nm A n c,spotV s] w' fun e w''=>e=.returned (.bool false)∧Below w'.heap.size w' w''):=Lib.hid fun r s hb hs N w' hf=>by
  refine (HCZ.out s hf).mono ?_
  rintro e w'' ⟨⟨b,rfl,hbz⟩,hw⟩
  refine ⟨?_,hw⟩
  cases b with
  | false=>rfl
  | true =>
   obtain ⟨z1,z2⟩:=hbz rfl
   exact (no_sep z1 z2 hb.1 hb.2.1 hb.2.2.1 hb.2.2.2 hs).elim
 clear HCZ
 unfold zoneV spotV at HCF
 unfold zoneV
 -- the numbers
 obtain ⟨N,hN⟩:∃ N:Nat,x0 % 16=(N:Int):=⟨(x0 % 16).toNat,by omega⟩
 obtain ⟨r1,hr1⟩:∃ r,x1 % 8=r:=⟨_,rfl⟩
 obtain ⟨r7,hr7⟩:∃ r,x7 % 8=r:=⟨_,rfl⟩
 have f1:x0.tmod 16=(N:Int):=by rw [Int.tmod_eq_emod_of_nonneg hx0.1];exact hN
 have f2:x1.tmod 8=r1:=by rw [Int.tmod_eq_emod_of_nonneg hx1.1];exact hr1
 have f3:x7.tmod 8=r7:=by rw [Int.tmod_eq_emod_of_nonneg hx7.1];exact hr7
 obtain ⟨st,hst⟩:∃ z,1+r1=z:=⟨_,rfl⟩
 obtain ⟨k,hk⟩:∃ z,1+r7=z:=⟨_,rfl⟩
 obtain ⟨g2,hg2⟩:∃ z,2 * k=z:=⟨_,rfl⟩
 obtain ⟨va,hva⟩:∃ z,x4 - 128=z:=⟨_,rfl⟩
 obtain ⟨vb,hvb⟩:∃ z,x5 - 128=z:=⟨_,rfl⟩
 obtain ⟨vc,hvc⟩:∃ z,x6 - 128=z:=⟨_,rfl⟩
 have bN:N≤15:=by omega
 have b1:0≤r1∧r1≤7:=by omega
 have b7:0≤r7∧r7≤7:=by omega
 have bs:1≤st∧st≤8:=by omega
 have bk:1≤k∧k≤8:=by omega
 have ba:-128≤va∧va≤127:=by omega
 have bb:-128≤vb∧vb≤127:=by omega
 have bc:-128≤vc∧vc≤127:=by omega
 obtain ⟨T,hT⟩:∃ z,(N:Int) * st=z:=⟨_,rfl⟩
 have bT:-120≤T∧T≤120:=by have:=bdm (x:=(N:Int)) (y:=st) 15 8 (by omega) (by omega);rw [hT] at this;omega
 obtain ⟨G1,hG1⟩:∃ z,g2 * T=z:=⟨_,rfl⟩
 have bG1:-2000≤G1∧G1≤2000:=by have:=bdm (x:=g2) (y:=T) 16 120 (by omega) (by omega);rw [hG1] at this;omega
 obtain ⟨G2,hG2⟩:∃ z,G1 * T=z:=⟨_,rfl⟩
 have bG2:-240000≤G2∧G2≤240000:=by have:=bdm (x:=G1) (y:=T) 2000 120 (by omega) (by omega);rw [hG2] at this;omega
 obtain ⟨Q,hQ⟩:∃ z,k * (T * T)=z:=⟨_,rfl⟩
 have hGQ:G2=2 * Q:=by rw [← hQ,← hG2,← hG1,← hg2];grind
 have f4:G2.tdiv 2=Q:=by rw [hGQ,Int.mul_tdiv_cancel_left _ (by decide)]
 obtain ⟨VT,hVT⟩:∃ z,vc * T=z:=⟨_,rfl⟩
 have bVT:-20000≤VT∧VT≤20000:=by have:=bdm (x:=vc) (y:=T) 128 120 (by omega) (by omega);rw [hVT] at this;omega
 obtain ⟨H,hH⟩:∃ z,Q - VT=z:=⟨_,rfl⟩
 obtain ⟨XT,hXT⟩:∃ z,va * T=z:=⟨_,rfl⟩
 have bXT:-20000≤XT∧XT≤20000:=by have:=bdm (x:=va) (y:=T) 128 120 (by omega) (by omega);rw [hXT] at this;omega
 obtain ⟨YT,hYT⟩:∃ z,vb * T=z:=⟨_,rfl⟩
 have bYT:-20000≤YT∧YT≤20000:=by have:=bdm (x:=vb) (y:=T) 128 120 (by omega) (by omega);rw [hYT] at this;omega
 obtain ⟨X1,hX1⟩:∃ z,x2+XT=z:=⟨_,rfl⟩
 obtain ⟨Y1,hY1⟩:∃ z,x3+YT=z:=⟨_,rfl⟩
 obtain ⟨LX,hLX⟩:∃ z,1000 * X1=z:=⟨_,rfl⟩
 obtain ⟨LY,hLY⟩:∃ z,1000 * Y1=z:=⟨_,rfl⟩
 have q0:IntKind.i64.wrap ((N:Int))=(N:Int):=IntWalk.i64_in _ (by omega)
 have q0':wrap64 ((N:Int))=(N:Int):=w64_in (by omega) (by omega)
 have q1:IntKind.i64.wrap (r1)=r1:=IntWalk.i64_in _ (by omega)
 have q1':wrap64 (r1)=r1:=w64_in (by omega) (by omega)
 have q2:IntKind.i64.wrap (1+r1)=st:=by rw [IntWalk.i64_in _ (by omega)];try omega
 have q2':wrap64 (1+r1)=st:=by rw [w64_in (by omega) (by omega)];try omega
 have q3:IntKind.i64.wrap (r7)=r7:=IntWalk.i64_in _ (by omega)
 have q3':wrap64 (r7)=r7:=w64_in (by omega) (by omega)
 have q4:IntKind.i64.wrap (1+r7)=k:=by rw [IntWalk.i64_in _ (by omega)];try omega
 have q4':wrap64 (1+r7)=k:=by rw [w64_in (by omega) (by omega)];try omega
 have q5:IntKind.i64.wrap (2 * k)=g2:=by rw [IntWalk.i64_in _ (by omega)];try omega
 have q5':wrap64 (2 * k)=g2:=by rw [w64_in (by omega) (by omega)];try omega
 have q6:IntKind.i64.wrap (x4)=x4:=IntWalk.i64_in _ (by omega)
 have q6':wrap64 (x4)=x4:=w64_in (by omega) (by omega)
 have q7:IntKind.i64.wrap (x5)=x5:=IntWalk.i64_in _ (by omega)
 have q7':wrap64 (x5)=x5:=w64_in (by omega) (by omega)
 have q8:IntKind.i64.wrap (x6)=x6:=IntWalk.i64_in _ (by omega)
 have q8':wrap64 (x6)=x6:=w64_in (by omega) (by omega)
 have q9:IntKind.i64.wrap (x4 - 128)=va:=by rw [IntWalk.i64_in _ (by omega)];try omega
 have q9':wrap64 (x4 - 128)=va:=by rw [w64_in (by omega) (by omega)];try omega
 have q10:IntKind.i64.wrap (x5 - 128)=vb:=by rw [IntWalk.i64_in _ (by omega)];try omega
 have q10':wrap64 (x5 - 128)=vb:=by rw [w64_in (by omega) (by omega)];try omega
 have q11:IntKind.i64.wrap (x6 - 128)=vc:=by rw [IntWalk.i64_in _ (by omega)];try omega
 have q11':wrap64 (x6 - 128)=vc:=by rw [w64_in (by omega) (by omega)];try omega
 have q12:IntKind.i64.wrap (Q)=Q:=IntWalk.i64_in _ (by omega)
 have q12':wrap64 (Q)=Q:=w64_in (by omega) (by omega)
 have q13:IntKind.i64.wrap (Q - VT)=H:=by rw [IntWalk.i64_in _ (by omega)];try omega
 have q13':wrap64 (Q - VT)=H:=by rw [w64_in (by omega) (by omega)];try omega
 have q14:IntKind.i64.wrap (-g2)=-g2:=IntWalk.i64_in _ (by omega)
 have q14':wrap64 (-g2)=-g2:=w64_in (by omega) (by omega)
 have q15:IntKind.i64.wrap (x2)=x2:=IntWalk.i64_in _ (by omega)
 have q15':wrap64 (x2)=x2:=w64_in (by omega) (by omega)
 have q16:IntKind.i64.wrap (x3)=x3:=IntWalk.i64_in _ (by omega)
 have q16':wrap64 (x3)=x3:=w64_in (by omega) (by omega)
 have q17:IntKind.i64.wrap (T * 4294967296)=T * 4294967296:=IntWalk.i64_in _ (by omega)
 have q17':wrap64 (T * 4294967296)=T * 4294967296:=w64_in (by omega) (by omega)
 have q18:IntKind.i64.wrap (st * 4294967296)=st * 4294967296:=IntWalk.i64_in _ (by omega)
 have q18':wrap64 (st * 4294967296)=st * 4294967296:=w64_in (by omega) (by omega)
 have q19:IntKind.i64.wrap (x2+XT)=X1:=by rw [IntWalk.i64_in _ (by omega)];try omega
 have q19':wrap64 (x2+XT)=X1:=by rw [w64_in (by omega) (by omega)];try omega
 have q20:IntKind.i64.wrap (x3+YT)=Y1:=by rw [IntWalk.i64_in _ (by omega)];try omega
 have q20':wrap64 (x3+YT)=Y1:=by rw [w64_in (by omega) (by omega)];try omega
 have q21:IntKind.i64.wrap (1000 * X1)=LX:=by rw [IntWalk.i64_in _ (by omega)];try omega
 have q21':wrap64 (1000 * X1)=LX:=by rw [w64_in (by omega) (by omega)];try omega
 have q22:IntKind.i64.wrap (1000 * Y1)=LY:=by rw [IntWalk.i64_in _ (by omega)];try omega
 have q22':wrap64 (1000 * Y1)=LY:=by rw [w64_in (by omega) (by omega)];try omega
 have p0:IntKind.i64.wrap ((N:Int) * st)=T:=by rw [hT];exact IntWalk.i64_in _ (by omega)
 have p0':wrap64 ((N:Int) * st)=T:=by rw [hT];exact w64_in (by omega) (by omega)
 have p1:IntKind.i64.wrap (g2 * T)=G1:=by rw [hG1];exact IntWalk.i64_in _ (by omega)
 have p1':wrap64 (g2 * T)=G1:=by rw [hG1];exact w64_in (by omega) (by omega)
 have p2:IntKind.i64.wrap (G1 * T)=G2:=by rw [hG2];exact IntWalk.i64_in _ (by omega)
 have p2':wrap64 (G1 * T)=G2:=by rw [hG2];exact w64_in (by omega) (by omega)
 have p3:IntKind.i64.wrap (vc * T)=VT:=by rw [hVT];exact IntWalk.i64_in _ (by omega)
 have p3':wrap64 (vc * T)=VT:=by rw [hVT];exact w64_in (by omega) (by omega)
 have p4:IntKind.i64.wrap (va * T)=XT:=by rw [hXT];exact IntWalk.i64_in _ (by omega)
 have p4':wrap64 (va * T)=XT:=by rw [hXT];exact w64_in (by omega) (by omega)
 have p5:IntKind.i64.wrap (vb * T)=YT:=by rw [hYT];exact IntWalk.i64_in _ (by omega)
 have p5':wrap64 (vb * T)=YT:=by rw [hYT];exact w64_in (by omega) (by omega)
 obtain ⟨u0,u0'⟩:=u8_small N bN
 have u1:IntKind.u8.wrap (r1)=r1:=IntWalk.u8_in _ (by omega)
 have u1':r1 % 256=r1:=by omega
 have u2:IntKind.u8.wrap (r7)=r7:=IntWalk.u8_in _ (by omega)
 have u2':r7 % 256=r7:=by omega
 have HR1:=Lib.hid (And.intro f1 (And.intro f2 (And.intro f3 (And.intro u0 (And.intro u0' (And.intro u1 (And.intro u1' (And.intro u2 (And.intro u2' (And.intro q0 (And.intro q0' (And.intro q1 (And.intro q1' (And.intro q2 (And.intro q2' (And.intro q3 (And.intro q3' (And.intro q4 (And.intro q4' (And.intro q5 q5'))))))))))))))))))))
 have HR2:=Lib.hid (And.intro q6 (And.intro q6' (And.intro q7 (And.intro q7' (And.intro q8 (And.intro q8' (And.intro q9 (And.intro q9' (And.intro q10 (And.intro q10' (And.intro q11 q11')))))))))))
 have HR3:=Lib.hid (And.intro p0 p0')
 have HR4:=Lib.hid (And.intro p1 (And.intro p1' (And.intro p2 (And.intro p2' (And.intro f4 (And.intro q12 (And.intro q12' (And.intro p3 (And.intro p3' (And.intro q13 q13'))))))))))
 have HR8:=Lib.hid (And.intro q14 q14')
 have HR9:=Lib.hid (And.intro q15 (And.intro q15' (And.intro q16 q16')))
 have HR10:=Lib.hid (And.intro q17 (And.intro q17' (And.intro q18 q18')))
 have HR16:=Lib.hid (And.intro q15 (And.intro q15' (And.intro q16 (And.intro q16' (And.intro p4 (And.intro p4' (And.intro p5 (And.intro p5' (And.intro q19 (And.intro q19' (And.intro q20 (And.intro q20' (And.intro q21 (And.intro q21' (And.intro q22 q22')))))))))))))))
 clear f1 f2 f3 f4 p0 p0' p1 p1' p2 p2' p3 p3' p4 p4' p5 p5' q0 q0' q1 q1' q10 q10' q11 q11' q12 q12' q13 q13' q14 q14' q15 q15' q16 q16' q17 q17' q18 q18' q19 q19' q2 q2' q20 q20' q21 q21' q22 q22' q3 q3' q4 q4' q5 q5' q6 q6' q7 q7' q8 q8' q9 q9' u0 u0' u1 u1' u2 u2'
 -- the contracts that speak of them
 have HLAW:Hid (1≤H→∀ l,flyF (shotP g2 off) (shotA T st) (shotS x2 x3 H va vb vc off) N (shotG T st g2 off)=(l,0)→l.length=N∧∀ (i:Nat) (tb:TubeD),l[i]?=some tb→(WdB tb.p∧WdB tb.v)∧∀ r,impactI (fallOf tb g2 off)=(r,0)→r.a.x≤LX∧LX≤r.b.x∧r.a.y≤LY∧LY≤r.b.y):=Lib.hid fun h1 l hl=>by
  have:=lands_fly (N:=N) (st:=st) (k:=k) (off:=off) (px:=x2) (py:=x3) (pz:=H) (va:=va) (vb:=vb) (vc:=vc) bs bk ho (by omega) (by omega) (by omega) (by omega) (by omega) (by omega) hT (by rw [hQ,hVT];exact hH) h1 (l:=l) (by rw [hg2];exact hl)
  rw [hg2,hXT,hYT,hX1,hY1,hLX,hLY] at this
  exact this
 have HFLY:Hid (∀ g w',Bk w' g 46 #[.int .i64 (T * 4294967296),.int .i64 (st * 4294967296),.int .i64 0,.int .i64 0,.int .i64 0,.int .i64 0,.int .i64 0,.int .i64 0,.int .i64 0,.int .i64 0,.int .i64 0,.int .i64 0,.slice none 0 0,.int .i64 0,.int .i64 0]→Calls Tryz.prog 7 #[planetV (shotP g2 off),.slice (some ⟨g,0,none⟩) 1 1,stateV (shotS x2 x3 H va vb vc off)] w' (FlyPost (flyF (shotP g2 off) (shotA T st) (shotS x2 x3 H va vb vc off) N (shotG T st g2 off)) w')):=Lib.hid fun g w' hb=>by
  have wS:∀ {n:Int},-1000000≤n∧n≤1000000→WdS (aboutS n off):=fun h=>about_wd h ho
  have wsh:I64W (shotS x2 x3 H va vb vc off):=⟨by show I64 0;unfold I64;decide,⟨wS (by omega),wS (by omega),wS (by omega)⟩,⟨wS (by omega),wS (by omega),wS (by omega)⟩,by show WdS ⟨4294967296,4294967296⟩;unfold WdS;decide⟩
  have wpl:WdB (shotP g2 off).pull:=⟨wd_zero,wd_zero,wS (by omega)⟩
  have hi:I64 (shotA T st).step:=by show I64 (st * 4294967296);unfold I64;omega
  exact fly1_any (shotP g2 off) (shotA T st) none 0 (shotS x2 x3 H va vb vc off) N (shotG T st g2 off) g 46 (fun s w'' hs=>step62_any (shotP g2 off) (shotA T st) s (shotA T st).step rfl rfl rfl rfl hs wpl hi w'') (fun s _=>wd_stepF _ s _) wsh ⟨wd_zero,wd_zero,wd_zero⟩ wd_zero (by omega)
   (by show 0<st * 4294967296;omega) (by show T * 4294967296=N * (st * 4294967296);rw [← hT];grind) (by show I64 (T * 4294967296);unfold I64;omega) hi w' hb
 have HAm:Hid (∀ B w',Bk w' B 24 #[.int .u8 x0,.int .u8 x1,.int .u8 x2,.int .u8 x3,.int .u8 x4,.int .u8 x5,.int .u8 x6,.int .u8 x7,.int .u16 off]→Calls Tryz.prog 6 #[.int .i64 (-g2),.pointer (some ⟨B,0,none⟩)] w' fun e w''=>e=.returned (spanV (aboutS (-g2) off))∧Below w'.heap.size w' w''):=Lib.hid fun B w' hb=>about6_any B _ (-g2) off rfl (by omega) ho w' hb
 have HAx:Hid (∀ B w',Bk w' B 24 #[.int .u8 x0,.int .u8 x1,.int .u8 x2,.int .u8 x3,.int .u8 x4,.int .u8 x5,.int .u8 x6,.int .u8 x7,.int .u16 off]→Calls Tryz.prog 6 #[.int .i64 x2,.pointer (some ⟨B,0,none⟩)] w' fun e w''=>e=.returned (spanV (aboutS x2 off))∧Below w'.heap.size w' w''):=Lib.hid fun B w' hb=>about6_any B _ x2 off rfl (by omega) ho w' hb
 have HAy:Hid (∀ B w',Bk w' B 24 #[.int .u8 x0,.int .u8 x1,.int .u8 x2,.int .u8 x3,.int .u8 x4,.int .u8 x5,.int .u8 x6,.int .u8 x7,.int .u16 off]→Calls Tryz.prog 6 #[.int .i64 x3,.pointer (some ⟨B,0,none⟩)] w' fun e w''=>e=.returned (spanV (aboutS x3 off))∧Below w'.heap.size w' w''):=Lib.hid fun B w' hb=>about6_any B _ x3 off rfl (by omega) ho w' hb
 have HAj:Hid (∀ B w',Bk w' B 24 #[.int .u8 x0,.int .u8 x1,.int .u8 x2,.int .u8 x3,.int .u8 x4,.int .u8 x5,.int .u8 x6,.int .u8 x7,.int .u16 off]→Calls Tryz.prog 6 #[.int .i64 H,.pointer (some ⟨B,0,none⟩)] w' fun e w''=>e=.returned (spanV (aboutS H off))∧Below w'.heap.size w' w''):=Lib.hid fun B w' hb=>about6_any B _ H off rfl (by omega) ho w' hb
 have HAa:Hid (∀ B w',Bk w' B 24 #[.int .u8 x0,.int .u8 x1,.int .u8 x2,.int .u8 x3,.int .u8 x4,.int .u8 x5,.int .u8 x6,.int .u8 x7,.int .u16 off]→Calls Tryz.prog 6 #[.int .i64 va,.pointer (some ⟨B,0,none⟩)] w' fun e w''=>e=.returned (spanV (aboutS va off))∧Below w'.heap.size w' w''):=Lib.hid fun B w' hb=>about6_any B _ va off rfl (by omega) ho w' hb
 have HAb:Hid (∀ B w',Bk w' B 24 #[.int .u8 x0,.int .u8 x1,.int .u8 x2,.int .u8 x3,.int .u8 x4,.int .u8 x5,.int .u8 x6,.int .u8 x7,.int .u16 off]→Calls Tryz.prog 6 #[.int .i64 vb,.pointer (some ⟨B,0,none⟩)] w' fun e w''=>e=.returned (spanV (aboutS vb off))∧Below w'.heap.size w' w''):=Lib.hid fun B w' hb=>about6_any B _ vb off rfl (by omega) ho w' hb
 have HAc:Hid (∀ B w',Bk w' B 24 #[.int .u8 x0,.int .u8 x1,.int .u8 x2,.int .u8 x3,.int .u8 x4,.int .u8 x5,.int .u8 x6,.int .u8 x7,.int .u16 off]→Calls Tryz.prog 6 #[.int .i64 vc,.pointer (some ⟨B,0,none⟩)] w' fun e w''=>e=.returned (spanV (aboutS vc off))∧Below w'.heap.size w' w''):=Lib.hid fun B w' hb=>about6_any B _ vc off rfl (by omega) ho w' hb
 have HAp:Hid (∀ B w',Bk w' B 24 #[.int .u8 x0,.int .u8 x1,.int .u8 x2,.int .u8 x3,.int .u8 x4,.int .u8 x5,.int .u8 x6,.int .u8 x7,.int .u16 off]→Calls Tryz.prog 6 #[.int .i64 g2,.pointer (some ⟨B,0,none⟩)] w' fun e w''=>e=.returned (spanV (aboutS g2 off))∧Below w'.heap.size w' w''):=Lib.hid fun B w' hb=>about6_any B _ g2 off rfl (by omega) ho w' hb
 have HWP:WdS (aboutS g2 off):=about_wd (by omega) ho
 obtain ⟨⟨ml,mh⟩,hsm⟩:∃ z,aboutS (-g2) off=z:=⟨_,rfl⟩
 rw [hsm] at HAm
 unfold spanV at HAm
 dsimp only at HAm
 obtain ⟨⟨xl,xh⟩,hsx⟩:∃ z,aboutS x2 off=z:=⟨_,rfl⟩
 rw [hsx] at HAx
 unfold spanV at HAx
 dsimp only at HAx
 obtain ⟨⟨yl,yh⟩,hsy⟩:∃ z,aboutS x3 off=z:=⟨_,rfl⟩
 rw [hsy] at HAy
 unfold spanV at HAy
 dsimp only at HAy
 obtain ⟨⟨jl,jh⟩,hsj⟩:∃ z,aboutS H off=z:=⟨_,rfl⟩
 rw [hsj] at HAj
 unfold spanV at HAj
 dsimp only at HAj
 obtain ⟨⟨al,ah⟩,hsa⟩:∃ z,aboutS va off=z:=⟨_,rfl⟩
 rw [hsa] at HAa
 unfold spanV at HAa
 dsimp only at HAa
 obtain ⟨⟨bl,bh⟩,hsb⟩:∃ z,aboutS vb off=z:=⟨_,rfl⟩
 rw [hsb] at HAb
 unfold spanV at HAb
 dsimp only at HAb
 obtain ⟨⟨cl,ch⟩,hsc⟩:∃ z,aboutS vc off=z:=⟨_,rfl⟩
 rw [hsc] at HAc
 unfold spanV at HAc
 dsimp only at HAc
 obtain ⟨⟨pl,ph⟩,hsp⟩:∃ z,aboutS g2 off=z:=⟨_,rfl⟩
 rw [hsp] at HAp
 unfold spanV at HAp
 dsimp only at HAp
 rw [hsp] at HWP
 have hfo:∀ tb,fallOf tb g2 off=⟨tb.p.x,tb.p.y,⟨max 0 tb.p.z.lo,max 0 tb.p.z.hi⟩,tb.v.x,tb.v.y,tb.v.z,⟨pl,ph⟩,zeroS,zeroS⟩:=fun tb=>by unfold fallOf;rw [hsp]
 have hpv:planetV (shotP g2 off)=.agg #[.int .i64 0,.int .i64 0,.int .i64 0,.int .i64 0,.int .i64 0,.int .i64 0,.int .i64 0,.int .i64 0,.int .i64 0,.int .i64 0,.int .i64 0,.int .i64 0,.int .i64 ml,.int .i64 mh]:=by unfold shotP pullB;rw [hsm];rfl
 have hsv:stateV (shotS x2 x3 H va vb vc off)=.agg #[.int .i64 0,.int .i64 xl,.int .i64 xh,.int .i64 yl,.int .i64 yh,.int .i64 jl,.int .i64 jh,.int .i64 al,.int .i64 ah,.int .i64 bl,.int .i64 bh,.int .i64 cl,.int .i64 ch,.int .i64 4294967296,.int .i64 4294967296]:=by unfold shotS;rw [hsx,hsy,hsj,hsa,hsb,hsc];rfl
 obtain ⟨⟨l,e⟩,hfl⟩:∃ z,flyF (shotP g2 off) (shotA T st) (shotS x2 x3 H va vb vc off) N (shotG T st g2 off)=z:=⟨_,rfl⟩
 rw [hfl,hpv,hsv] at HFLY
 rw [hfl] at HLAW
 simp only [hfo] at HLAW
 unfold FlyPost at HFLY
 dsimp only at HFLY
 have HBN:=Lib.hid bN
 have HWPP:=Lib.hid HWP
 clear HWP hfo hpv hsv hfl hsm hsx hsy hsj hsa hsb hsc hsp hPQ hz hN hr1 hr7 hst hk hg2 hva hvb hvc b1 b7 bs bk ba bb bc hT bT hG1 bG1 hG2 bG2 hQ hGQ hVT bVT hH hXT bXT hYT bYT hX1 hY1 hLX hLY hx0 hx1 hx2 hx3 hx4 hx5 hx6 hx7 ho
 obtain ⟨qb,hqb⟩:∃ qb,w.heap.size=qb:=⟨_,rfl⟩
 obtain ⟨W0,hW0⟩:∃ W0,(w.alloc (.cells #[.int .u8 x0,.int .u8 x1,.int .u8 x2,.int .u8 x3,.int .u8 x4,.int .u8 x5,.int .u8 x6,.int .u8 x7,.int .u16 off] 24)).alloc (.cells #[.string nm,.slice A n c] 27)=W0:=⟨_,rfl⟩
 have HF0:Hid (Fr w [] [(qb,24,#[.int .u8 x0,.int .u8 x1,.int .u8 x2,.int .u8 x3,.int .u8 x4,.int .u8 x5,.int .u8 x6,.int .u8 x7,.int .u16 off]),(qb+1,27,#[.string nm,.slice A n c])] W0):=Lib.hid (by rw [← hW0];exact ((Fr.start w).alloc (by simp [← hqb]) 24 #[.int .u8 x0,.int .u8 x1,.int .u8 x2,.int .u8 x3,.int .u8 x4,.int .u8 x5,.int .u8 x6,.int .u8 x7,.int .u16 off]).alloc (by simp [← hqb]) 27 #[.string nm,.slice A n c])
 go_enter Tryz.func3,Tryz.ntmps3
 go_upto_region 1 with (fail)
 clear hW0 hqb
 obtain ⟨f1,f2,f3,u0,u0',u1,u1',u2,u2',q0,q0',q1,q1',q2,q2',q3,q3',q4,q4',q5,q5'⟩:=HR1.out
 refine wp_region_fr [Kind.p,Kind.p,Kind.p,Kind.p,Kind.p,Kind.p,Kind.p,Kind.p,Kind.p,Kind.p,Kind.p,Kind.p,Kind.p,Kind.p,Kind.p,Kind.p,Kind.p,Kind.p] [] [] w (fun _=>[]) (fun _=>_)
    (fun ix u _=>match ix with
     | 0=>u=.pointer (some ⟨qb,0,none⟩)
     | 1=>u=.int .u8 x0
     | 2=>u=.int .u8 (N:Int)
     | 3=>u=.int .i64 (N:Int)
     | 4=>u=.pointer (some ⟨qb,1,none⟩)
     | 5=>u=.int .u8 x1
     | 6=>u=.int .u8 r1
     | 7=>u=.int .i64 r1
     | 8=>u=.int .i64 st
     | 9=>u=.pointer (some ⟨qb,7,none⟩)
     | 10=>u=.int .u8 x7
     | 11=>u=.int .u8 r7
     | 12=>u=.int .i64 r7
     | 13=>u=.int .i64 k
     | 14=>u=.int .i64 g2
     | 15=>u=.int .i64 (N:Int)
     | 16=>u=.int .i64 st
     | 17=>u=.int .i64 g2
     | _=>True)
    (by kernel_rfl) (by kernel_rfl) (by kernel_rfl) [] rfl (by decide) (by kernel_rfl) (by kernel_rfl) HF0.out ?_ ?_
 ·refine ⟨?_,?_,?_,?_,?_,?_,?_,?_,?_,?_,?_,?_,?_,?_,?_,?_,?_,?_,trivial⟩
  all_goals intro a w1 vs dn k K S hpre KE DE kk
  ·have e2:=KE 2 (by decide)
   go_simp;exact kk _ _ (by simp) bR rfl
  ·have e31:=dep (DE 0 _ 31 rfl rfl rfl)
   have ca:w1.cell? ⟨qb,0,none⟩=some (.int .u8 x0):=(S.fr.left.get 0 rfl).cell 0
   go_simp;exact kk _ _ (by simp) bR rfl
  ·have e32:=dep (DE 1 _ 32 rfl rfl rfl)
   go_simp;exact kk _ _ (by simp) bR rfl
  ·have e33:=dep (DE 2 _ 33 rfl rfl rfl)
   go_simp;exact kk _ _ (by simp) bR rfl
  ·have e2:=KE 2 (by decide)
   go_simp;exact kk _ _ (by simp) bR rfl
  ·have e35:=dep (DE 4 _ 35 rfl rfl rfl)
   have ca:w1.cell? ⟨qb,1,none⟩=some (.int .u8 x1):=(S.fr.left.get 0 rfl).cell 1
   go_simp;exact kk _ _ (by simp) bR rfl
  ·have e36:=dep (DE 5 _ 36 rfl rfl rfl)
   go_simp;exact kk _ _ (by simp) bR rfl
  ·have e37:=dep (DE 6 _ 37 rfl rfl rfl)
   go_simp;exact kk _ _ (by simp) bR rfl
  ·have e38:=dep (DE 7 _ 38 rfl rfl rfl)
   go_simp;exact kk _ _ (by simp) bR rfl
  ·have e2:=KE 2 (by decide)
   go_simp;exact kk _ _ (by simp) bR rfl
  ·have e40:=dep (DE 9 _ 40 rfl rfl rfl)
   have ca:w1.cell? ⟨qb,7,none⟩=some (.int .u8 x7):=(S.fr.left.get 0 rfl).cell 7
   go_simp;exact kk _ _ (by simp) bR rfl
  ·have e41:=dep (DE 10 _ 41 rfl rfl rfl)
   go_simp;exact kk _ _ (by simp) bR rfl
  ·have e42:=dep (DE 11 _ 42 rfl rfl rfl)
   go_simp;exact kk _ _ (by simp) bR rfl
  ·have e43:=dep (DE 12 _ 43 rfl rfl rfl)
   go_simp;exact kk _ _ (by simp) bR rfl
  ·have e44:=dep (DE 13 _ 44 rfl rfl rfl)
   go_simp;exact kk _ _ (by simp) bR rfl
  ·have e34:=dep (DE 3 _ 34 rfl rfl rfl)
   go_simp;exact kk _ _ (by simp) bR rfl
  ·have e39:=dep (DE 8 _ 39 rfl rfl rfl)
   go_simp;exact kk _ _ (by simp) bR rfl
  ·have e45:=dep (DE 14 _ 45 rfl rfl rfl)
   go_simp;exact kk _ _ (by simp) bR rfl
 ·intro vs wf HFr HR
  have HFr':Fr w [] [(qb,24,#[.int .u8 x0,.int .u8 x1,.int .u8 x2,.int .u8 x3,.int .u8 x4,.int .u8 x5,.int .u8 x6,.int .u8 x7,.int .u16 off]),(qb+1,27,#[.string nm,.slice A n c])] wf:=HFr
  have v15:vs 15=.int .i64 (N:Int):=HR 15 _ rfl
  have v16:vs 16=.int .i64 st:=HR 16 _ rfl
  have v17:vs 17=.int .i64 g2:=HR 17 _ rfl
  clear HFr HR
  have HF1:=Lib.hid HFr'
  clear HFr'
  simp only [putAll,Act.put,List.setIfInBounds_toArray,List.set_cons_zero,List.set_cons_succ]
  simp only [v15,v16,v17]
  clear v15 v16 v17
  obtain ⟨w1,rfl⟩:∃ u:World,u=wf:=⟨_,rfl⟩
  go_upto_region 2 with (fail)
  clear f1 f2 f3 u0 u0' u1 u1' u2 u2' q0 q0' q1 q1' q2 q2' q3 q3' q4 q4' q5 q5' HR1
  obtain ⟨q6,q6',q7,q7',q8,q8',q9,q9',q10,q10',q11,q11'⟩:=HR2.out
  refine wp_region_fr [Kind.p,Kind.p,Kind.p,Kind.p,Kind.p,Kind.p,Kind.p,Kind.p,Kind.p,Kind.p,Kind.p,Kind.p,Kind.p,Kind.p,Kind.p] [] [] w (fun _=>[]) (fun _=>_)
     (fun ix u _=>match ix with
      | 0=>u=.pointer (some ⟨qb,4,none⟩)
      | 1=>u=.int .u8 x4
      | 2=>u=.int .i64 x4
      | 3=>u=.int .i64 va
      | 4=>u=.pointer (some ⟨qb,5,none⟩)
      | 5=>u=.int .u8 x5
      | 6=>u=.int .i64 x5
      | 7=>u=.int .i64 vb
      | 8=>u=.pointer (some ⟨qb,6,none⟩)
      | 9=>u=.int .u8 x6
      | 10=>u=.int .i64 x6
      | 11=>u=.int .i64 vc
      | 12=>u=.int .i64 va
      | 13=>u=.int .i64 vb
      | 14=>u=.int .i64 vc
      | _=>True)
     (by kernel_rfl) (by kernel_rfl) (by kernel_rfl) [] rfl (by decide) (by kernel_rfl) (by kernel_rfl) HF1.out ?_ ?_
  ·refine ⟨?_,?_,?_,?_,?_,?_,?_,?_,?_,?_,?_,?_,?_,?_,?_,trivial⟩
   all_goals intro a w1 vs dn k K S hpre KE DE kk
   ·have e2:=KE 2 (by decide)
    go_simp;exact kk _ _ (by simp) bR rfl
   ·have e46:=dep (DE 0 _ 46 rfl rfl rfl)
    have ca:w1.cell? ⟨qb,4,none⟩=some (.int .u8 x4):=(S.fr.left.get 0 rfl).cell 4
    go_simp;exact kk _ _ (by simp) bR rfl
   ·have e47:=dep (DE 1 _ 47 rfl rfl rfl)
    go_simp;exact kk _ _ (by simp) bR rfl
   ·have e48:=dep (DE 2 _ 48 rfl rfl rfl)
    go_simp;exact kk _ _ (by simp) bR rfl
   ·have e2:=KE 2 (by decide)
    go_simp;exact kk _ _ (by simp) bR rfl
   ·have e50:=dep (DE 4 _ 50 rfl rfl rfl)
    have ca:w1.cell? ⟨qb,5,none⟩=some (.int .u8 x5):=(S.fr.left.get 0 rfl).cell 5
    go_simp;exact kk _ _ (by simp) bR rfl
   ·have e51:=dep (DE 5 _ 51 rfl rfl rfl)
    go_simp;exact kk _ _ (by simp) bR rfl
   ·have e52:=dep (DE 6 _ 52 rfl rfl rfl)
    go_simp;exact kk _ _ (by simp) bR rfl
   ·have e2:=KE 2 (by decide)
    go_simp;exact kk _ _ (by simp) bR rfl
   ·have e54:=dep (DE 8 _ 54 rfl rfl rfl)
    have ca:w1.cell? ⟨qb,6,none⟩=some (.int .u8 x6):=(S.fr.left.get 0 rfl).cell 6
    go_simp;exact kk _ _ (by simp) bR rfl
   ·have e55:=dep (DE 9 _ 55 rfl rfl rfl)
    go_simp;exact kk _ _ (by simp) bR rfl
   ·have e56:=dep (DE 10 _ 56 rfl rfl rfl)
    go_simp;exact kk _ _ (by simp) bR rfl
   ·have e49:=dep (DE 3 _ 49 rfl rfl rfl)
    go_simp;exact kk _ _ (by simp) bR rfl
   ·have e53:=dep (DE 7 _ 53 rfl rfl rfl)
    go_simp;exact kk _ _ (by simp) bR rfl
   ·have e57:=dep (DE 11 _ 57 rfl rfl rfl)
    go_simp;exact kk _ _ (by simp) bR rfl
  ·intro vs wf HFr HR
   have HFr':Fr w [] [(qb,24,#[.int .u8 x0,.int .u8 x1,.int .u8 x2,.int .u8 x3,.int .u8 x4,.int .u8 x5,.int .u8 x6,.int .u8 x7,.int .u16 off]),(qb+1,27,#[.string nm,.slice A n c])] wf:=HFr
   have v12:vs 12=.int .i64 va:=HR 12 _ rfl
   have v13:vs 13=.int .i64 vb:=HR 13 _ rfl
   have v14:vs 14=.int .i64 vc:=HR 14 _ rfl
   clear HFr HR
   have HF2:=Lib.hid HFr'
   clear HFr'
   simp only [putAll,Act.put,List.setIfInBounds_toArray,List.set_cons_zero,List.set_cons_succ]
   simp only [v12,v13,v14]
   clear v12 v13 v14
   obtain ⟨w2,rfl⟩:∃ u:World,u=wf:=⟨_,rfl⟩
   go_upto_region 3 with (fail)
   clear q6 q6' q7 q7' q8 q8' q9 q9' q10 q10' q11 q11' HR2
   obtain ⟨p0,p0'⟩:=HR3.out
   obtain ⟨p1,p1',p2,p2',f4,q12,q12',p3,p3',q13,q13'⟩:=HR4.out
   go_upto_region 5 with (fail)
   clear p0 p0' HR3
   clear p1 p1' p2 p2' f4 q12 q12' p3 p3' q13 q13' HR4
   by_cases hN0:N=0
   ·have hNb:((N:Int) == 0)=true:=by simp [hN0]
    go_wp2_with fail
    refine (HAW.out _).mono ?_
    rintro e w3 ⟨rfl,hw⟩
    have HF4:=Lib.hid (HF2.out.below hw)
    clear hw
    go_wp2_with fail
    exact HFIN.out _ (HF4.out.sub (List.nil_sublist _))
   ·have hNb:((N:Int) == 0)=false:=by simp [hN0]
    by_cases hH1:H<1
    ·
     go_wp2_with fail
     refine (HAW.out _).mono ?_
     rintro e w3 ⟨rfl,hw⟩
     have HF4:=Lib.hid (HF2.out.below hw)
     clear hw
     go_wp2_with fail
     exact HFIN.out _ (HF4.out.sub (List.nil_sublist _))
    ·
     have HL2:=Lib.hid (HLAW.out (by omega))
     clear HLAW
     go_upto_region 8 with (fail)
     obtain ⟨q14,q14'⟩:=HR8.out
     go_wp2_with fail
     refine (HAm.out _ _ (HF2.out.get 0 rfl)).mono ?_
     rintro e w3 ⟨rfl,hw⟩
     have HF4:=Lib.hid (HF2.out.below hw)
     clear hw
     obtain ⟨g5,hg5⟩:∃ g,w3.heap.size=g:=⟨_,rfl⟩
     obtain ⟨w5,hw5⟩:∃ u,w3.alloc (.cells #[.int .i64 0,.int .i64 0,.int .i64 0,.int .i64 0,.int .i64 0,.int .i64 0,.int .i64 0,.int .i64 0,.int .i64 0,.int .i64 0,.int .i64 0,.int .i64 0,.int .i64 0,.int .i64 0] 36)=u:=⟨_,rfl⟩
     have HF6:=Lib.hid (frE hw5 (HF4.out.alloc hg5.symm 36 #[.int .i64 0,.int .i64 0,.int .i64 0,.int .i64 0,.int .i64 0,.int .i64 0,.int .i64 0,.int .i64 0,.int .i64 0,.int .i64 0,.int .i64 0,.int .i64 0,.int .i64 0,.int .i64 0]))
     go_upto_region 9 with (refine wpStoreF rfl rfl 36 _ _ rfl g5 0 rfl #[.int .i64 0,.int .i64 0,.int .i64 0,.int .i64 0,.int .i64 0,.int .i64 0,.int .i64 0,.int .i64 0,.int .i64 0,.int .i64 0,.int .i64 0,.int .i64 0,.int .i64 ml,.int .i64 mh] rfl _ _ (iC [0,0,0,0,0,0,0,0,0,0,0,0,ml,mh]) (HF6.out.get 2 rfl) rfl (by show 0+14≤14;omega) (one_all rfl) info_36 ?_;intro w7 hk ho;clear hw5 hg5;have HF8:=Lib.hid (HF6.out.only 2 rfl ho hk);clear ho hk)
     clear q14 q14' HR8
     obtain ⟨q15,q15',q16,q16'⟩:=HR9.out
     refine wp_region_fr [Kind.p,Kind.p,Kind.p,Kind.p,Kind.p,Kind.p,Kind.p,Kind.p,Kind.p,Kind.p,Kind.p,Kind.p,Kind.p,Kind.p,Kind.p,Kind.p,Kind.p,Kind.p,Kind.p,Kind.p,Kind.p,Kind.p,Kind.p,Kind.p,Kind.p,Kind.p,Kind.a 0,Kind.c 0] [27] [(26,38,fun k=>(if k≤0 then iC [0,0,0,0,0,0,0,0,0,0,0,0,0,0,0] else iC [0,xl,xh,yl,yh,jl,jh,al,ah,bl,bh,cl,ch,4294967296,4294967296]))] w (fun _=>[]) (fun _=>_)
        (fun ix u _=>match ix with
         | 0=>u=.func (.func 6) #[] #[.pointer (some ⟨qb,0,none⟩)]
         | 1=>u=.pointer (some ⟨qb,2,none⟩)
         | 2=>u=.int .u8 x2
         | 3=>u=.int .i64 x2
         | 4=>u=.agg #[.int .i64 xl,.int .i64 xh]
         | 5=>u=.func (.func 6) #[] #[.pointer (some ⟨qb,0,none⟩)]
         | 6=>u=.pointer (some ⟨qb,3,none⟩)
         | 7=>u=.int .u8 x3
         | 8=>u=.int .i64 x3
         | 9=>u=.agg #[.int .i64 yl,.int .i64 yh]
         | 10=>u=.func (.func 6) #[] #[.pointer (some ⟨qb,0,none⟩)]
         | 11=>u=.int .i64 H
         | 12=>u=.agg #[.int .i64 jl,.int .i64 jh]
         | 13=>u=.agg #[.int .i64 xl,.int .i64 xh,.int .i64 yl,.int .i64 yh,.int .i64 jl,.int .i64 jh]
         | 14=>u=.func (.func 6) #[] #[.pointer (some ⟨qb,0,none⟩)]
         | 15=>u=.int .i64 va
         | 16=>u=.agg #[.int .i64 al,.int .i64 ah]
         | 17=>u=.func (.func 6) #[] #[.pointer (some ⟨qb,0,none⟩)]
         | 18=>u=.int .i64 vb
         | 19=>u=.agg #[.int .i64 bl,.int .i64 bh]
         | 20=>u=.func (.func 6) #[] #[.pointer (some ⟨qb,0,none⟩)]
         | 21=>u=.int .i64 vc
         | 22=>u=.agg #[.int .i64 cl,.int .i64 ch]
         | 23=>u=.agg #[.int .i64 al,.int .i64 ah,.int .i64 bl,.int .i64 bh,.int .i64 cl,.int .i64 ch]
         | 24=>u=.agg #[.int .i64 4294967296,.int .i64 4294967296]
         | 25=>u=.agg #[.int .i64 0,.int .i64 xl,.int .i64 xh,.int .i64 yl,.int .i64 yh,.int .i64 jl,.int .i64 jh,.int .i64 al,.int .i64 ah,.int .i64 bl,.int .i64 bh,.int .i64 cl,.int .i64 ch,.int .i64 4294967296,.int .i64 4294967296]
         | 26=>u=.pointer (some ⟨gOf u,0,none⟩)
         | _=>True)
        (by kernel_rfl) (by kernel_rfl) (by kernel_rfl) [26] rfl (by decide) (by kernel_rfl) (by kernel_rfl) HF8.out ?_ ?_
     ·refine ⟨?_,?_,?_,?_,?_,?_,?_,?_,?_,?_,?_,?_,?_,?_,?_,?_,?_,?_,?_,?_,?_,?_,?_,?_,?_,?_,?_,?_,trivial⟩
      all_goals intro a w1 vs dn k K S hpre KE DE kk
      ·have e13:=KE 13 (by decide)
       go_simp;exact kk _ _ (by simp) bR rfl
      ·have e2:=KE 2 (by decide)
       go_simp;exact kk _ _ (by simp) bR rfl
      ·have e88:=dep (DE 1 _ 88 rfl rfl rfl)
       have ca:w1.cell? ⟨qb,2,none⟩=some (.int .u8 x2):=(S.fr.left.get 0 rfl).cell 2
       go_simp;exact kk _ _ (by simp) bR rfl
      ·have e89:=dep (DE 2 _ 89 rfl rfl rfl)
       go_simp;exact kk _ _ (by simp) bR rfl
      ·have e87:=dep (DE 0 _ 87 rfl rfl rfl)
       have e90:=dep (DE 3 _ 90 rfl rfl rfl)
       exact wpo_callC 6 #[.pointer (some ⟨qb,0,none⟩)] (.tmp 87) _ _ rfl (by simpa [Act.eval] using e87) #[.int .i64 x2] (by simp [Act.eval,e90]) (fun args w=>by kernel_rfl)
        ((HAx.out _ w1 (S.fr.left.get 0 rfl)).mono fun e w' ⟨he,hb⟩=>⟨_,he,kk _ _ (by simp) hb rfl⟩)
      ·have e13:=KE 13 (by decide)
       go_simp;exact kk _ _ (by simp) bR rfl
      ·have e2:=KE 2 (by decide)
       go_simp;exact kk _ _ (by simp) bR rfl
      ·have e93:=dep (DE 6 _ 93 rfl rfl rfl)
       have ca:w1.cell? ⟨qb,3,none⟩=some (.int .u8 x3):=(S.fr.left.get 0 rfl).cell 3
       go_simp;exact kk _ _ (by simp) bR rfl
      ·have e94:=dep (DE 7 _ 94 rfl rfl rfl)
       go_simp;exact kk _ _ (by simp) bR rfl
      ·have e92:=dep (DE 5 _ 92 rfl rfl rfl)
       have e95:=dep (DE 8 _ 95 rfl rfl rfl)
       exact wpo_callC 6 #[.pointer (some ⟨qb,0,none⟩)] (.tmp 92) _ _ rfl (by simpa [Act.eval] using e92) #[.int .i64 x3] (by simp [Act.eval,e95]) (fun args w=>by kernel_rfl)
        ((HAy.out _ w1 (S.fr.left.get 0 rfl)).mono fun e w' ⟨he,hb⟩=>⟨_,he,kk _ _ (by simp) hb rfl⟩)
      ·have e13:=KE 13 (by decide)
       go_simp;exact kk _ _ (by simp) bR rfl
      ·have e12:=KE 12 (by decide)
       go_simp;exact kk _ _ (by simp) bR rfl
      ·have e97:=dep (DE 10 _ 97 rfl rfl rfl)
       have e98:=dep (DE 11 _ 98 rfl rfl rfl)
       exact wpo_callC 6 #[.pointer (some ⟨qb,0,none⟩)] (.tmp 97) _ _ rfl (by simpa [Act.eval] using e97) #[.int .i64 H] (by simp [Act.eval,e98]) (fun args w=>by kernel_rfl)
        ((HAj.out _ w1 (S.fr.left.get 0 rfl)).mono fun e w' ⟨he,hb⟩=>⟨_,he,kk _ _ (by simp) hb rfl⟩)
      ·have e91:=dep (DE 4 _ 91 rfl rfl rfl)
       have e96:=dep (DE 9 _ 96 rfl rfl rfl)
       have e99:=dep (DE 12 _ 99 rfl rfl rfl)
       go_simp;exact kk _ _ (by simp) bR rfl
      ·have e13:=KE 13 (by decide)
       go_simp;exact kk _ _ (by simp) bR rfl
      ·have e8:=KE 8 (by decide)
       go_simp;exact kk _ _ (by simp) bR rfl
      ·have e101:=dep (DE 14 _ 101 rfl rfl rfl)
       have e102:=dep (DE 15 _ 102 rfl rfl rfl)
       exact wpo_callC 6 #[.pointer (some ⟨qb,0,none⟩)] (.tmp 101) _ _ rfl (by simpa [Act.eval] using e101) #[.int .i64 va] (by simp [Act.eval,e102]) (fun args w=>by kernel_rfl)
        ((HAa.out _ w1 (S.fr.left.get 0 rfl)).mono fun e w' ⟨he,hb⟩=>⟨_,he,kk _ _ (by simp) hb rfl⟩)
      ·have e13:=KE 13 (by decide)
       go_simp;exact kk _ _ (by simp) bR rfl
      ·have e9:=KE 9 (by decide)
       go_simp;exact kk _ _ (by simp) bR rfl
      ·have e104:=dep (DE 17 _ 104 rfl rfl rfl)
       have e105:=dep (DE 18 _ 105 rfl rfl rfl)
       exact wpo_callC 6 #[.pointer (some ⟨qb,0,none⟩)] (.tmp 104) _ _ rfl (by simpa [Act.eval] using e104) #[.int .i64 vb] (by simp [Act.eval,e105]) (fun args w=>by kernel_rfl)
        ((HAb.out _ w1 (S.fr.left.get 0 rfl)).mono fun e w' ⟨he,hb⟩=>⟨_,he,kk _ _ (by simp) hb rfl⟩)
      ·have e13:=KE 13 (by decide)
       go_simp;exact kk _ _ (by simp) bR rfl
      ·have e10:=KE 10 (by decide)
       go_simp;exact kk _ _ (by simp) bR rfl
      ·have e107:=dep (DE 20 _ 107 rfl rfl rfl)
       have e108:=dep (DE 21 _ 108 rfl rfl rfl)
       exact wpo_callC 6 #[.pointer (some ⟨qb,0,none⟩)] (.tmp 107) _ _ rfl (by simpa [Act.eval] using e107) #[.int .i64 vc] (by simp [Act.eval,e108]) (fun args w=>by kernel_rfl)
        ((HAc.out _ w1 (S.fr.left.get 0 rfl)).mono fun e w' ⟨he,hb⟩=>⟨_,he,kk _ _ (by simp) hb rfl⟩)
      ·have e103:=dep (DE 16 _ 103 rfl rfl rfl)
       have e106:=dep (DE 19 _ 106 rfl rfl rfl)
       have e109:=dep (DE 22 _ 109 rfl rfl rfl)
       go_simp;exact kk _ _ (by simp) bR rfl
      ·go_simp;exact kk _ _ (by simp) bR rfl
      ·have e100:=dep (DE 13 _ 100 rfl rfl rfl)
       have e110:=dep (DE 23 _ 110 rfl rfl rfl)
       have e111:=dep (DE 24 _ 111 rfl rfl rfl)
       go_simp;exact kk _ _ (by simp) bR rfl
      ·go_simp;exact kk _ _ (by simp) (by have h:=S.fr.alloc rfl 38 #[.int .i64 0,.int .i64 0,.int .i64 0,.int .i64 0,.int .i64 0,.int .i64 0,.int .i64 0,.int .i64 0,.int .i64 0,.int .i64 0,.int .i64 0,.int .i64 0,.int .i64 0,.int .i64 0,.int .i64 0];show Fr _ _ (_ ++ [(_,38,if k≤0 then _ else _)]) _;rw [if_pos (S.hi 0 27 rfl rfl)];exact h) rfl
      ·subst hpre
       have e15:=dep (DE 26 _ 15 rfl rfl rfl)
       have e112:=dep (DE 25 _ 112 rfl rfl rfl)
       have HS:=Fr.done S.fr (by exact ⟨S.done 26 rfl,trivial⟩)
       exact wpo_storeF 38 (.tmp 15) (.tmp 112) rfl rfl ((gOf (vs 26))) 0 (by simpa [Act.eval] using e15) #[.int .i64 0,.int .i64 xl,.int .i64 xh,.int .i64 yl,.int .i64 yh,.int .i64 jl,.int .i64 jh,.int .i64 al,.int .i64 ah,.int .i64 bl,.int .i64 bh,.int .i64 cl,.int .i64 ch,.int .i64 4294967296,.int .i64 4294967296] (by simpa [Act.eval] using e112) _ _ (iC [0,xl,xh,yl,yh,jl,jh,al,ah,bl,bh,cl,ch,4294967296,4294967296]) (HS.get 3 rfl) rfl (by show 0+15≤15;omega) (one_all rfl) info_38 fun w' hk ho=>kk _ _ (by simp) (Fr.undone (HS.only 3 rfl ho hk) (by exact ⟨S.done 26 rfl,trivial⟩)) trivial
     ·intro vs wf HFr HR
      have HFr':Fr w [] [(qb,24,#[.int .u8 x0,.int .u8 x1,.int .u8 x2,.int .u8 x3,.int .u8 x4,.int .u8 x5,.int .u8 x6,.int .u8 x7,.int .u16 off]),(qb+1,27,#[.string nm,.slice A n c]),(g5,36,iC [0,0,0,0,0,0,0,0,0,0,0,0,ml,mh]),((gOf (vs 26)),38,iC [0,xl,xh,yl,yh,jl,jh,al,ah,bl,bh,cl,ch,4294967296,4294967296])] wf:=HFr
      have v26:vs 26=.pointer (some ⟨(gOf (vs 26)),0,none⟩):=HR 26 _ rfl
      clear HFr HR
      obtain ⟨g9_26,hg9_26⟩:∃ g,gOf (vs 26)=g:=⟨_,rfl⟩
      rw [hg9_26] at HFr'
      rw [hg9_26] at v26
      clear hg9_26
      have HF9:=Lib.hid HFr'
      clear HFr'
      simp only [putAll,Act.put,List.setIfInBounds_toArray,List.set_cons_zero,List.set_cons_succ]
      simp only [v26]
      clear v26
      obtain ⟨w9,rfl⟩:∃ u:World,u=wf:=⟨_,rfl⟩
      go_upto_region 10 with (fail)
      clear q15 q15' q16 q16'
      obtain ⟨q17,q17',q18,q18'⟩:=HR10.out
      obtain ⟨g10,hg10⟩:∃ g,w9.heap.size=g:=⟨_,rfl⟩
      obtain ⟨w10,hw10⟩:∃ u,w9.alloc (.cells #[.int .i64 (T * 4294967296),.int .i64 (st * 4294967296),.int .i64 0,.int .i64 0,.int .i64 0,.int .i64 0,.int .i64 0,.int .i64 0,.int .i64 0,.int .i64 0,.int .i64 0,.int .i64 0,.slice none 0 0,.int .i64 0,.int .i64 0] 46)=u:=⟨_,rfl⟩
      have HF11:=Lib.hid (frE hw10 (HF9.out.alloc hg10.symm 46 #[.int .i64 (T * 4294967296),.int .i64 (st * 4294967296),.int .i64 0,.int .i64 0,.int .i64 0,.int .i64 0,.int .i64 0,.int .i64 0,.int .i64 0,.int .i64 0,.int .i64 0,.int .i64 0,.slice none 0 0,.int .i64 0,.int .i64 0]))
      go_wp2_with (first
        | (refine wpLoadF rfl 36 _ rfl g5 0 rfl _ _ (HF9.out.get 2 rfl) #[.int .i64 0,.int .i64 0,.int .i64 0,.int .i64 0,.int .i64 0,.int .i64 0,.int .i64 0,.int .i64 0,.int .i64 0,.int .i64 0,.int .i64 0,.int .i64 0,.int .i64 ml,.int .i64 mh] rfl _ und_36 rfl info_36 ?_)
        | (refine wpLoadF rfl 38 _ rfl g9_26 0 rfl _ _ (HF11.out.get 3 rfl) #[.int .i64 0,.int .i64 xl,.int .i64 xh,.int .i64 yl,.int .i64 yh,.int .i64 jl,.int .i64 jh,.int .i64 al,.int .i64 ah,.int .i64 bl,.int .i64 bh,.int .i64 cl,.int .i64 ch,.int .i64 4294967296,.int .i64 4294967296] rfl _ und_38 rfl info_38 ?_))
      clear hw10 hg10
      refine (HFLY.out g10 _ (HF11.out.get 4 rfl)).mono ?_
      rintro e w12 ⟨sv,u,cur,rfl,hl,hw⟩
      have HF13:=Lib.hid (HF11.out.more hw)
      clear hw
      have HLS:=Lib.hid hl
      clear hl
      go_upto_region 11 with (fail)
      clear q17 q17' q18 q18' HR10
      by_cases he:e=0
      rotate_left
      ·have heb:(e != 0)=true:=by simpa using he
       go_wp2_with fail
       refine (HAW.out _).mono ?_
       rintro e w14 ⟨rfl,hw⟩
       have HF15:=Lib.hid (HF13.out.below hw)
       clear hw
       go_wp2_with fail
       exact HFIN.out _ (HF15.out.sub (List.nil_sublist _))
      ·subst he
       have hlaw:=HL2.out l rfl
       have hll:=hlaw.1
       have hun:∃ gt cap,u=.slice (some ⟨gt,0,none⟩) N cap:=by
        rcases HLS.out.2 with ⟨_,h0⟩ | ⟨gt,cap,h1,_⟩
        ·exact absurd (hll.symm.trans h0) hN0
        ·exact ⟨gt,cap,by rw [h1,hll]⟩
       obtain ⟨gt,cap,rfl⟩:=hun
       have HTB:=Lib.hid hlaw.2
       have HSG:Hid (∀ (i:Nat) tb,l[i]?=some tb→(cur.toList.drop (i * 16)).take 16=(tbA tb).toList):=Lib.hid fun i tb hi=>tube_seg HLS.out hi (by simp)
       have HLEN:=Lib.hid hll
       clear hlaw hll HLS HL2
       have HFt:Hid (Fr w [] [(qb,24,#[.int .u8 x0,.int .u8 x1,.int .u8 x2,.int .u8 x3,.int .u8 x4,.int .u8 x5,.int .u8 x6,.int .u8 x7,.int .u16 off]),(qb+1,27,#[.string nm,.slice A n c]),(g5,36,iC [0,0,0,0,0,0,0,0,0,0,0,0,ml,mh]),(g9_26,38,iC [0,xl,xh,yl,yh,jl,jh,al,ah,bl,bh,cl,ch,4294967296,4294967296]),(g10,46,#[.int .i64 (T * 4294967296),.int .i64 (st * 4294967296),.int .i64 0,.int .i64 0,.int .i64 0,.int .i64 0,.int .i64 0,.int .i64 0,.int .i64 0,.int .i64 0,.int .i64 0,.int .i64 0,.slice none 0 0,.int .i64 0,.int .i64 0]),(gt,58,cur)] w12):=HF13
       go_wp2_with (refine wpLoadF rfl 27 _ rfl (qb+1) 0 rfl _ _ (HFt.out.get 1 rfl) #[.string nm,.slice A n c] rfl _ und_27 rfl info_27 ?_)
       refine (HNU.out _ _ HFt.out).mono ?_
       rintro e w14 (⟨rfl,hw⟩ | ⟨U,g',c',csx,rfl,hzo,hsp,hw⟩)
       ·
        have HF15:=Lib.hid (HFt.out.below hw.toBelow)
        clear hw
        go_upto_region 16 with (fail)
        rename_i hkk
        have HKK:=Lib.hid hkk
        clear hkk
        obtain ⟨q15,q15',q16,q16',p4,p4',p5,p5',q19,q19',q20,q20',q21,q21',q22,q22'⟩:=HR16.out
        have c16:w14.cell? ⟨qb,2,none⟩=some (.int .u8 x2):=(HF15.out.get 0 rfl).cell 2
        have c17:w14.cell? ⟨qb,3,none⟩=some (.int .u8 x3):=(HF15.out.get 0 rfl).cell 3
        obtain ⟨g18,hg18⟩:∃ g,w14.heap.size=g:=⟨_,rfl⟩
        obtain ⟨w18,hw18⟩:∃ u,w14.alloc (.cells #[.int .i64 0,.int .i64 0] 56)=u:=⟨_,rfl⟩
        have HF19:=Lib.hid (frE hw18 (HF15.out.alloc hg18.symm 56 #[.int .i64 0,.int .i64 0]))
        go_wp2_with (refine wpStoreF rfl rfl 56 _ _ rfl g18 0 rfl #[.int .i64 LX,.int .i64 LY] rfl _ _ (iC [LX,LY]) (HF19.out.get 6 rfl) rfl (by show 0+2≤2;omega) (one_all rfl) info_56 ?_;intro w20 hk ho;clear c16 c17 hw18 hg18;have HF21:=Lib.hid (HF19.out.only 6 rfl ho hk);clear ho hk)
        refine HKK.out _ _ ?_
        exact loopA_any HFIN HAW HAp HWPP HBN HLEN HSG HTB HF21
       ·
        have HF15:=Lib.hid (HFt.out.more hw)
        have HZO:=Lib.hid hzo
        have HSPC:=Lib.hid hsp
        clear hw hzo hsp
        go_upto_region 16 with (fail)
        rename_i hkk
        have HKK:=Lib.hid hkk
        clear hkk
        obtain ⟨q15,q15',q16,q16',p4,p4',p5,p5',q19,q19',q20,q20',q21,q21',q22,q22'⟩:=HR16.out
        have c16:w14.cell? ⟨qb,2,none⟩=some (.int .u8 x2):=(HF15.out.get 0 rfl).cell 2
        have c17:w14.cell? ⟨qb,3,none⟩=some (.int .u8 x3):=(HF15.out.get 0 rfl).cell 3
        obtain ⟨g18,hg18⟩:∃ g,w14.heap.size=g:=⟨_,rfl⟩
        obtain ⟨w18,hw18⟩:∃ u,w14.alloc (.cells #[.int .i64 0,.int .i64 0] 56)=u:=⟨_,rfl⟩
        have HF19:=Lib.hid (frE hw18 (HF15.out.alloc hg18.symm 56 #[.int .i64 0,.int .i64 0]))
        go_wp2_with (refine wpStoreF rfl rfl 56 _ _ rfl g18 0 rfl #[.int .i64 LX,.int .i64 LY] rfl _ _ (iC [LX,LY]) (HF19.out.get 8 rfl) rfl (by show 0+2≤2;omega) (one_all rfl) info_56 ?_;intro w20 hk ho;clear c16 c17 hw18 hg18;have HF21:=Lib.hid (HF19.out.only 8 rfl ho hk);clear ho hk)
        refine HKK.out _ _ ?_
        exact loopB_any HFIN HAW HAp HWPP HBN HLEN HSG HTB HCF HZO HSPC HF21
end Go.Proofs.YtmkoegljnebdiaaGreat
namespace Go.Proofs.YtmkoegljnebdiaaGreat
open Go.ChangeShapes Go.WideShapes Go.ChangeAt Go.RowKit
set_option maxRecDepth 100000
set_option maxHeartbeats 16000000

section
variable {H:Type} {enc:TypeId × Value→H} {P:Program} {w:World} {t e:TypeId} {cs:List Value}
/-- The cells cs read as a value of type t. -/
def Rd (enc:TypeId × Value→H) (P:Program) (w:World) (t:TypeId) (cs:List Value):Prop:=∃ fuel x,DataW.trod enc P w 0 (fun _=>true) true fuel t cs=some x
theorem Rd.of_trod {v:Value} {d:DataW H} {ps:List MemPlace} (h:DataW.Trod enc P w 0 (fun _=>true) true t v d ps):Rd enc P w t v.cells.toList:=by
 obtain ⟨n,hn⟩:=h
 exact ⟨n,_,hn⟩
theorem Rd.int {k:IntKind} (h:Rd enc P w t cs) (ht:P.underlying t=some (.int k)):∃ n,cs=[.int k n]∧(Lit.int k n).wf=true:=by
 obtain ⟨fuel,x,h⟩:=h
 cases fuel with
 | zero=>simp [DataW.trod] at h
 | succ m =>
  unfold DataW.trod at h
  rw [ht] at h
  split at h <;> simp_all
theorem Rd.bool (h:Rd enc P w t cs) (ht:P.underlying t=some .bool):∃ b,cs=[.bool b]:=by
 obtain ⟨fuel,x,h⟩:=h
 cases fuel with
 | zero=>simp [DataW.trod] at h
 | succ m =>
  unfold DataW.trod at h
  rw [ht] at h
  split at h <;> simp_all
theorem Rd.string (h:Rd enc P w t cs) (ht:P.underlying t=some .string):∃ s,cs=[.string s]∧s.size≤maxLen:=by
 obtain ⟨fuel,x,h⟩:=h
 cases fuel with
 | zero=>simp [DataW.trod] at h
 | succ m =>
  unfold DataW.trod at h
  rw [ht] at h
  split at h <;> simp_all
theorem Rd.struct {fs:Array Field} (h:Rd enc P w t cs) (ht:P.underlying t=some (.struct fs)):cs.length=P.cellsOf t∧∀ f ∈ fs.toList,Rd enc P w f.type ((cs.drop f.offset).take (P.cellsOf f.type)):=by
 obtain ⟨fuel,x,h⟩:=h
 cases fuel with
 | zero=>simp [DataW.trod] at h
 | succ m =>
  unfold DataW.trod at h
  rw [ht] at h
  split at h <;> simp_all
  obtain ⟨hl,xs,hp,_⟩:=h
  refine fun f hf=>?_
  obtain ⟨i,hi⟩:=List.getElem?_of_mem (Array.mem_toList_iff.2 hf)
  have hg:=mapM_some_get hp i f hi
  have hlen:=mapM_some_length hp
  have:i<xs.length:=by rw [hlen];exact (List.getElem?_eq_some_iff.1 hi).1
  exact ⟨m,xs[i],by rw [hg];exact List.getElem?_eq_getElem this⟩
theorem Rd.fields {fs:Array Field} {l:List (TypeId × Nat)} (h:Rd enc P w t cs) (ht:P.underlying t=some (.struct fs)) (hl:fs.toList.map (fun f=>(f.type,f.offset))=l) :
  cs.length=P.cellsOf t∧∀ q ∈ l,Rd enc P w q.1 ((cs.drop q.2).take (P.cellsOf q.1)):=by
 obtain ⟨h1,h2⟩:=h.struct ht
 refine ⟨h1,fun q hq=>?_⟩
 rw [← hl] at hq
 obtain ⟨f,hf,rfl⟩:=List.mem_map.1 hq
 exact h2 f hf
theorem Rd.array {n:Nat} (h:Rd enc P w t cs) (ht:P.underlying t=some (.array n e)):cs.length=P.cellsOf t∧∀ i,i<n→Rd enc P w e ((cs.drop (i * P.cellsOf e)).take (P.cellsOf e)):=by
 obtain ⟨fuel,x,h⟩:=h
 obtain ⟨xs,m,_,_,h1,h2,h3⟩:=DataW.trod_array ht h
 refine ⟨h1,fun i hi=>?_⟩
 exact ⟨m,xs[i]'(by omega),by rw [h3 i hi];exact List.getElem?_eq_getElem _⟩
theorem cells_get {base n:Nat} {a:Addr} {l:List Value} (h:w.cells? base a n=some l):l.length=n∧∀ j,j<n→w.cell? (a.add j)=l[j]?:=by
 unfold World.cells? at h
 split at h
 ·exact ⟨by simpa using mapM_some_length h,fun j hj=>mapM_some_get h j j (by simp [hj])⟩
 ·cases h
theorem Rd.slice (h:Rd enc P w t cs) (ht:P.underlying t=some (.slice e)) :
  cs=[.slice none 0 0] ∨ ∃ a len cap,cs=[.slice (some a) len cap]∧len≤maxLen∧∀ i,i<len→∃ l,w.cells? 0 (a.add (i * P.cellsOf e)) (P.cellsOf e)=some l∧Rd enc P w e l:=by
 obtain ⟨fuel,x,h⟩:=h
 cases fuel with
 | zero=>simp [DataW.trod] at h
 | succ m =>
  unfold DataW.trod at h
  rw [ht] at h
  split at h <;> simp_all
  rename_i a len cap _
  obtain ⟨⟨h1,h2⟩,h3⟩:=h
  refine ⟨a,len,⟨rfl,rfl⟩,by omega,fun i hi=>?_⟩
  obtain ⟨elems,he,_⟩:=Option.bind_eq_some_iff.1 h3
  have hg:=mapM_some_get he i i (by simp [hi])
  have hlen:=mapM_some_length he
  have hi2:i<elems.length:=by rw [hlen];simpa using hi
  rw [List.getElem?_eq_getElem hi2] at hg
  obtain ⟨l,hl,hr⟩:=Option.bind_eq_some_iff.1 hg
  exact ⟨l,hl,m,_,hr⟩
/-- A slice, each of whose rows of k cells is some y. -/
theorem Rd.list {Y:Type} (C:Y→Nat→Value) (Q:Y→Prop) (y0:Y) {k:Nat} (h:Rd enc P w t cs) (ht:P.underlying t=some (.slice e)) (hk:P.cellsOf e=k) (hk0:0<k)
  (hrow:∀ l,l.length=k→Rd enc P w e l→∃ y,Q y∧∀ j,j<k→l[j]?=some (C y j)) :
  ∃ (A:Option Addr) (c:Nat) (l:List Y),cs=[.slice A l.length c]∧(∀ y ∈ l,Q y)∧Sl w w.heap.size k A l.length fun i=>C (l.getD i y0):=by
 rcases h.slice ht with rfl | ⟨a,len,cap,rfl,hm,hi⟩
 ·exact ⟨none,0,[],rfl,fun y hy=>by simp at hy,Sl.nil _ _ _ _ _⟩
 ·rw [hk] at hi
  have hex:∀ i,∃ y,i<len→Q y∧∀ j,j<k→w.cell? ((a.add (i * k)).add j)=some (C y j):=fun i=>by
   by_cases hlt:i<len
   ·obtain ⟨l,hl,hr⟩:=hi i hlt
    obtain ⟨h1,h2⟩:=cells_get hl
    obtain ⟨y,hq,hy⟩:=hrow l h1 hr
    exact ⟨y,fun _=>⟨hq,fun j hj=>(h2 j hj).trans (hy j hj)⟩⟩
   ·exact ⟨y0,fun h=>absurd h hlt⟩
  obtain ⟨f,hf⟩:=Classical.axiomOfChoice hex
  have hlen:((List.range len).map f).length=len:=by simp
  have hget:∀ i,i<len→((List.range len).map f).getD i y0=f i:=fun i hlt=>by simp [hlt]
  refine ⟨some a,cap,(List.range len).map f,by rw [hlen],fun y hy=>?_,?_,fun h0=>?_⟩
  ·obtain ⟨i,h1,rfl⟩:=List.mem_map.1 hy
   exact (hf i (by simpa using h1)).1
  ·rw [hlen];unfold maxLen at hm;omega
  ·rw [hlen] at h0
   have h1:=(hf 0 h0).2 0 hk0
   simp only [Nat.zero_mul,Addr.add] at h1
   obtain ⟨b,off,sp⟩:=a
   have hsp:sp=none:=by
    cases sp with
    | none=>rfl
    | some s=>simp [World.cell?] at h1;split at h1 <;> cases h1
   subst hsp
   refine ⟨b,off,rfl,World.block_lt_of_cell? w _ h1,fun i hi2 j hj=>?_⟩
   rw [hlen] at hi2
   show w.cell? _=some (C (((List.range len).map f).getD i y0) j)
   rw [hget i hi2]
   have:=(hf i hi2).2 j hj
   rwa [Addr.add_lit,Addr.add_lit] at this
/-! The last step. -/
theorem trodAll_stays (hl:laidOutB P=true) {W W':World} {base:Nat} {sp:Nat→Bool}:∀ (ts:List TypeId) {vs:List Value} {ds:List (DataW H)} {ps:List MemPlace},(∀ t ∈ ts,P.readableRec t=true∧t<P.types.size) →
  DataW.TrodAll enc P W base (fun _=>true) true ts vs ds ps→(∀ p ∈ ps,W.sameAt W' p)→(∀ p ∈ ps,sp p.block=true)→DataW.TrodAll enc P W' base sp true ts vs ds ps
 | [],vs,ds,ps,_,h,_,_=>by
  cases vs <;> cases ds <;> simp_all [DataW.TrodAll]
 | t :: ts,vs,ds,ps,ht,h,hs,hsp=>by
  obtain ⟨v,vs',d,ds',p,q,rfl,rfl,rfl,h1,h2⟩:=trodAll_cons h
  exact trodAll_cons_mk (WideElems.Trod_stays hl (ht t (List.mem_cons_self ..)).1 (ht t (List.mem_cons_self ..)).2 h1 (fun x hx=>hs x (List.mem_append_left _ hx)) (fun x hx=>hsp x (List.mem_append_left _ hx)))
   (trodAll_stays hl ts (fun t' h'=>ht t' (List.mem_cons_of_mem _ h')) h2 (fun x hx=>hs x (List.mem_append_right _ hx)) (fun x hx=>hsp x (List.mem_append_right _ hx)))
theorem law_post {f:Func} {s:ChangeSpec} {bt:TypeId} {W W':World} {args:Array Value} {ds gs:List (DataW H)} {before:List MemPlace}
  (hl:laidOutB P=true) (hps:∀ t ∈ f.params.toList,P.readableRec t=true∧t<P.types.size) (hrt:f.resultTypes=#[bt]) (hbt:P.underlying bt=some .bool) (hv:s.vars=[])
  (hW:DataW.Whole enc P f.params.toList s.vars false W args.toList ds gs before) (hres:(s.fn H (ds ++ gs)).results=[.lit (.bool true)]) (hargs:(s.fn H (ds ++ gs)).args=ds) (hvars:(s.fn H (ds ++ gs)).vars=[])
  (hb:Below W.heap.size W W'):s.post enc P f false true false false W args (.bool true) W':=by
 have hW':=hW
 have hlt:∀ p ∈ before,p.block<W.heap.size:=fun p hp=>hW.lt p hp
 have hold:∀ p ∈ before,(fun b=>decide (b<W.heap.size)) p.block=true:=fun p hp=>by simpa using hlt p hp
 obtain ⟨p,q,hA,hV,rfl,hz,hn⟩:=hW
 rw [hv] at hV
 obtain ⟨rfl,rfl⟩:=trodVars_none hV
 have hr:∀ (b:Nat) (sp:Nat→Bool) (hd:Bool),DataW.TrodAll enc P W' b sp hd f.resultTypes.toList ((Value.bool true).resultList f.resultTypes.size) (s.fn H (ds ++ [])).results []:=fun b sp hd=>by
  rw [hrt,hres];exact trodAll_mk1 (shut_bool hbt _)
 have ha:∀ sp:Nat→Bool,(∀ x ∈ p,sp x.block=true)→DataW.TrodAll enc P W' 0 sp true f.params.toList args.toList (s.fn H (ds ++ [])).args p:=fun sp hsp=>by
  rw [hargs];exact trodAll_stays hl _ hps hA (fun x hx=>hb.same (hlt x (List.mem_append_left _ hx))) hsp
 have hvs:∀ sp:Nat→Bool,DataW.TrodVars enc P W' sp s.vars (s.fn H (ds ++ [])).vars []:=fun sp=>by rw [hv,hvars];rfl
 refine ⟨ds,[],p ++ [],[],p,[],hW',hr _ _ _,ha _ (fun x hx=>hold x (List.mem_append_left _ hx)),hvs _,World.keptBut_mono (fun x hx=>⟨hx,?_⟩) (hb.frame (· ∈ p ++ [])),fun _=>?_⟩
 ·exact Or.inr (List.mem_append.1 hx)
 ·refine ⟨?_,_,_,([] ++ p) ++ [],⟨[] ++ p,[],trodAll_append (ha _ (fun _ _=>rfl)) (hr _ _ _),hvs _,rfl,?_,?_⟩,?_⟩
  ·exact ok_one hrt rfl (okWide_bool_mk hbt _)
  ·intro b off hp
   have hin:MemPlace.cell b off ∈ p ++ []:=by simpa using hp
   rw [hb.frozen (hlt _ hin)]
   exact hz b off hin
  ·intro ha;cases ha
  ·intro x hx _
   simpa using hx
end

theorem laidOut:laidOutB Tryz.prog=true:=by kernel_rfl
theorem ownKnobL:ownKnob Tryz.prog.godebug=none:=by kernel_rfl
def structOf (P:Program) (t:TypeId):Array Field:=match P.underlying t with | some (.struct f)=>f | _=>#[]
theorem okWide_str {P:Program} {w:World} {base:Nat} {t:TypeId} {v:Value} {fs:Array Field} (hu:P.underlying t=some (.struct fs)) (h:Value.okWide P w .any base t v):∃ cs,v=.agg cs:=by
 simp only [Value.okWide,hu] at h
 obtain ⟨cs,rfl,_⟩:=h
 exact ⟨cs,rfl⟩
theorem row_get {cs:List Value} {j:Nat} {v:Value} (h:(cs.drop j).take 1=[v]):cs[j]?=some v:=by
 have:=congrArg (·[0]?) h
 simpa [List.getElem?_take,List.getElem?_drop] using this
theorem toList9 {cs:Array Value} {a b c d e f g h i:Value} (h0:cs.toList.length=9) (e0:cs.toList[0]?=some a) (e1:cs.toList[1]?=some b) (e2:cs.toList[2]?=some c) (e3:cs.toList[3]?=some d) (e4:cs.toList[4]?=some e) (e5:cs.toList[5]?=some f) (e6:cs.toList[6]?=some g) (e7:cs.toList[7]?=some h) (e8:cs.toList[8]?=some i):cs=#[a,b,c,d,e,f,g,h,i]:=by
 obtain ⟨l⟩:=cs
 simp only at h0 e0 e1 e2 e3 e4 e5 e6 e7 e8
 match l,h0 with
 | [x0,x1,x2,x3,x4,x5,x6,x7,x8],_=>simp at e0 e1 e2 e3 e4 e5 e6 e7 e8;subst e0;subst e1;subst e2;subst e3;subst e4;subst e5;subst e6;subst e7;subst e8;rfl
theorem toList2 {cs:Array Value} {a b:Value} (h0:cs.toList.length=2) (e0:cs.toList[0]?=some a) (e1:cs.toList[1]?=some b):cs=#[a,b]:=by
 obtain ⟨l⟩:=cs
 simp only at h0 e0 e1
 match l,h0 with
 | [x0,x1],_=>simp at e0 e1;subst e0;subst e1;rfl
theorem u8_bd {n:Int} (h:(Lit.int .u8 n).wf=true):0≤n∧n≤255:=by
 simpa [Lit.wf,IntKind.min,IntKind.max,IntKind.signed,IntKind.bits] using h
theorem u16_bd {n:Int} (h:(Lit.int .u16 n).wf=true):0≤n∧n≤65535:=by
 simpa [Lit.wf,IntKind.min,IntKind.max,IntKind.signed,IntKind.bits] using h
section
variable {H:Type} {enc:TypeId × Value→H} {w:World} {cs:List Value} {j base:Nat} {v:Value}
theorem rd_u8 (h:Rd enc Tryz.prog w 5 ((cs.drop j).take (Tryz.prog.cellsOf 5))):∃ n,cs[j]?=some (.int .u8 n)∧0≤n∧n≤255:=by
 rw [show Tryz.prog.cellsOf 5=1 from by kernel_rfl] at h
 obtain ⟨n,e,hw⟩:=h.int (show Tryz.prog.underlying 5=some (.int .u8) by kernel_rfl)
 exact ⟨n,row_get e,u8_bd hw⟩
theorem rd_u16 (h:Rd enc Tryz.prog w 22 ((cs.drop j).take (Tryz.prog.cellsOf 22))):∃ n,cs[j]?=some (.int .u16 n)∧0≤n∧n≤65535:=by
 rw [show Tryz.prog.cellsOf 22=1 from by kernel_rfl] at h
 obtain ⟨n,e,hw⟩:=h.int (show Tryz.prog.underlying 22=some (.int .u16) by kernel_rfl)
 exact ⟨n,row_get e,u16_bd hw⟩
theorem rd_int (h:Rd enc Tryz.prog w 3 ((cs.drop j).take (Tryz.prog.cellsOf 3))):∃ n,cs[j]?=some (.int .i64 n):=by
 rw [show Tryz.prog.cellsOf 3=1 from by kernel_rfl] at h
 obtain ⟨n,e,_⟩:=h.int (show Tryz.prog.underlying 3=some (.int .i64) by kernel_rfl)
 exact ⟨n,row_get e⟩
def spotC (s:SpotD) (j:Nat):Value:=match j with | 0=>.int .i64 s.x | _=>.int .i64 s.y
theorem rd_spot (h:Rd enc Tryz.prog w 56 cs):∃ s:SpotD,True∧∀ j,j<2→cs[j]?=some (spotC s j):=by
 obtain ⟨_,h2⟩:=h.fields (l:=[(3,0),(3,1)]) (show Tryz.prog.underlying 56=some (.struct (structOf Tryz.prog 56)) by kernel_rfl) (by kernel_rfl)
 obtain ⟨a,e0⟩:=rd_int (h2 (3,0) (by simp))
 obtain ⟨b,e1⟩:=rd_int (h2 (3,1) (by simp))
 refine ⟨⟨a,b⟩,trivial,fun j hj=>?_⟩
 match j,hj with
 | 0,_=>exact e0
 | 1,_=>exact e1
theorem arg_shot (ho:Value.okWide Tryz.prog w .any base 24 v) (h:Rd enc Tryz.prog w 24 v.cells.toList) :
  ∃ x0 x1 x2 x3 x4 x5 x6 x7 off:Int,v=.agg #[.int .u8 x0,.int .u8 x1,.int .u8 x2,.int .u8 x3,.int .u8 x4,.int .u8 x5,.int .u8 x6,.int .u8 x7,.int .u16 off]∧(0≤x0∧x0≤255)∧(0≤x1∧x1≤255)∧(0≤x2∧x2≤255)∧(0≤x3∧x3≤255)∧(0≤x4∧x4≤255)∧(0≤x5∧x5≤255)∧(0≤x6∧x6≤255)∧(0≤x7∧x7≤255)∧0≤off∧off≤65535:=by
 have hu:Tryz.prog.underlying 24=some (.struct (structOf Tryz.prog 24)):=by kernel_rfl
 obtain ⟨cs,rfl⟩:=okWide_str hu ho
 obtain ⟨h1,h2⟩:=h.fields (l:=[(5,0),(5,1),(5,2),(5,3),(5,4),(5,5),(5,6),(5,7),(22,8)]) hu (by kernel_rfl)
 rw [show Tryz.prog.cellsOf 24=9 from by kernel_rfl] at h1
 obtain ⟨a0,e0,b0⟩:=rd_u8 (h2 (5,0) (by simp))
 obtain ⟨a1,e1,b1⟩:=rd_u8 (h2 (5,1) (by simp))
 obtain ⟨a2,e2,b2⟩:=rd_u8 (h2 (5,2) (by simp))
 obtain ⟨a3,e3,b3⟩:=rd_u8 (h2 (5,3) (by simp))
 obtain ⟨a4,e4,b4⟩:=rd_u8 (h2 (5,4) (by simp))
 obtain ⟨a5,e5,b5⟩:=rd_u8 (h2 (5,5) (by simp))
 obtain ⟨a6,e6,b6⟩:=rd_u8 (h2 (5,6) (by simp))
 obtain ⟨a7,e7,b7⟩:=rd_u8 (h2 (5,7) (by simp))
 obtain ⟨a8,e8,b8⟩:=rd_u16 (h2 (22,8) (by simp))
 exact ⟨a0,a1,a2,a3,a4,a5,a6,a7,a8,congrArg Value.agg (toList9 (cs:=cs) h1 e0 e1 e2 e3 e4 e5 e6 e7 e8),b0,b1,b2,b3,b4,b5,b6,b7,b8⟩
theorem arg_zone (ho:Value.okWide Tryz.prog w .any base 27 v) (h:Rd enc Tryz.prog w 27 v.cells.toList) :
  ∃ (nm:ByteArray) (A:Option Addr) (n c:Nat) (p:Nat→SpotD),v=zoneV nm A n c∧ZoneAt w A n p:=by
 have hu:Tryz.prog.underlying 27=some (.struct (structOf Tryz.prog 27)):=by kernel_rfl
 obtain ⟨cs,rfl⟩:=okWide_str hu ho
 obtain ⟨h1,h2⟩:=h.fields (l:=[(9,0),(25,1)]) hu (by kernel_rfl)
 rw [show Tryz.prog.cellsOf 27=2 from by kernel_rfl] at h1
 have g0:=h2 (9,0) (by simp)
 have g1:=h2 (25,1) (by simp)
 rw [show Tryz.prog.cellsOf 9=1 from by kernel_rfl] at g0
 rw [show Tryz.prog.cellsOf 25=1 from by kernel_rfl] at g1
 obtain ⟨nm,e0,_⟩:=g0.string (show Tryz.prog.underlying 9=some .string by kernel_rfl)
 obtain ⟨A,c,l,e1,_,hsl⟩:=g1.list spotC (fun _=>True) ⟨0,0⟩ (e:=56) (show Tryz.prog.underlying 25=some (.slice 56) by kernel_rfl) (k:=2) (by kernel_rfl) (by omega) (fun l _ hr=>rd_spot hr)
 refine ⟨nm,A,l.length,c,fun i=>l.getD i ⟨0,0⟩,congrArg Value.agg (toList2 (cs:=cs) h1 (row_get e0) (row_get e1)),fun h3 _=>?_⟩
 obtain ⟨b,off,rfl,hb,hc⟩:=hsl.2 (by omega)
 exact ⟨b,off,rfl,hb,fun i hi=>⟨hc i hi 0 (by omega),hc i hi 1 (by omega)⟩⟩
end
end Go.Proofs.YtmkoegljnebdiaaGreat
