/- What is proved: the texts Pa Pb Pc Pd Pe Qa Qb, one behind the other; each says at its head what it proves, and under which conditions. -/
import Derived.ChangeKeysEq
import Derived.Laws.StructEq
import Derived.Test.YtmkoegljnebdiaaGreatdPLands10
namespace Go.Proofs.YtmkoegljnebdiaaGreat
set_option maxRecDepth 100000
set_option maxHeartbeats 16000000

theorem far_corner {v:Nat→SpotD} (D:SpotD→Int):∀ n,0<n→∃ c,c<n∧∀ i,i<n→D (v i)≤D (v c)
 | 0,h=>absurd h (by omega)
 | 1,_=>⟨0,by omega,fun i hi=>by rw [show i=0 by omega];exact Int.le_refl _⟩
 | n+2,_=>by
  obtain ⟨c,hc,h⟩:=far_corner (v:=v) D (n+1) (by omega)
  rcases Int.le_total (D (v (n+1))) (D (v c)) with h1 | h1
  ·refine ⟨c,by omega,fun i hi=>?_⟩
   rcases Nat.lt_or_ge i (n+1) with h2 | h2
   ·exact h i h2
   ·rw [show i=n+1 by omega];exact h1
  ·refine ⟨n+1,by omega,fun i hi=>?_⟩
   rcases Nat.lt_or_ge i (n+1) with h2 | h2
   ·exact Int.le_trans (h i h2) h1
   ·rw [show i=n+1 by omega];exact Int.le_refl _
theorem cross_id (a b c d e f u v:Int):(a * d - b * c) * (u * e+v * f)=-(c * f - d * e) * (u * a+v * b)+(a * f - b * e) * (u * c+v * d):=by grind
theorem cross_le {X A B C E q:Int} (h:X * q=-B * A+C * E) (hX:0<X) (hA:0≤A) (hB:0≤B) (hC:0≤C) (hE:E≤0):q≤0:=by
 have h1:0≤B * A:=Int.mul_nonneg hB hA
 have h2:C * E≤0:=Int.mul_nonpos_of_nonneg_of_nonpos hC hE
 rcases Int.lt_or_le 0 q with h3 | h3
 ·have:=Int.mul_pos hX h3
  rw [h,Int.neg_mul] at this;omega
 ·exact h3
theorem corner_le {a b c p:SpotD} (du dv:Int) (h0:0<leftI a b c) (h1:0≤leftI a b p) (h2:0≤leftI b c p) (ha:dirI du dv a≤dirI du dv b) (hc:dirI du dv c≤dirI du dv b):dirI du dv p≤dirI du dv b:=by
 have hid:=cross_id (b.x - a.x) (b.y - a.y) (c.x - b.x) (c.y - b.y) (p.x - b.x) (p.y - b.y) du dv
 have e0:leftI a b c=(b.x - a.x) * (c.y - b.y) - (b.y - a.y) * (c.x - b.x):=by unfold leftI;grind
 have e1:leftI a b p=(b.x - a.x) * (p.y - b.y) - (b.y - a.y) * (p.x - b.x):=by unfold leftI;grind
 have e2:leftI b c p=(c.x - b.x) * (p.y - b.y) - (c.y - b.y) * (p.x - b.x):=rfl
 rw [← e0,← e1,← e2] at hid
 have d1:du * (b.x - a.x)+dv * (b.y - a.y)=dirI du dv b - dirI du dv a:=by unfold dirI;grind
 have d2:du * (c.x - b.x)+dv * (c.y - b.y)=dirI du dv c - dirI du dv b:=by unfold dirI;grind
 have d3:du * (p.x - b.x)+dv * (p.y - b.y)=dirI du dv p - dirI du dv b:=by unfold dirI;grind
 rw [d1,d2,d3] at hid
 have:=cross_le hid h0 (by omega) h2 h1 (by omega)
 omega
theorem in_hull {n:Nat} {v:Nat→SpotD} {p:SpotD} (hz:ZoneOk n v) (hp:∀ k,k<n→0≤leftI (v k) (v ((k+1) % n)) p) (du dv:Int):∃ c,c<n∧dirI du dv p≤dirI du dv (v c):=by
 have h3:=hz.1
 obtain ⟨c,hc,h⟩:=far_corner (v:=v) (dirI du dv) n (by omega)
 have hl:=hz.2.2.2 c hc
 have hpm:(c+(n - 1)) % n<n:=Nat.mod_lt _ (by omega)
 have hnm:(c+1) % n<n:=Nat.mod_lt _ (by omega)
 have hpc:((c+(n - 1)) % n+1) % n=c:=by
  rw [Nat.mod_add_mod,show c+(n - 1)+1=c+n by omega,Nat.add_mod_right,Nat.mod_eq_of_lt hc]
 have h1:=hp _ hpm
 rw [hpc] at h1
 exact ⟨c,hc,corner_le du dv hl h1 (hp c hc) (h _ hpm) (h _ hnm)⟩
theorem rect_corner (r:RectD) {p:SpotD} (h1:r.a.x≤p.x) (h2:p.x≤r.b.x) (h3:r.a.y≤p.y) (h4:p.y≤r.b.y) (du dv:Int):∃ j,j<4∧dirI du dv (cornP r j)≤dirI du dv p:=by
 have key:∀ (d lo hi x:Int),lo≤x→x≤hi→(0≤d→d * lo≤d * x)∧(d≤0→d * hi≤d * x):=fun d lo hi x a b =>
  ⟨fun h=>Int.mul_le_mul_of_nonneg_left a h,fun h=>Int.mul_le_mul_of_nonpos_left h b⟩
 obtain ⟨x1,x2⟩:=key du _ _ _ h1 h2
 obtain ⟨y1,y2⟩:=key dv _ _ _ h3 h4
 rcases Int.le_total 0 du with hu | hu <;> rcases Int.le_total 0 dv with hv | hv
 ·exact ⟨0,by omega,by have h5:=x1 hu;have h6:=y1 hv;show du * r.a.x+dv * r.a.y≤du * p.x+dv * p.y;omega⟩
 ·exact ⟨3,by omega,by have h5:=x1 hu;have h6:=y2 hv;show du * r.a.x+dv * r.b.y≤du * p.x+dv * p.y;omega⟩
 ·exact ⟨1,by omega,by have h5:=x2 hu;have h6:=y1 hv;show du * r.b.x+dv * r.a.y≤du * p.x+dv * p.y;omega⟩
 ·exact ⟨2,by omega,by have h5:=x2 hu;have h6:=y2 hv;show du * r.b.x+dv * r.b.y≤du * p.x+dv * p.y;omega⟩
theorem dir_neg (du dv:Int) (s:SpotD):dirI (-du) (-dv) s=-dirI du dv s:=by unfold dirI;rw [Int.neg_mul,Int.neg_mul];omega
/-- **No direction tells them apart.** -/
theorem no_sep {n:Nat} {v:Nat→SpotD} {r:RectD} {p:SpotD} (hz:ZoneOk n v) (hp:∀ k,k<n→0≤leftI (v k) (v ((k+1) % n)) p) (h1:r.a.x≤p.x) (h2:p.x≤r.b.x) (h3:r.a.y≤p.y) (h4:p.y≤r.b.y) (hs:∃ du dv,SepUV du dv n v 4 (cornP r)):False:=by
 obtain ⟨du,dv,hs | hs⟩:=hs
 ·obtain ⟨j,hj,h5⟩:=rect_corner r h1 h2 h3 h4 du dv
  obtain ⟨c,hc,h6⟩:=in_hull hz hp du dv
  have:=hs c hc j hj
  omega
 ·obtain ⟨j,hj,h5⟩:=rect_corner r h1 h2 h3 h4 (-du) (-dv)
  obtain ⟨c,hc,h6⟩:=in_hull hz hp (-du) (-dv)
  have:=hs c hc j hj
  simp only [dir_neg] at h5 h6
  omega

/-- The span holds the number. -/
def InP (x:Int) (a:SpanD):Prop:=inS (ptS x) a
theorem dn_exact {z:Int}:dn32 (z * 4294967296)=z:=by unfold dn32;omega
theorem up_exact {z:Int}:up32 (z * 4294967296)=z:=by unfold up32;omega
theorem add_pt {x y:Int} {a b r:SpanD} (hx:InP x a) (hy:InP y b) (h:addB a b=(r,0)):InP (x+y) r:=by
 obtain ⟨r',h1,h2⟩:=add_iso hx hy h
 obtain ⟨_,_,h3⟩:=add_ok h1
 obtain ⟨e,_,_⟩:=fit_ok h3
 subst e;exact h2
theorem mul_val {x y z:Int} {r:SpanD} (he:x * y=z * 4294967296) (h:mulB (ptS x) (ptS y)=(r,0)):r=ptS z:=by
 unfold mulB at h
 split at h
 ·obtain ⟨e,_,_⟩:=fit_ok h
  rw [e]
  show SpanD.mk (dn32 (min4 (x * y) (x * y) (x * y) (x * y))) (up32 (max4 (x * y) (x * y) (x * y) (x * y)))=⟨z,z⟩
  rw [he,show min4 (z * 4294967296) (z * 4294967296) (z * 4294967296) (z * 4294967296)=z * 4294967296 by unfold min4;omega,show max4 (z * 4294967296) (z * 4294967296) (z * 4294967296) (z * 4294967296)=z * 4294967296 by unfold max4;omega,dn_exact,up_exact]
 ·exact absurd (congrArg Prod.snd h) (by show ¬ (2:Int)=0;decide)
theorem mul_pt {x y z:Int} {a b r:SpanD} (hx:InP x a) (hy:InP y b) (he:x * y=z * 4294967296) (h:mulB a b=(r,0)):InP z r:=by
 obtain ⟨r',h1,h2⟩:=mul_iso hx hy h
 rw [mul_val he h1] at h2;exact h2
theorem scale_pt {x:Int} {a r:SpanD} (hx:InP x a) (h:scaleB a 2=(r,0)):InP (x * 2) r:=by
 obtain ⟨r',h1,h2⟩:=scale_iso hx h
 unfold scaleB at h1
 split at h1
 ·obtain ⟨e,_,_⟩:=fit_ok h1
  subst e
  have e1:min ((ptS x).lo * 2) ((ptS x).hi * 2)=x * 2:=by show min (x * 2) (x * 2)=_;omega
  have e2:max ((ptS x).lo * 2) ((ptS x).hi * 2)=x * 2:=by show max (x * 2) (x * 2)=_;omega
  rw [e1,e2] at h2;exact h2
 ·exact absurd (congrArg Prod.snd h1) (by show ¬ (2:Int)=0;decide)
theorem div_exact {x y z:Int} (hy:0<y) (he:x * 4294967296=z * y):fqB x y=z∧cqB x y=z:=by
 unfold cqB fqB
 rw [if_pos hy,if_pos hy,he,Int.neg_mul,he,← Int.neg_mul,Int.mul_ediv_cancel _ (by omega),Int.mul_ediv_cancel _ (by omega)]
 omega
theorem div_pt {x y z:Int} {a b r:SpanD} (hx:InP x a) (hy:InP y b) (h0:0<y) (he:x * 4294967296=z * y) (h:divB a b=(r,0)):InP z r:=by
 obtain ⟨r',h1,h2⟩:=div_iso hx hy h
 obtain ⟨_,_,_,h3⟩:=div_ok h1
 obtain ⟨e,_,_⟩:=fit_ok h3
 subst e
 obtain ⟨e1,e2⟩:=div_exact h0 he
 have e3:min4 (fqB (ptS x).lo (ptS y).lo) (fqB (ptS x).lo (ptS y).hi) (fqB (ptS x).hi (ptS y).lo) (fqB (ptS x).hi (ptS y).hi)=z:=by
  show min4 (fqB x y) (fqB x y) (fqB x y) (fqB x y)=z
  rw [e1];unfold min4;omega
 have e4:max4 (cqB (ptS x).lo (ptS y).lo) (cqB (ptS x).lo (ptS y).hi) (cqB (ptS x).hi (ptS y).lo) (cqB (ptS x).hi (ptS y).hi)=z:=by
  show max4 (cqB x y) (cqB x y) (cqB x y) (cqB x y)=z
  rw [e2];unfold max4;omega
 rw [e3,e4] at h2;exact h2
theorem abs_pt (x:Int):∃ k,absS (ptS x)=ptS k∧k * k=x * x:=by
 unfold absS negS
 by_cases h:0≤x
 ·exact ⟨x,by rw [if_pos (show 0≤(ptS x).lo from h)],rfl⟩
 ·refine ⟨-x,?_,by rw [Int.neg_mul_neg]⟩
  rw [if_neg (show ¬ 0≤(ptS x).lo from h),if_pos (show (ptS x).hi≤0 by show x≤0;omega)];rfl
theorem square_pt {x z:Int} {a r:SpanD} (hx:InP x a) (he:x * x=z * 4294967296) (h:squareB a=(r,0)):InP z r:=by
 obtain ⟨r',h1,h2⟩:=square_iso hx h
 unfold squareB at h1
 split at h1
 ·obtain ⟨k,hk,hkk⟩:=abs_pt x
  rw [hk] at h1
  rw [mul_val (by rw [hkk];exact he) h1] at h2;exact h2
 ·exact absurd (congrArg Prod.snd h1) (by show ¬ (2:Int)=0;decide)
theorem root_val {n k:Nat} (hn:n<9223372036854775808) (h:n * 4294967296=k * k):rootN n=k:=by
 obtain ⟨h1,h2⟩:=rootN_spec hn
 rw [h] at h1 h2
 have h3:k<rootN n+1:=sq_lt h2
 have h4:rootN n<k+1:=by
  refine sq_lt (Nat.lt_of_le_of_lt h1 ?_)
  exact Nat.mul_self_lt_mul_self (by omega)
 omega
theorem root_pt {x k:Int} {a r:SpanD} (hx:InP x a) (h0:0≤x) (hk:0≤k) (he:x * 4294967296=k * k) (h:rootB a=(r,0)):InP k r:=by
 have hb:x≤9223372036854775807:=Int.le_trans hx.2.2.1 hx.2.2.2
 obtain ⟨r',h1,h2⟩:=root_iso hx h0 h
 obtain ⟨n,rfl⟩:=Int.eq_ofNat_of_zero_le h0
 obtain ⟨m,rfl⟩:=Int.eq_ofNat_of_zero_le hk
 have hm:n * 4294967296=m * m:=Int.ofNat.inj (show ((n * 4294967296:Nat):Int)=((m * m:Nat):Int) by rw [Int.natCast_mul,Int.natCast_mul];exact he)
 have hv:=root_val (by omega) hm
 unfold rootB at h1
 split at h1
 ·rw [if_neg (show ¬ (ptS (n:Int)).hi<0 by show ¬ (n:Int)<0;omega)] at h1
  have e1:(max (ptS (n:Int)).lo 0).toNat=n:=by show (max (n:Int) 0).toNat=n;omega
  have e2:(ptS (n:Int)).hi.toNat=n:=by show (n:Int).toNat=n;omega
  rw [e1,e2,hv,if_pos hm.symm] at h1
  have:=(congrArg Prod.fst h1).symm
  dsimp only at this
  subst this
  exact h2
 ·exact absurd (congrArg Prod.snd h1) (by show ¬ (2:Int)=0;decide)
theorem forw_pt {x y z:Int} {a b r:SpanD} (hx:InP x a) (hy:InP y b) (h0:0<y) (hz:0≤z) (he:x * 4294967296=z * y) (h:forwB a b=(r,0)):InP z r:=by
 unfold forwB at h
 have e1:(divB a b).2=0:=congrArg Prod.snd h
 have e2:=(congrArg Prod.fst h).symm
 dsimp only at e2
 have h3:=div_pt hx hy h0 he (r:=(divB a b).1) (Prod.ext rfl e1)
 obtain ⟨g1,g2,g3,g4⟩:=h3
 subst e2
 refine ⟨g1,?_,g3,g4⟩
 show max 0 (divB a b).1.lo≤z
 have:(divB a b).1.lo≤z:=g2
 omega
theorem run_ok {f i j t:Nat} {r:List (Nat × Nat × Nat × Nat)} {s S:Nat→SpanD} (h:runI ((f,i,j,t) :: r) s=(S,0)):∃ q,stepB f (s i) (s j)=(q,0)∧runI r (putS s t q)=(S,0):=by
 rw [runI] at h
 by_cases e:(stepB f (s i) (s j)).2=0
 ·rw [if_neg (fun hne=>hne e)] at h
  exact ⟨_,Prod.ext rfl e,h⟩
 ·rw [if_pos e] at h
  exact absurd (congrArg Prod.snd h) e
theorem run_law {s S:Nat→SpanD} {px py pz vx vy vz g t:Int} (hg:0<g) (ht:0≤t) (hq:vz * vz+2 * g * pz=(g * t - vz) * (g * t - vz)) (hk:0≤g * t - vz) (hpz:0≤pz)
  (h0:InP (px * 4294967296) (s 0)) (h1:InP (py * 4294967296) (s 1)) (h2:InP (pz * 4294967296) (s 2)) (h3:InP (vx * 4294967296) (s 3)) (h4:InP (vy * 4294967296) (s 4)) (h5:InP (vz * 4294967296) (s 5)) (h6:InP (g * 4294967296) (s 6)) (h7:InP 0 (s 7)) (h8:InP 0 (s 8)) (h:runI opsI s=(S,0)):InP (px * 4294967296+vx * t * 4294967296+0) (S 14)∧InP (py * 4294967296+vy * t * 4294967296+0) (S 15):=by
 unfold opsI at h
 obtain ⟨r0,e0,h⟩:=run_ok h
 have f0:InP (vz * vz * 4294967296) r0:=square_pt h5 (z:=(vz * vz * 4294967296)) (by grind) e0
 obtain ⟨r1,e1,h⟩:=run_ok h
 have f1:InP (g * 4294967296 * 2) r1:=scale_pt h6 e1
 obtain ⟨r2,e2,h⟩:=run_ok h
 have f2:InP (2 * g * pz * 4294967296) r2:=mul_pt f1 h2 (z:=(2 * g * pz * 4294967296)) (by grind) e2
 obtain ⟨r3,e3,h⟩:=run_ok h
 have f3:InP (vz * vz * 4294967296+2 * g * pz * 4294967296) r3:=add_pt f0 f2 e3
 obtain ⟨r4,e4,h⟩:=run_ok h
 have hsq:0≤vz * vz:=by rcases Int.le_total 0 vz with h | h;exact Int.mul_nonneg h h;exact Int.mul_nonneg_of_nonpos_of_nonpos h h
 have hgp:0≤2 * g * pz:=Int.mul_nonneg (by omega) hpz
 have hs0:0≤vz * vz * 4294967296+2 * g * pz * 4294967296:=by omega
 have hs1:0≤(g * t - vz) * 4294967296:=by omega
 have hs2:(vz * vz * 4294967296+2 * g * pz * 4294967296) * 4294967296=(g * t - vz) * 4294967296 * ((g * t - vz) * 4294967296):=by grind
 have f4:InP ((g * t - vz) * 4294967296) r4:=root_pt f3 (k:=((g * t - vz) * 4294967296)) hs0 hs1 hs2 e4
 obtain ⟨r5,e5,h⟩:=run_ok h
 have f5:InP (vz * 4294967296+(g * t - vz) * 4294967296) r5:=add_pt h5 f4 e5
 obtain ⟨r6,e6,h⟩:=run_ok h
 have f6:InP (t * 4294967296) r6:=forw_pt f5 h6 (z:=(t * 4294967296)) (by omega) (by omega) (by grind) e6
 obtain ⟨r7,e7,h⟩:=run_ok h
 have f7:InP (vx * t * 4294967296) r7:=mul_pt h3 f6 (z:=(vx * t * 4294967296)) (by grind) e7
 obtain ⟨r8,e8,h⟩:=run_ok h
 have f8:InP (px * 4294967296+vx * t * 4294967296) r8:=add_pt h0 f7 e8
 obtain ⟨r9,e9,h⟩:=run_ok h
 have f9:InP 0 r9:=mul_pt h7 f6 (z:=0) (by grind) e9
 obtain ⟨r10,e10,h⟩:=run_ok h
 have f10:InP (px * 4294967296+vx * t * 4294967296+0) r10:=add_pt f8 f9 e10
 obtain ⟨r11,e11,h⟩:=run_ok h
 have f11:InP (vy * t * 4294967296) r11:=mul_pt h4 f6 (z:=(vy * t * 4294967296)) (by grind) e11
 obtain ⟨r12,e12,h⟩:=run_ok h
 have f12:InP (py * 4294967296+vy * t * 4294967296) r12:=add_pt h1 f11 e12
 obtain ⟨r13,e13,h⟩:=run_ok h
 have f13:InP 0 r13:=mul_pt h8 f6 (z:=0) (by grind) e13
 obtain ⟨r14,e14,h⟩:=run_ok h
 have f14:InP (py * 4294967296+vy * t * 4294967296+0) r14:=add_pt f12 f13 e14
 have hS:_=S:=congrArg Prod.fst h
 subst hS
 exact ⟨f10,f14⟩
theorem out_law {x y:SpanD} {lx ly:Int} (hx:InP (lx * 4294967296) x) (hy:InP (ly * 4294967296) y) (hr:rectB (outR x y)=true):(outR x y).a.x≤1000 * lx∧1000 * lx≤(outR x y).b.x∧(outR x y).a.y≤1000 * ly∧1000 * ly≤(outR x y).b.y:=by
 obtain ⟨_,x1,x2,x3⟩:=hx
 obtain ⟨_,y1,y2,y3⟩:=hy
 unfold rectB betwI outR at hr
 simp only [Bool.and_eq_true,decide_eq_true_eq] at hr
 unfold outR
 dsimp only at hr ⊢
 have q1:x.lo≤lx * 4294967296:=x1
 have q2:lx * 4294967296≤x.hi:=x2
 have q3:y.lo≤ly * 4294967296:=y1
 have q4:ly * 4294967296≤y.hi:=y2
 unfold upI downI at hr ⊢
 refine ⟨?_,?_,?_,?_⟩
 all_goals (split at hr <;> split at hr <;> split at hr <;> split at hr <;> simp_all <;> omega)

theorem bnd_ok {α β:Type} {m:CM α} {k:α→CM β} {r:β} (hs:∀ a,Sticky (k a)) (h:(m.bnd k) 0=(r,0)):∃ a,m 0=(a,0)∧k a 0=(r,0):=by
 have h0:(m 0).2=0:=by
  rcases Classical.em ((m 0).2=0) with e | e
  ·exact e
  ·have h2:=hs (m 0).1 (m 0).2 e
   have h3:(k (m 0).1 (m 0).2).2=0:=congrArg Prod.snd h
   rw [h2] at h3;exact absurd h3 e
 refine ⟨(m 0).1,Prod.ext rfl h0,?_⟩
 have h5:k (m 0).1 (m 0).2=(r,0):=h
 rwa [h0] at h5
theorem doM_ok {f:SpanD→SpanD→SpanD × Int} {a b r:SpanD} (h:doM f a b 0=(r,0)):f a b=(r,0):=by
 unfold doM at h;rwa [if_pos rfl] at h
theorem each_ok {f:SpanD→SpanD→SpanD × Int} {a b r:BoxD} (h:eachM (doM f) a b 0=(r,0)):f a.x b.x=(r.x,0)∧f a.y b.y=(r.y,0)∧f a.z b.z=(r.z,0):=by
 unfold eachM at h
 obtain ⟨x,h1,h⟩:=bnd_ok (fun _=>(doM_sticky f _ _).bnd fun _=>(doM_sticky f _ _).bnd fun _=>Sticky.ret _) h
 obtain ⟨y,h2,h⟩:=bnd_ok (fun _=>(doM_sticky f _ _).bnd fun _=>Sticky.ret _) h
 obtain ⟨z,h3,h⟩:=bnd_ok (fun _=>Sticky.ret _) h
 have e:BoxD.mk x y z=r:=congrArg Prod.fst h
 subst e
 exact ⟨doM_ok h1,doM_ok h2,doM_ok h3⟩
theorem each_sticky (f:SpanD→SpanD→SpanD × Int) (a b:BoxD):Sticky (eachM (doM f) a b):=eachM_sticky (fun _ _=>doM_sticky _ _ _) _ _
theorem reached_ok {x m:SixD} {d:SpanD} {v f:BoxD} (h:reachedM x d v f 0=(m,0)):∃ dv df,eachM (doM mulB) (allBox d) v 0=(dv,0)∧eachM (doM addB) x.p dv 0=(m.p,0)∧eachM (doM mulB) (allBox d) f 0=(df,0)∧eachM (doM addB) x.v df 0=(m.v,0):=by
 unfold reachedM byM mulM addM at h
 obtain ⟨dv,h1,h⟩:=bnd_ok (fun _=>(each_sticky _ _ _).bnd fun _=>(each_sticky _ _ _).bnd fun _=>(each_sticky _ _ _).bnd fun _=>Sticky.ret _) h
 obtain ⟨p,h2,h⟩:=bnd_ok (fun _=>(each_sticky _ _ _).bnd fun _=>(each_sticky _ _ _).bnd fun _=>Sticky.ret _) h
 obtain ⟨df,h3,h⟩:=bnd_ok (fun _=>(each_sticky _ _ _).bnd fun _=>Sticky.ret _) h
 obtain ⟨v2,h4,h⟩:=bnd_ok (fun _=>Sticky.ret _) h
 have e:SixD.mk p v2=m:=congrArg Prod.fst h
 subst e
 exact ⟨dv,df,h1,h2,h3,h4⟩
theorem zero_mul {d v r:SpanD} (hd:InP 0 d) (hv:WdS v) (h:mulB d v=(r,0)):InP 0 r:=by
 obtain ⟨_,hc,_⟩:=mul_ok h
 obtain ⟨r',h1,h2⟩:=mul_iso hd (inS.refl hc hv.2.2) h
 have hz:mulB (ptS 0) v=fitB 0 0:=by
  unfold mulB
  rw [show (chkB (ptS 0) && chkB v)=true by rw [hc];rfl,if_pos rfl]
  show fitB (dn32 (min4 (0 * v.lo) (0 * v.hi) (0 * v.lo) (0 * v.hi))) (up32 (max4 (0 * v.lo) (0 * v.hi) (0 * v.lo) (0 * v.hi)))=_
  rw [Int.zero_mul,Int.zero_mul];rfl
 rw [hz] at h1
 obtain ⟨e,_,_⟩:=fit_ok h1
 subst e;exact h2
def InB (x y z:Int) (b:BoxD):Prop:=InP x b.x∧InP y b.y∧InP z b.z
theorem reached_holds {x m:SixD} {d:SpanD} {v f:BoxD} {px py pz vx vy vz:Int} (hp:InB px py pz x.p) (hv:InB vx vy vz x.v) (hd:InP 0 d) (wv:WdB v) (wf:WdB f) (h:reachedM x d v f 0=(m,0)):InB px py pz m.p∧InB vx vy vz m.v:=by
 obtain ⟨dv,df,h1,h2,h3,h4⟩:=reached_ok h
 obtain ⟨a1,a2,a3⟩:=each_ok h1
 obtain ⟨b1,b2,b3⟩:=each_ok h2
 obtain ⟨c1,c2,c3⟩:=each_ok h3
 obtain ⟨d1,d2,d3⟩:=each_ok h4
 have k:∀ {x:Int} {a q r:SpanD},InP x a→InP 0 q→addB a q=(r,0)→InP x r:=fun h1 h2 h3=>by
  have:=add_pt h1 h2 h3;rwa [Int.add_zero] at this
 exact ⟨⟨k hp.1 (zero_mul hd wv.1 a1) b1,k hp.2.1 (zero_mul hd wv.2.1 a2) b2,k hp.2.2 (zero_mul hd wv.2.2 a3) b3⟩,⟨k hv.1 (zero_mul hd wf.1 c1) d1,k hv.2.1 (zero_mul hd wf.2.1 c2) d2,k hv.2.2 (zero_mul hd wf.2.2 c3) d3⟩⟩
theorem tube_holds {pull:BoxD} (wp:WdB pull) {x:SixD} {d m:SpanD} {px py pz vx vy vz:Int} (hp:InB px py pz x.p) (hv:InB vx vy vz x.v) (hd:InP 0 d):∀ (n:Nat) (b:SixD) (e:Int) (mo:SixD),WdX b→(tubeK (fun _ _ e=>(pull,e)) x d m n b e).1=(mo,true)→(tubeK (fun _ _ e=>(pull,e)) x d m n b e).2=0→InB px py pz mo.p∧InB vx vy vz mo.v
 | 0,b,e,mo,_,h,_=>by
  have:(b,false)=(mo,true):=h
  exact absurd (congrArg Prod.snd this) (by simp)
 | n+1,b,e,mo,wb,h,h0=>by
  simp only [tubeK] at h h0
  split at h
  ·exact absurd (congrArg Prod.snd h) (by simp)
  ·rename_i he
   rw [if_neg he] at h0
   have he0:(reachedM x d b.v pull e).2=0:=Classical.not_not.1 he
   split at h
   ·have e0:e=0:=by
     rcases Classical.em (e=0) with q | q
     ·exact q
     ·have:=reached_sticky x d b.v pull e q
      rw [this] at he0;exact he0
    subst e0
    have hm:(reachedM x d b.v pull 0).1=mo:=congrArg Prod.fst h
    exact reached_holds hp hv hd wb.2 wp (Prod.ext hm he0)
   ·rename_i hn
    rw [if_neg hn] at h0
    exact tube_holds wp hp hv hd n _ _ mo (wd_widened wb _ _) h h0
theorem next_law {long half p v f p2 v2:SpanD} {L H P V G LV HG LG:Int} (hL:InP L long) (hH:InP H half) (hp:InP P p) (hv:InP V v) (hf:InP G f) (e1:L * V=LV * 4294967296) (e2:H * G=HG * 4294967296) (e3:L * G=LG * 4294967296)
  (h:nextM long half p v f 0=((p2,v2),0)):InP (P+LV+HG) p2∧InP (V+LG) v2:=by
 unfold nextM mulM addM at h
 have st:=fun f a b=>doM_sticky f a b
 obtain ⟨a1,h1,h⟩:=bnd_ok (fun _=>(st _ _ _).bnd fun _=>(st _ _ _).bnd fun _=>(st _ _ _).bnd fun _=>(st _ _ _).bnd fun _=>(st _ _ _).bnd fun _=>Sticky.ret _) h
 obtain ⟨a2,h2,h⟩:=bnd_ok (fun _=>(st _ _ _).bnd fun _=>(st _ _ _).bnd fun _=>(st _ _ _).bnd fun _=>(st _ _ _).bnd fun _=>Sticky.ret _) h
 obtain ⟨a3,h3,h⟩:=bnd_ok (fun _=>(st _ _ _).bnd fun _=>(st _ _ _).bnd fun _=>(st _ _ _).bnd fun _=>Sticky.ret _) h
 obtain ⟨q2,h4,h⟩:=bnd_ok (fun _=>(st _ _ _).bnd fun _=>(st _ _ _).bnd fun _=>Sticky.ret _) h
 obtain ⟨b1,h5,h⟩:=bnd_ok (fun _=>(st _ _ _).bnd fun _=>Sticky.ret _) h
 obtain ⟨w2,h6,h⟩:=bnd_ok (fun _=>Sticky.ret _) h
 have e:(q2,w2)=(p2,v2):=congrArg Prod.fst h
 cases e
 exact ⟨add_pt (add_pt hp (mul_pt hL hv e1 (doM_ok h1)) (doM_ok h2)) (mul_pt hH hf e2 (doM_ok h3)) (doM_ok h4),add_pt hv (mul_pt hL hf e3 (doM_ok h5)) (doM_ok h6)⟩
theorem next_sticky (a b c d e:SpanD):Sticky (nextM a b c d e) :=
 (doM_sticky _ _ _).bnd fun _=>(doM_sticky _ _ _).bnd fun _=>(doM_sticky _ _ _).bnd fun _=>(doM_sticky _ _ _).bnd fun _=>(doM_sticky _ _ _).bnd fun _=>(doM_sticky _ _ _).bnd fun _=>Sticky.ret _
theorem in_self {n:Int} (h:-9223372036854775807≤n∧n≤9223372036854775807):InP n (ptS n):=inS.refl (chk_iff.2 ⟨h.1,h.1,Int.le_refl _⟩) h.2
theorem tail_law {a:ArcD} {s:StateD} {f P2 V2:BoxD} {m2:SpanD} {h st px py pz vx vy vz k:Int} (hh:h=st * 4294967296) (h1:0<st) (h8:st≤8) (hp:InB (px * 4294967296) (py * 4294967296) (pz * 4294967296) s.p) (hv:InB (vx * 4294967296) (vy * 4294967296) (vz * 4294967296) s.v) (hf:InB 0 0 (-(2 * k) * 4294967296) f)
  (ht:tailM a s h f 0=((P2,V2,m2),0)):InB ((px+vx * st) * 4294967296) ((py+vy * st) * 4294967296) ((pz+vz * st - k * (st * st)) * 4294967296) P2∧InB (vx * 4294967296) (vy * 4294967296) ((vz - 2 * k * st) * 4294967296) V2:=by
 unfold tailM mulM divM subM at ht
 have sd:=fun f a b=>doM_sticky f a b
 obtain ⟨ll,a1,ht⟩:=bnd_ok (fun _=>(sd _ _ _).bnd fun _=>(next_sticky _ _ _ _ _).bnd fun _=>(next_sticky _ _ _ _ _).bnd fun _=>(next_sticky _ _ _ _ _).bnd fun _=>(sd _ _ _).bnd fun _=>(sd _ _ _).bnd fun _=>Sticky.ret _) ht
 obtain ⟨half,a2,ht⟩:=bnd_ok (fun _=>(next_sticky _ _ _ _ _).bnd fun _=>(next_sticky _ _ _ _ _).bnd fun _=>(next_sticky _ _ _ _ _).bnd fun _=>(sd _ _ _).bnd fun _=>(sd _ _ _).bnd fun _=>Sticky.ret _) ht
 obtain ⟨⟨x1,x2⟩,a3,ht⟩:=bnd_ok (fun _=>(next_sticky _ _ _ _ _).bnd fun _=>(next_sticky _ _ _ _ _).bnd fun _=>(sd _ _ _).bnd fun _=>(sd _ _ _).bnd fun _=>Sticky.ret _) ht
 obtain ⟨⟨y1,y2⟩,a4,ht⟩:=bnd_ok (fun _=>(next_sticky _ _ _ _ _).bnd fun _=>(sd _ _ _).bnd fun _=>(sd _ _ _).bnd fun _=>Sticky.ret _) ht
 obtain ⟨⟨z1,z2⟩,a5,ht⟩:=bnd_ok (fun _=>(sd _ _ _).bnd fun _=>(sd _ _ _).bnd fun _=>Sticky.ret _) ht
 obtain ⟨fl,a6,ht⟩:=bnd_ok (fun _=>(sd _ _ _).bnd fun _=>Sticky.ret _) ht
 obtain ⟨m,a7,ht⟩:=bnd_ok (fun _=>Sticky.ret _) ht
 have e:((⟨x1,y1,z1⟩:BoxD),(⟨x2,y2,z2⟩:BoxD),m)=(P2,V2,m2):=congrArg Prod.fst ht
 cases e
 have hL:InP h (ptS h):=in_self (by omega)
 have hll:InP (st * st * 4294967296) ll:=mul_pt hL hL (by rw [hh];grind) (doM_ok a1)
 have hw:InP (2 * 4294967296) (wholeS 2):=in_self (by omega)
 have hha:InP (st * st * 2147483648) half:=div_pt hll hw (by omega) (by grind) (doM_ok a2)
 subst hh
 obtain ⟨p1,q1⟩:=next_law hL hha hp.1 hv.1 hf.1 (LV:=vx * st * 4294967296) (HG:=0) (LG:=0) (by grind) (by omega) (by omega) a3
 obtain ⟨p2,q2⟩:=next_law hL hha hp.2.1 hv.2.1 hf.2.1 (LV:=vy * st * 4294967296) (HG:=0) (LG:=0) (by grind) (by omega) (by omega) a4
 obtain ⟨p3,q3⟩:=next_law hL hha hp.2.2 hv.2.2 hf.2.2 (LV:=vz * st * 4294967296) (HG:=-(k * (st * st)) * 4294967296) (LG:=-(2 * k * st) * 4294967296) (by grind) (by grind) (by grind) a5
 have c:∀ {x y:Int} {a:SpanD},InP x a→x=y→InP y a:=fun h e=>e ▸ h
 exact ⟨⟨c p1 (by grind),c p2 (by grind),c p3 (by grind)⟩,⟨c q1 (by grind),c q2 (by grind),c q3 (by grind)⟩⟩
/-- A state, a tube hold a fall of single numbers. -/
def Holds (p v:BoxD) (px py pz vx vy vz:Int):Prop:=InB (px * 4294967296) (py * 4294967296) (pz * 4294967296) p∧InB (vx * 4294967296) (vy * 4294967296) (vz * 4294967296) v
theorem step_law {pull:BoxD} (wp:WdB pull) {a:ArcD} {s s2:StateD} {tb:TubeD} {h st px py pz vx vy vz k:Int} (ws:I64W s) (hh:h=st * 4294967296) (h1:0<st) (h8:st≤8) (hs:Holds s.p s.v px py pz vx vy vz) (hf:InB 0 0 (-(2 * k) * 4294967296) pull)
  (ht:stepF (fun _ _ e=>(pull,e)) a s h=((s2,tb),0)):Holds s2.p s2.v (px+vx * st) (py+vy * st) (pz+vz * st - k * (st * st)) vx vy (vz - 2 * k * st)∧Holds tb.p tb.v px py pz vx vy vz:=by
 unfold stepF stepT at ht
 dsimp only at ht
 generalize (massM a s h 0).1.2=ms at ht
 generalize (massM a s h 0).1.1=en at ht
 generalize (massM a s h 0).2=em at ht
 split at ht
 ·rename_i hc
  rw [Bool.and_eq_true,decide_eq_true_eq] at hc
  split at ht
  ·rename_i h0
   have hfst:=congrArg Prod.fst ht
   have hs2:=(congrArg Prod.fst hfst).symm
   have htb:=(congrArg Prod.snd hfst).symm
   dsimp only at hs2 htb
   subst hs2 htb
   have hd:InP 0 (dS h):=⟨rfl,by show min h 0≤0;omega,by show 0≤max h 0;omega,by show max h 0≤_;omega⟩
   have key:=tube_holds wp hs.1 hs.2 hd 8 ⟨s.p,s.v⟩ em (tubeK (fun _ _ e=>(pull,e)) ⟨s.p,s.v⟩ (dS h) ms 8 ⟨s.p,s.v⟩ em).1.1 ⟨ws.2.1,ws.2.2.1⟩ (Prod.ext rfl hc.1) hc.2
   exact ⟨tail_law (a:=a) hh h1 h8 hs.1 hs.2 hf (Prod.ext rfl h0),key⟩
  ·rename_i h0
   exact absurd (congrArg Prod.snd ht) h0
 ·rename_i hc
  have h2:=congrArg Prod.snd ht
  dsimp only at h2
  split at h2
  ·exact absurd h2 (by decide)
  ·rename_i h3;exact absurd h2 h3

def aboutS (n off:Int):SpanD:=⟨n * 4294967296 - off,n * 4294967296+off⟩
def pullB (g off:Int):BoxD:=⟨zeroS,zeroS,aboutS (-g) off⟩
theorem about_in {n off:Int} (hn:-1000000≤n∧n≤1000000) (ho:0≤off∧off≤65535):InP (n * 4294967296) (aboutS n off) :=
 ⟨chk_iff.2 ⟨by show -9223372036854775807≤n * 4294967296;omega,by show -9223372036854775807≤n * 4294967296;omega,Int.le_refl _⟩,by show n * 4294967296 - off≤n * 4294967296;omega,by show n * 4294967296≤n * 4294967296+off;omega,by show n * 4294967296+off≤_;omega⟩
theorem about_wd {n off:Int} (hn:-1000000≤n∧n≤1000000) (ho:0≤off∧off≤65535):WdS (aboutS n off):=by
 unfold WdS aboutS;dsimp only;omega
theorem zero_in:InP 0 zeroS:=⟨rfl,Int.le_refl _,Int.le_refl _,by decide⟩
theorem wd_tailM (a:ArcD) (s:StateD) (h:Int) (f:BoxD) (e:Int):WdB (tailM a s h f e).1.1∧WdB (tailM a s h f e).1.2.1∧WdS (tailM a s h f e).1.2.2 :=
 ⟨⟨wd_addM _ _ _,wd_addM _ _ _,wd_addM _ _ _⟩,⟨wd_addM _ _ _,wd_addM _ _ _,wd_addM _ _ _⟩,wd_subM _ _ _⟩
theorem wd_stepF {F:SixD→SpanD→CM BoxD} (a:ArcD) (s:StateD) (h:Int):I64W (stepF F a s h).1.1:=by
 have hen:WdS (massM a s h 0).1.1:=wd_addM _ _ _
 unfold stepF stepT
 generalize (massM a s h 0).1.2=ms
 generalize (massM a s h 0).2=em
 generalize (massM a s h 0).1.1=en at hen
 have hno:I64W noSt:=⟨by unfold I64 noSt;decide,⟨wd_zero,wd_zero,wd_zero⟩,⟨wd_zero,wd_zero,wd_zero⟩,wd_zero⟩
 split
 ·split
  ·exact ⟨hen.1,(wd_tailM a s h _ _).1,(wd_tailM a s h _ _).2.1,(wd_tailM a s h _ _).2.2⟩
  ·exact hno
 ·exact hno
theorem run_holds {pull:BoxD} (wp:WdB pull) {a:ArcD} {s0:StateD} {st px py pz vx vy vz k:Int} (ws:I64W s0) (hw:∀ s,I64W s→I64W (stepF (fun _ _ e=>(pull,e)) a s a.step).1.1) (hst:a.step=st * 4294967296) (h1:0<st) (h8:st≤8)
  (hs:Holds s0.p s0.v px py pz vx vy vz) (hf:InB 0 0 (-(2 * k) * 4294967296) pull):∀ m:Nat,(runK (fun s=>stepF (fun _ _ e=>(pull,e)) a s a.step) s0 m).2=0 →
   Holds (runK (fun s=>stepF (fun _ _ e=>(pull,e)) a s a.step) s0 m).1.1.p (runK (fun s=>stepF (fun _ _ e=>(pull,e)) a s a.step) s0 m).1.1.v (px+vx * (m * st)) (py+vy * (m * st)) (pz+vz * (m * st) - k * ((m * st) * (m * st))) vx vy (vz - 2 * k * (m * st)) ∧
   ∀ i:Nat,i<m→∃ tb,(runK (fun s=>stepF (fun _ _ e=>(pull,e)) a s a.step) s0 m).1.2[i]?=some tb∧Holds tb.p tb.v (px+vx * (i * st)) (py+vy * (i * st)) (pz+vz * (i * st) - k * ((i * st) * (i * st))) vx vy (vz - 2 * k * (i * st))
 | 0,_=>by
  refine ⟨?_,fun i hi=>absurd hi (by omega)⟩
  have e:((0:Nat):Int) * st=0:=by omega
  rw [e]
  show Holds s0.p s0.v _ _ _ _ _ _
  simpa using hs
 | m+1,h=>by
  rw [runK] at h ⊢
  by_cases e1:(runK (fun s=>stepF (fun _ _ e=>(pull,e)) a s a.step) s0 m).2=0
  ·rw [if_pos e1] at h ⊢
   obtain ⟨i1,i2⟩:=run_holds wp ws hw hst h1 h8 hs hf m e1
   have wd:=runK_wd ws hw m e1
   have hl:=runK_len (fun s=>stepF (fun _ _ e=>(pull,e)) a s a.step) s0 m e1
   generalize runK (fun s=>stepF (fun _ _ e=>(pull,e)) a s a.step) s0 m=R at h i1 i2 wd hl ⊢
   by_cases e2:(stepF (fun _ _ e=>(pull,e)) a R.1.1 a.step).2=0
   ·rw [if_pos e2]
    dsimp only
    obtain ⟨j1,j2⟩:=step_law wp wd hst h1 h8 i1 hf (s2:=(stepF (fun _ _ e=>(pull,e)) a R.1.1 a.step).1.1) (tb:=(stepF (fun _ _ e=>(pull,e)) a R.1.1 a.step).1.2) (Prod.ext rfl e2)
    refine ⟨?_,fun i hi=>?_⟩
    ·have c:∀ {p v:BoxD} {a1 a2 a3 a4 a5 a6 b1 b2 b3 b6:Int},Holds p v a1 a2 a3 a4 a5 a6→a1=b1→a2=b2→a3=b3→a6=b6→Holds p v b1 b2 b3 a4 a5 b6:=fun h e1 e2 e3 e4=>by subst e1 e2 e3 e4;exact h
     refine c j1 ?_ ?_ ?_ ?_ <;> (rw [Int.natCast_add];grind)
    ·rcases Nat.lt_or_ge i m with hlt | hge
     ·rw [List.getElem?_append_left (by omega)]
      exact i2 i hlt
     ·obtain rfl:i=m:=by omega
      rw [List.getElem?_append_right (by omega),hl,Nat.sub_self]
      exact ⟨_,rfl,j2⟩
   ·rw [if_neg e2] at h;exact absurd h e2
  ·rw [if_neg e1] at h;exact absurd h e1
/-- What is seen of a fall in a tube. -/
def fallOf (tb:TubeD) (g off:Int):FallD:=⟨tb.p.x,tb.p.y,⟨max 0 tb.p.z.lo,max 0 tb.p.z.hi⟩,tb.v.x,tb.v.y,tb.v.z,aboutS g off,zeroS,zeroS⟩
theorem clip_in {x:Int} {a:SpanD} (h:InP x a) (h0:0≤x):InP x ⟨max 0 a.lo,max 0 a.hi⟩:=by
 obtain ⟨h1,h2,h3,h4⟩:=h
 have q2:a.lo≤x:=h2
 have q3:x≤a.hi:=h3
 exact ⟨h1,by show max 0 a.lo≤x;omega,by show x≤max 0 a.hi;omega,by show max 0 a.hi≤_;omega⟩
theorem impact_law {tb:TubeD} {px py pz vx vy vz k off T t:Int} {r:RectD} (hk:1≤k∧k≤8) (ho:0≤off∧off≤65535) (hT:0≤T) (hTt:T<t) (hz:1≤k * (t * t) - vz * t) (hpz:pz=k * (t * t) - vz * t)
  (hh:Holds tb.p tb.v (px+vx * T) (py+vy * T) (pz+vz * T - k * (T * T)) vx vy (vz - 2 * k * T)) (hi:impactI (fallOf tb (2 * k) off)=(r,0)) :
  r.a.x≤1000 * (px+vx * t)∧1000 * (px+vx * t)≤r.b.x∧r.a.y≤1000 * (py+vy * t)∧1000 * (py+vy * t)≤r.b.y:=by
 unfold impactI at hi
 split at hi
 ·split at hi
  ·rename_i h1;exact absurd (congrArg Prod.snd hi) h1
  ·rename_i h1
   have h1:(runI opsI (fallS (fallOf tb (2 * k) off))).2=0:=Classical.not_not.1 h1
   split at hi
   ·rename_i h2
    have hr:=(congrArg Prod.fst hi).symm
    dsimp only at hr
    have hkv:1≤k * t - vz:=by
     have e:k * (t * t) - vz * t=t * (k * t - vz):=by grind
     rw [e] at hz
     rcases Int.lt_or_le (k * t - vz) 1 with h | h
     ·have:=Int.mul_nonpos_of_nonneg_of_nonpos (a:=t) (b:=k * t - vz) (by omega) (by omega)
      omega
     ·exact h
    have hkT:0≤k * T:=Int.mul_nonneg (by omega) hT
    have hkt:0≤k * t:=Int.mul_nonneg (by omega) (by omega)
    have hz0:0≤pz+vz * T - k * (T * T):=by
     have e:pz+vz * T - k * (T * T)=(t - T) * (k * t+k * T - vz):=by rw [hpz];grind
     rw [e]
     exact Int.mul_nonneg (by omega) (by omega)
    have hq:(vz - 2 * k * T) * (vz - 2 * k * T)+2 * (2 * k) * (pz+vz * T - k * (T * T))=(2 * k * (t - T) - (vz - 2 * k * T)) * (2 * k * (t - T) - (vz - 2 * k * T)):=by rw [hpz];grind
    have hq2:2 * k * (t - T) - (vz - 2 * k * T)=2 * (k * t) - vz:=by grind
    have hl:=run_law (s:=fallS (fallOf tb (2 * k) off)) (S:=(runI opsI (fallS (fallOf tb (2 * k) off))).1) (g:=2 * k) (t:=t - T) (by omega) (by omega) hq (by rw [hq2];omega) hz0
     hh.1.1 hh.1.2.1 (clip_in hh.1.2.2 (by omega)) hh.2.1 hh.2.2.1 hh.2.2.2 (about_in (by omega) ho) zero_in zero_in (Prod.ext rfl h1)
    have ex:(px+vx * T) * 4294967296+vx * (t - T) * 4294967296+0=(px+vx * t) * 4294967296:=by grind
    have ey:(py+vy * T) * 4294967296+vy * (t - T) * 4294967296+0=(py+vy * t) * 4294967296:=by grind
    rw [ex,ey] at hl
    have:=out_law hl.1 hl.2 h2
    rw [hr];exact this
   ·exact absurd (congrArg Prod.snd hi) (by show ¬ (4:Int)=0;decide)
 ·exact absurd (congrArg Prod.snd hi) (by show ¬ (2:Int)=0;decide)
end Go.Proofs.YtmkoegljnebdiaaGreat
namespace Go.Proofs.YtmkoegljnebdiaaGreat
open Go.RowKit
set_option maxRecDepth 100000
set_option maxHeartbeats 16000000

theorem wd_tubeF {F:SixD→SpanD→CM BoxD} (a:ArcD) {s:StateD} (ws:I64W s) (h:Int):WdB (stepF F a s h).1.2.p∧WdB (stepF F a s h).1.2.v:=by
 unfold stepF stepT
 generalize (massM a s h 0).1.2=ms
 generalize (massM a s h 0).2=em
 generalize (massM a s h 0).1.1=en
 have hno:WdB noTb.p∧WdB noTb.v:=⟨⟨wd_zero,wd_zero,wd_zero⟩,⟨wd_zero,wd_zero,wd_zero⟩⟩
 have hx:WdX (⟨s.p,s.v⟩:SixD):=⟨ws.2.1,ws.2.2.1⟩
 split
 ·split
  ·exact wd_tubeK 8 ⟨s.p,s.v⟩ em hx
  ·exact hno
 ·exact hno
theorem run_tubes {G:StateD→(StateD × TubeD) × Int} {s0:StateD} (ws:I64W s0) (hw:∀ s,I64W s→I64W (G s).1.1) (ht:∀ s,I64W s→WdB (G s).1.2.p∧WdB (G s).1.2.v):∀ m,(runK G s0 m).2=0→∀ tb ∈ (runK G s0 m).1.2,WdB tb.p∧WdB tb.v
 | 0,_,tb,h=>by cases h
 | m+1,h,tb,hm=>by
  rw [runK] at h hm
  by_cases e1:(runK G s0 m).2=0
  ·rw [if_pos e1] at h hm
   have ih:=run_tubes ws hw ht m e1
   have wd:=runK_wd ws hw m e1
   by_cases e2:(G (runK G s0 m).1.1).2=0
   ·rw [if_pos e2] at hm
    rcases List.mem_append.1 hm with hm | hm
    ·exact ih tb hm
    ·rw [List.mem_singleton] at hm
     subst hm;exact ht _ wd
   ·rw [if_neg e2] at h;exact absurd h e2
  ·rw [if_neg e1] at h;exact absurd h e1
/-- The shot's planet, arc, first state. -/
def shotP (g off:Int):PlanetD:=⟨zeroS,zeroS,zeroS,zeroS,pullB g off⟩
def shotA (T st:Int):ArcD:=⟨T * 4294967296,st * 4294967296,zeroS,zeroS,⟨zeroS,zeroS,zeroS⟩,[],zeroS⟩
def shotS (px py pz va vb vc off:Int):StateD:=⟨0,⟨aboutS px off,aboutS py off,aboutS pz off⟩,⟨aboutS va off,aboutS vb off,aboutS vc off⟩,⟨4294967296,4294967296⟩⟩
def shotG (T st g off:Int):StateD→(StateD × TubeD) × Int:=fun s=>stepF (fun _ _ e=>(pullB g off,e)) (shotA T st) s (shotA T st).step
theorem lands_fly {N:Nat} {st k off px py pz va vb vc:Int} (h1:1≤st∧st≤8) (hk:1≤k∧k≤8) (ho:0≤off∧off≤65535) (hx:-1000000≤px∧px≤1000000) (hy:-1000000≤py∧py≤1000000) (hz:-1000000≤pz∧pz≤1000000) (ha:-1000≤va∧va≤1000) (hb:-1000≤vb∧vb≤1000) (hc:-1000≤vc∧vc≤1000)
  {T:Int} (hT:(N:Int) * st=T) (hH:k * (T * T) - vc * T=pz) (hp:1≤pz) {l:List TubeD} (h:flyF (shotP (2 * k) off) (shotA T st) (shotS px py pz va vb vc off) N (shotG T st (2 * k) off)=(l,0)) :
  l.length=N∧∀ (i:Nat) (tb:TubeD),l[i]?=some tb→(WdB tb.p∧WdB tb.v)∧∀ r,impactI (fallOf tb (2 * k) off)=(r,0)→r.a.x≤1000 * (px+va * T)∧1000 * (px+va * T)≤r.b.x∧r.a.y≤1000 * (py+vb * T)∧1000 * (py+vb * T)≤r.b.y:=by
 have wS:∀ {n:Int},-1000000≤n∧n≤1000000→WdS (aboutS n off):=fun h=>about_wd h ho
 have wp:WdB (pullB (2 * k) off):=⟨wd_zero,wd_zero,wS (by omega)⟩
 have ws:I64W (shotS px py pz va vb vc off):=⟨by show I64 0;unfold I64;decide,⟨wS hx,wS hy,wS hz⟩,⟨wS (by omega),wS (by omega),wS (by omega)⟩,by show WdS ⟨4294967296,4294967296⟩;unfold WdS;decide⟩
 have hw:∀ s,I64W s→I64W (shotG T st (2 * k) off s).1.1:=fun s _=>wd_stepF _ s _
 have hs:Holds (shotS px py pz va vb vc off).p (shotS px py pz va vb vc off).v px py pz va vb vc:=⟨⟨about_in hx ho,about_in hy ho,about_in hz ho⟩,⟨about_in (by omega) ho,about_in (by omega) ho,about_in (by omega) ho⟩⟩
 have hf:InB 0 0 (-(2 * k) * 4294967296) (pullB (2 * k) off):=⟨zero_in,zero_in,about_in (by omega) ho⟩
 unfold flyF at h
 split at h
 ·rename_i q;exact absurd (congrArg Prod.snd h) q
 ·split at h
  ·rename_i q;exact absurd (congrArg Prod.snd h) q
  ·rename_i q
   have q:(runK (shotG T st (2 * k) off) (shotS px py pz va vb vc off) N).2=0:=Classical.not_not.1 q
   split at h
   ·rename_i q2;exact absurd (congrArg Prod.snd h) q2
   ·split at h
    ·exact absurd (congrArg Prod.snd h) (by show ¬ (4:Int)=0;decide)
    ·have hl:=(congrArg Prod.fst h).symm
     dsimp only at hl
     subst hl
     have hlen:=runK_len (shotG T st (2 * k) off) (shotS px py pz va vb vc off) N q
     refine ⟨hlen,fun i tb hi=>⟨run_tubes ws hw (fun s hs=>wd_tubeF _ hs _) N q tb (List.mem_of_getElem? hi),fun r hr=>?_⟩⟩
     have hiN:i<N:=by have:=(List.getElem?_eq_some_iff.1 hi).1;omega
     obtain ⟨_,h2⟩:=run_holds wp ws hw (a:=shotA T st) (st:=st) rfl (by omega) (by omega) hs hf N q
     obtain ⟨tb',e1,e2⟩:=h2 i hiN
     have e1':(runK (shotG T st (2 * k) off) (shotS px py pz va vb vc off) N).1.2[i]?=some tb':=e1
     rw [hi] at e1'
     obtain rfl:=Option.some.inj e1'
     have hlt:(i:Int) * st<T:=by rw [← hT];exact Int.mul_lt_mul_of_pos_right (by omega) (by omega)
     exact impact_law hk ho (Int.mul_nonneg (by omega) (by omega)) hlt (by omega) hH.symm e2 hr
theorem tube_seg {u:Value} {cur:Array Value} {l:List TubeD} (h:LstAt 16 u cur l.length (tbsC l)) {i:Nat} {tb:TubeD} (hi:l[i]?=some tb) (hu:u ≠ .slice none 0 0):(cur.toList.drop (i * 16)).take 16=(tbA tb).toList:=by
 have hil:=(List.getElem?_eq_some_iff.1 hi).1
 rcases h.2 with ⟨e,_⟩ | ⟨g,cap,_,_,_,_,ht⟩
 ·exact absurd e hu
 ·have key:∀ (l:List TubeD) (i:Nat),l[i]?=some tb→((tbsC l).drop (i * 16)).take 16=(tbA tb).toList:=by
   intro l
   induction l with
   | nil=>intro i h;simp at h
   | cons t l ih =>
    intro i h
    have hs:(tbA t).toList.length=16:=by simp [tbA,tubeV,Value.cells]
    have hc:tbsC (t :: l)=(tbA t).toList ++ tbsC l:=by unfold tbsC;simp
    rw [hc]
    cases i with
    | zero =>
     simp at h
     subst h
     rw [Nat.zero_mul,List.drop_zero,List.take_left' hs]
    | succ i =>
     rw [show (i+1) * 16=(tbA t).toList.length+i * 16 by omega,List.drop_length_add_append]
     exact ih i (by simpa using h)
  have h2:=key l i hi
  rw [← ht] at h2
  rw [List.drop_take,List.take_take,show min 16 (l.length * 16 - i * 16)=16 by omega] at h2
  exact h2
theorem eq56 (a b:Int) (w:World):(Op.equalIn 9999 56 (.agg #[.int .i64 a,.int .i64 b]) (.agg #[.int .i64 a,.int .i64 b])).run Tryz.prog w=.ok true w:=by
 rw [run_equalIn_struct w 9998 _ _ _ (by kernel_rfl) (by kernel_rfl)]
 go_simp
theorem neq_rect (a b c d:Int) (w:World):(binOp .neq 62 (.agg #[.int .i64 a,.int .i64 b,.int .i64 c,.int .i64 d]) (.agg #[.int .i64 a,.int .i64 b,.int .i64 c,.int .i64 d])).run Tryz.prog w=.ok (.bool false) w:=by
 rw [run_neq_struct,run_equalIn_struct w 9999 _ _ _ (by kernel_rfl) (by kernel_rfl)]
 have h1:=eq56 a b w
 have h2:=eq56 c d w
 go_simp
theorem bdm {x y:Int} (A B:Nat) (hx:-(A:Int)≤x∧x≤A) (hy:-(B:Int)≤y∧y≤B):-((A * B:Nat):Int)≤x * y∧x * y≤((A * B:Nat):Int):=by
 have h:=Nat.mul_le_mul (show x.natAbs≤A by omega) (show y.natAbs≤B by omega)
 rw [← Int.natAbs_mul] at h
 omega

def pullF (b:BoxD):SixD→SpanD→CM BoxD:=fun _ _ e=>(b,e)
theorem step62_any (p:PlanetD) (a:ArcD) (s:StateD) (h:Int) (hmu:p.mu=zeroS) (hsp:p.spin=zeroS) (hth:a.thrust=zeroS) (hfl:a.flow=zeroS) (hs:I64W s) (wp:WdB p.pull) (hh:I64 h) (w:World) :
  Calls Tryz.prog 62 #[modelV p a none 0 0,stateV s,.int .i64 h] w fun v w'=>v=.returned (.tuple #[stateV (stepF (pullF p.pull) a s h).1.1,tubeV (stepF (pullF p.pull) a s h).1.2,.int .i64 (stepF (pullF p.pull) a s h).2])∧Below w.heap.size w w' :=
 step_any (pullF p.pull) p a none 0 0 s h hs (by rw [hfl];exact wd_zero) hh w (fun cb e x m w' _ _ _ _ hk=>force0_any p a none 0 hmu hsp hth cb e x m w' hk) (fun _ _ _=>wp) (fun _ _ _ _=>rfl)
theorem step21_any (p:PlanetD) (a:ArcD) (s:StateD) (h:Int) (hmu:p.mu=zeroS) (hsp:p.spin=zeroS) (hth:a.thrust=zeroS) (hfl:a.flow=zeroS) (hs:I64W s) (wp:WdB p.pull) (hh:I64 h) (hd:WdB a.dir)
  (hp:planetB p=true) (ha:arcB a=true) (hsb:stateB s=true) (hn:numB h=true) (h0:h ≠ 0) (w:World) :
  Calls Tryz.prog 21 #[planetV p,arcV a none 0 0,stateV s,.int .i64 h] w fun v w'=>v=.returned (.tuple #[stateV (stepF (pullF p.pull) a s h).1.1,tubeV (stepF (pullF p.pull) a s h).1.2,.int .i64 (stepF (pullF p.pull) a s h).2])∧Below w.heap.size w w':=by
 have HCP:=Lib.hid (fun w=>checkPlanet_any p w)
 have HCA:=Lib.hid (fun w=>checkArc0_any a none 0 hd w)
 have HCS:=Lib.hid (fun w=>checkState_any s w)
 have HV:=Lib.hid (fun w=>fvalid_any h w)
 rw [hp,if_pos rfl] at HCP
 rw [ha,if_pos rfl] at HCA
 rw [hsb,if_pos rfl] at HCS
 rw [hn] at HV
 have HST:=Lib.hid (fun w=>step62_any p a s h hmu hsp hth hfl hs wp hh w)
 obtain ⟨PQ,hPQ⟩:∃ Q:Ending→World→Prop,(fun v w'=>v=.returned (.tuple #[stateV (stepF (pullF p.pull) a s h).1.1,tubeV (stepF (pullF p.pull) a s h).1.2,.int .i64 (stepF (pullF p.pull) a s h).2])∧Below w.heap.size w w')=Q:=⟨_,rfl⟩
 have HFIN:Hid (∀ w' S t e,stepF (pullF p.pull) a s h=((S,t),e)→Fr w [] [] w'→PQ (.returned (.tuple #[stateV S,tubeV t,.int .i64 e])) w'):=Lib.hid fun w' S t e hr hf=>by
  rw [← hPQ,hr];exact ⟨rfl,hf.toBelow⟩
 rw [hPQ]
 obtain ⟨⟨⟨s2,t2⟩,e2⟩,hst⟩:∃ z,stepF (pullF p.pull) a s h=z:=⟨_,rfl⟩
 rw [hst] at HST HFIN
 have h0b:(h == 0)=false:=by simpa using h0
 clear hPQ hst hmu hsp hth hfl hs wp hh hd hp ha hsb hn
 obtain ⟨⟨mul,muh⟩,⟨rl,rh⟩,⟨ol,oh⟩,⟨sl,sh⟩,⟨⟨pxl,pxh⟩,⟨pyl,pyh⟩,⟨pzl,pzh⟩⟩⟩:=p
 obtain ⟨time,step,⟨tl,th⟩,⟨fl,fh⟩,⟨⟨dxl,dxh⟩,⟨dyl,dyh⟩,⟨dzl,dzh⟩⟩,drag,⟨dl,dh⟩⟩:=a
 obtain ⟨ut,⟨⟨upxl,upxh⟩,⟨upyl,upyh⟩,⟨upzl,upzh⟩⟩,⟨⟨uvxl,uvxh⟩,⟨uvyl,uvyh⟩,⟨uvzl,uvzh⟩⟩,⟨uml,umh⟩⟩:=s
 obtain ⟨rt,⟨⟨rpxl,rpxh⟩,⟨rpyl,rpyh⟩,⟨rpzl,rpzh⟩⟩,⟨⟨rvxl,rvxh⟩,⟨rvyl,rvyh⟩,⟨rvzl,rvzh⟩⟩,⟨rml,rmh⟩⟩:=s2
 obtain ⟨yf,yg,⟨⟨ypxl,ypxh⟩,⟨ypyl,ypyh⟩,⟨ypzl,ypzh⟩⟩,⟨⟨yvxl,yvxh⟩,⟨yvyl,yvyh⟩,⟨yvzl,yvzh⟩⟩,⟨yml,ymh⟩⟩:=t2
 unfold planetV at HCP ⊢
 unfold arcV at HCA ⊢
 unfold stateV at HCS ⊢
 unfold modelV stateV tubeV at HST
 unfold stateV tubeV at HFIN
 dsimp only at HCP HCA HCS HST HFIN ⊢
 obtain ⟨qb,hqb⟩:∃ qb,w.heap.size=qb:=⟨_,rfl⟩
 obtain ⟨W0,hW0⟩:∃ W0,((((w.alloc (.cells #[.int .i64 mul,.int .i64 muh,.int .i64 rl,.int .i64 rh,.int .i64 ol,.int .i64 oh,.int .i64 sl,.int .i64 sh,.int .i64 pxl,.int .i64 pxh,.int .i64 pyl,.int .i64 pyh,.int .i64 pzl,.int .i64 pzh] 36)).alloc (.cells #[.int .i64 time,.int .i64 step,.int .i64 tl,.int .i64 th,.int .i64 fl,.int .i64 fh,.int .i64 dxl,.int .i64 dxh,.int .i64 dyl,.int .i64 dyh,.int .i64 dzl,.int .i64 dzh,.slice none 0 0,.int .i64 dl,.int .i64 dh] 46)).alloc (.cells #[.int .i64 ut,.int .i64 upxl,.int .i64 upxh,.int .i64 upyl,.int .i64 upyh,.int .i64 upzl,.int .i64 upzh,.int .i64 uvxl,.int .i64 uvxh,.int .i64 uvyl,.int .i64 uvyh,.int .i64 uvzl,.int .i64 uvzh,.int .i64 uml,.int .i64 umh] 38)).alloc (.cells #[.int .i64 0,.int .i64 0,.int .i64 0,.int .i64 0,.int .i64 0,.int .i64 0,.int .i64 0,.int .i64 0,.int .i64 0,.int .i64 0,.int .i64 0,.int .i64 0,.int .i64 0,.int .i64 0,.int .i64 0] 38)).alloc (.cells #[.int .i64 0,.int .i64 0,.int .i64 0,.int .i64 0,.int .i64 0,.int .i64 0,.int .i64 0,.int .i64 0,.int .i64 0,.int .i64 0,.int .i64 0,.int .i64 0,.int .i64 0,.int .i64 0,.int .i64 0,.int .i64 0] 58)=W0:=⟨_,rfl⟩
 have HF0:Hid (Fr w [] [(qb,36,iC [mul,muh,rl,rh,ol,oh,sl,sh,pxl,pxh,pyl,pyh,pzl,pzh]),(qb+1,46,#[.int .i64 time,.int .i64 step,.int .i64 tl,.int .i64 th,.int .i64 fl,.int .i64 fh,.int .i64 dxl,.int .i64 dxh,.int .i64 dyl,.int .i64 dyh,.int .i64 dzl,.int .i64 dzh,.slice none 0 0,.int .i64 dl,.int .i64 dh]),(qb+1+1,38,iC [ut,upxl,upxh,upyl,upyh,upzl,upzh,uvxl,uvxh,uvyl,uvyh,uvzl,uvzh,uml,umh]),(qb+1+1+1,38,iC [0,0,0,0,0,0,0,0,0,0,0,0,0,0,0]),(qb+1+1+1+1,58,iC [0,0,0,0,0,0,0,0,0,0,0,0,0,0,0,0])] W0):=Lib.hid (by rw [← hW0];exact (((((Fr.start w).alloc (by simp [← hqb]) 36 #[.int .i64 mul,.int .i64 muh,.int .i64 rl,.int .i64 rh,.int .i64 ol,.int .i64 oh,.int .i64 sl,.int .i64 sh,.int .i64 pxl,.int .i64 pxh,.int .i64 pyl,.int .i64 pyh,.int .i64 pzl,.int .i64 pzh]).alloc (by simp [← hqb]) 46 #[.int .i64 time,.int .i64 step,.int .i64 tl,.int .i64 th,.int .i64 fl,.int .i64 fh,.int .i64 dxl,.int .i64 dxh,.int .i64 dyl,.int .i64 dyh,.int .i64 dzl,.int .i64 dzh,.slice none 0 0,.int .i64 dl,.int .i64 dh]).alloc (by simp [← hqb]) 38 #[.int .i64 ut,.int .i64 upxl,.int .i64 upxh,.int .i64 upyl,.int .i64 upyh,.int .i64 upzl,.int .i64 upzh,.int .i64 uvxl,.int .i64 uvxh,.int .i64 uvyl,.int .i64 uvyh,.int .i64 uvzl,.int .i64 uvzh,.int .i64 uml,.int .i64 umh]).alloc (by simp [← hqb]) 38 #[.int .i64 0,.int .i64 0,.int .i64 0,.int .i64 0,.int .i64 0,.int .i64 0,.int .i64 0,.int .i64 0,.int .i64 0,.int .i64 0,.int .i64 0,.int .i64 0,.int .i64 0,.int .i64 0,.int .i64 0]).alloc (by simp [← hqb]) 58 #[.int .i64 0,.int .i64 0,.int .i64 0,.int .i64 0,.int .i64 0,.int .i64 0,.int .i64 0,.int .i64 0,.int .i64 0,.int .i64 0,.int .i64 0,.int .i64 0,.int .i64 0,.int .i64 0,.int .i64 0,.int .i64 0])
 go_enter Tryz.func21,Tryz.ntmps21
 go_upto_region 1 with (fail)
 clear hW0 hqb
 go_wp2_with (refine wpLoadF rfl 36 _ rfl qb 0 rfl _ _ (HF0.out.get 0 rfl) #[.int .i64 mul,.int .i64 muh,.int .i64 rl,.int .i64 rh,.int .i64 ol,.int .i64 oh,.int .i64 sl,.int .i64 sh,.int .i64 pxl,.int .i64 pxh,.int .i64 pyl,.int .i64 pyh,.int .i64 pzl,.int .i64 pzh] rfl _ und_36 rfl info_36 ?_)
 refine (HCP.out _).mono ?_
 rintro e w1 ⟨rfl,hw⟩
 have HF2:=Lib.hid (HF0.out.below hw)
 clear hw
 go_wp2_with (refine wpLoadFG rfl 46 _ rfl (qb+1) 0 rfl _ _ (HF2.out.get 1 rfl) #[.int .i64 time,.int .i64 step,.int .i64 tl,.int .i64 th,.int .i64 fl,.int .i64 fh,.int .i64 dxl,.int .i64 dxh,.int .i64 dyl,.int .i64 dyh,.int .i64 dzl,.int .i64 dzh,.slice none 0 0,.int .i64 dl,.int .i64 dh] rfl _ und_46 rfl info_46 ?_)
 refine (HCA.out _).mono ?_
 rintro e w3 ⟨rfl,hw⟩
 have HF4:=Lib.hid (HF2.out.below hw)
 clear hw
 go_wp2_with (refine wpLoadFG rfl 38 _ rfl (qb+1+1) 0 rfl _ _ (HF4.out.get 2 rfl) #[.int .i64 ut,.int .i64 upxl,.int .i64 upxh,.int .i64 upyl,.int .i64 upyh,.int .i64 upzl,.int .i64 upzh,.int .i64 uvxl,.int .i64 uvxh,.int .i64 uvyl,.int .i64 uvyh,.int .i64 uvzl,.int .i64 uvzh,.int .i64 uml,.int .i64 umh] rfl _ und_38 rfl info_38 ?_)
 refine (HCS.out _).mono ?_
 rintro e w5 ⟨rfl,hw⟩
 have HF6:=Lib.hid (HF4.out.below hw)
 clear hw
 go_wp2_with fail
 refine (HV.out _).mono ?_
 rintro e w7 ⟨rfl,hw⟩
 rw [hw]
 clear hw w7
 go_wp2_with (first
   | (refine wpLoadF rfl 36 _ rfl qb 0 rfl _ _ (HF6.out.get 0 rfl) #[.int .i64 mul,.int .i64 muh,.int .i64 rl,.int .i64 rh,.int .i64 ol,.int .i64 oh,.int .i64 sl,.int .i64 sh,.int .i64 pxl,.int .i64 pxh,.int .i64 pyl,.int .i64 pyh,.int .i64 pzl,.int .i64 pzh] rfl _ und_36 rfl info_36 ?_)
   | (refine wpLoadF rfl 46 _ rfl (qb+1) 0 rfl _ _ (HF6.out.get 1 rfl) #[.int .i64 time,.int .i64 step,.int .i64 tl,.int .i64 th,.int .i64 fl,.int .i64 fh,.int .i64 dxl,.int .i64 dxh,.int .i64 dyl,.int .i64 dyh,.int .i64 dzl,.int .i64 dzh,.slice none 0 0,.int .i64 dl,.int .i64 dh] rfl _ und_46 rfl info_46 ?_)
   | (refine wpLoadF rfl 38 _ rfl (qb+1+1) 0 rfl _ _ (HF6.out.get 2 rfl) #[.int .i64 ut,.int .i64 upxl,.int .i64 upxh,.int .i64 upyl,.int .i64 upyh,.int .i64 upzl,.int .i64 upzh,.int .i64 uvxl,.int .i64 uvxh,.int .i64 uvyl,.int .i64 uvyh,.int .i64 uvzl,.int .i64 uvzh,.int .i64 uml,.int .i64 umh] rfl _ und_38 rfl info_38 ?_))
 refine (HST.out _).mono ?_
 rintro e w8 ⟨rfl,hw⟩
 have HF9:=Lib.hid (HF6.out.below hw)
 clear hw
 go_wp2_with (first
   | (refine wpStoreF rfl rfl 38 _ _ rfl (qb+1+1+1) 0 rfl #[.int .i64 rt,.int .i64 rpxl,.int .i64 rpxh,.int .i64 rpyl,.int .i64 rpyh,.int .i64 rpzl,.int .i64 rpzh,.int .i64 rvxl,.int .i64 rvxh,.int .i64 rvyl,.int .i64 rvyh,.int .i64 rvzl,.int .i64 rvzh,.int .i64 rml,.int .i64 rmh] rfl _ _ (iC [rt,rpxl,rpxh,rpyl,rpyh,rpzl,rpzh,rvxl,rvxh,rvyl,rvyh,rvzl,rvzh,rml,rmh]) (HF9.out.get 3 rfl) rfl (by show 0+15≤15;omega) (one_all rfl) info_38 ?_;intro w10 hk ho;have HF11:=Lib.hid (HF9.out.only 3 rfl ho hk);clear ho hk)
   | (refine wpStoreF rfl rfl 58 _ _ rfl (qb+1+1+1+1) 0 rfl #[.int .i64 yf,.int .i64 yg,.int .i64 ypxl,.int .i64 ypxh,.int .i64 ypyl,.int .i64 ypyh,.int .i64 ypzl,.int .i64 ypzh,.int .i64 yvxl,.int .i64 yvxh,.int .i64 yvyl,.int .i64 yvyh,.int .i64 yvzl,.int .i64 yvzh,.int .i64 yml,.int .i64 ymh] rfl _ _ (iC [yf,yg,ypxl,ypxh,ypyl,ypyh,ypzl,ypzh,yvxl,yvxh,yvyl,yvyh,yvzl,yvzh,yml,ymh]) (HF11.out.get 4 rfl) rfl (by show 0+16≤16;omega) (one_all rfl) info_58 ?_;intro w12 hk ho;have HF13:=Lib.hid (HF11.out.only 4 rfl ho hk);clear ho hk))
 refine bodyPost_ret (results_ccT rfl _ _ (qb+1+1+1) (qb+1+1+1+1) _ _ _ _ _ _ rfl (HF13.out.get 3 rfl) rfl (HF13.out.get 4 rfl) und_38 rfl info_38 und_58 rfl info_58) rfl ?_
 exact HFIN.out _ ⟨rt,⟨⟨rpxl,rpxh⟩,⟨rpyl,rpyh⟩,⟨rpzl,rpzh⟩⟩,⟨⟨rvxl,rvxh⟩,⟨rvyl,rvyh⟩,⟨rvzl,rvzh⟩⟩,⟨rml,rmh⟩⟩ ⟨yf,yg,⟨⟨ypxl,ypxh⟩,⟨ypyl,ypyh⟩,⟨ypzl,ypzh⟩⟩,⟨⟨yvxl,yvxh⟩,⟨yvyl,yvyh⟩,⟨yvzl,yvzh⟩⟩,⟨yml,ymh⟩⟩ e2 rfl HF13.out.drop
def awP1:PlanetD:=⟨zeroS,⟨25769803776,25769803776⟩,zeroS,zeroS,zeroB3⟩
def awB1:BoxD:=⟨⟨12884901888,12884901888⟩,⟨17179869184,17179869184⟩,⟨51539607552,51539607552⟩⟩
def awA2:ArcD:=⟨21474836480,8589934592,zeroS,zeroS,zeroB3,[],zeroS⟩
def awP3:PlanetD:=⟨zeroS,zeroS,zeroS,zeroS,⟨zeroS,zeroS,⟨-33554432,-33554432⟩⟩⟩
def awA3:ArcD:=⟨4294967296,4294967296,zeroS,zeroS,zeroB3,[],zeroS⟩
def awS3:StateD:=⟨0,zeroB3,⟨⟨4294967296,4294967296⟩,zeroS,⟨4294967296,4294967296⟩⟩,⟨4294967296,4294967296⟩⟩
theorem aw_height:heightF awP1 awB1=(⟨30064771072,30064771072⟩,0):=by kernel_rfl
theorem aw_steps:stepsB awA2=(3,0):=by kernel_rfl
theorem aw_step:(stepF (pullF awP3.pull) awA3 awS3 68719476736).2=0∧(stepF (pullF awP3.pull) awA3 awS3 68719476736).1.1.t=68719476736∧(stepF (pullF awP3.pull) awA3 awS3 68719476736).1.1.p.z.lo=64424509440:=⟨by kernel_rfl,by kernel_rfl,by kernel_rfl⟩
theorem wd_b3:WdB zeroB3:=⟨wd_zero,wd_zero,wd_zero⟩
theorem awake_any (w:World):Calls Tryz.prog 5 #[] w fun e w'=>e=.returned (.bool true)∧Below w.heap.size w w':=by
 obtain ⟨PQ,hPQ⟩:∃ Q:Ending→World→Prop,(fun e w'=>e=.returned (.bool true)∧Below w.heap.size w w')=Q:=⟨_,rfl⟩
 have HFIN:Hid (∀ w',Fr w [] [] w'→PQ (.returned (.bool true)) w'):=Lib.hid fun w' h=>by rw [← hPQ];exact ⟨rfl,h.toBelow⟩
 rw [hPQ]
 have wdc:∀ a b:Int,-9223372036854775808≤a∧a≤9223372036854775807→-9223372036854775808≤b∧b≤9223372036854775807→WdS ⟨a,b⟩:=fun a b h k=>⟨h,k⟩
 have H1:=Lib.hid (fun w=>height_any awP1 awB1 (wdc _ _ (by decide) (by decide)) ⟨wdc _ _ (by decide) (by decide),wdc _ _ (by decide) (by decide),wdc _ _ (by decide) (by decide)⟩ w)
 rw [aw_height] at H1
 have H2:=Lib.hid (fun w=>steps0_any awA2 none 0 wd_b3 (by unfold I64;decide) (by unfold I64;decide) w)
 rw [aw_steps] at H2
 have H3:=Lib.hid (fun w=>step21_any awP3 awA3 awS3 68719476736 rfl rfl rfl rfl ⟨by unfold I64;decide,wd_b3,⟨wdc _ _ (by decide) (by decide),wd_zero,wdc _ _ (by decide) (by decide)⟩,wdc _ _ (by decide) (by decide)⟩ ⟨wd_zero,wd_zero,wdc _ _ (by decide) (by decide)⟩ (by unfold I64;decide) wd_b3 (by kernel_rfl) (by kernel_rfl) (by kernel_rfl) (by kernel_rfl) (by decide) w)
 obtain ⟨e1,e2,e3⟩:=aw_step
 obtain ⟨⟨⟨s2,t2⟩,er⟩,hst⟩:∃ z,stepF (pullF awP3.pull) awA3 awS3 68719476736=z:=⟨_,rfl⟩
 rw [hst] at H3 e1 e2 e3
 dsimp only at H3 e1 e2 e3
 subst e1
 obtain ⟨rt,⟨⟨rpxl,rpxh⟩,⟨rpyl,rpyh⟩,⟨rpzl,rpzh⟩⟩,⟨⟨rvxl,rvxh⟩,⟨rvyl,rvyh⟩,⟨rvzl,rvzh⟩⟩,⟨rml,rmh⟩⟩:=s2
 obtain ⟨yf,yg,⟨⟨ypxl,ypxh⟩,⟨ypyl,ypyh⟩,⟨ypzl,ypzh⟩⟩,⟨⟨yvxl,yvxh⟩,⟨yvyl,yvyh⟩,⟨yvzl,yvzh⟩⟩,⟨yml,ymh⟩⟩:=t2
 dsimp only at e2 e3
 subst e2 e3
 unfold planetV boxV spanV at H1
 unfold arcV at H2
 unfold planetV arcV stateV tubeV at H3
 dsimp only at H1 H2 H3
 have heq:∀ w,(binOp .eql 31 (.agg #[.int .i64 30064771072,.int .i64 30064771072]) (.agg #[.int .i64 30064771072,.int .i64 30064771072])).run Tryz.prog w=.ok (.bool true) w:=fun w=>by kernel_rfl
 clear hPQ hst
 have HF0:Hid (Fr w [] [] w):=Lib.hid (Fr.start w)
 go_enter Tryz.func5,Tryz.ntmps5
 go_upto_region 1 with (fail)
 obtain ⟨g1,hg1⟩:∃ g,w.heap.size=g:=⟨_,rfl⟩
 obtain ⟨w1,hw1⟩:∃ u,w.alloc (.cells #[.int .i64 0,.int .i64 0] 31)=u:=⟨_,rfl⟩
 have HF2:=Lib.hid (frE hw1 (HF0.out.alloc hg1.symm 31 #[.int .i64 0,.int .i64 0]))
 go_wp2_with (refine wpStoreF rfl rfl 31 _ _ rfl g1 0 rfl #[.int .i64 4294967296,.int .i64 4294967296] rfl _ _ (iC [4294967296,4294967296]) (HF2.out.get 0 rfl) rfl (by show 0+2≤2;omega) (one_all rfl) info_span ?_;intro w3 hk ho;clear hw1 hg1;have HF4:=Lib.hid (HF2.out.only 0 rfl ho hk);clear ho hk)
 refine (H1.out _).mono ?_
 rintro e w5 ⟨rfl,hw⟩
 have HF6:=Lib.hid (HF4.out.below hw)
 clear hw
 obtain ⟨g7,hg7⟩:∃ g,w5.heap.size=g:=⟨_,rfl⟩
 obtain ⟨w7,hw7⟩:∃ u,w5.alloc (.cells #[.int .i64 0,.int .i64 0] 31)=u:=⟨_,rfl⟩
 have HF8:=Lib.hid (frE hw7 (HF6.out.alloc hg7.symm 31 #[.int .i64 0,.int .i64 0]))
 go_wp2_with (refine wpStoreF rfl rfl 31 _ _ rfl g7 0 rfl #[.int .i64 30064771072,.int .i64 30064771072] rfl _ _ (iC [30064771072,30064771072]) (HF8.out.get 1 rfl) rfl (by show 0+2≤2;omega) (one_all rfl) info_span ?_;intro w9 hk ho;clear hw7 hg7;have HF10:=Lib.hid (HF8.out.only 1 rfl ho hk);clear ho hk)
 refine (H2.out _).mono ?_
 rintro e w11 ⟨rfl,hw⟩
 have HF12:=Lib.hid (HF10.out.below hw)
 clear hw
 go_wp2_with (refine wpLoadF rfl 31 _ rfl g1 0 rfl _ _ (HF12.out.get 0 rfl) #[.int .i64 4294967296,.int .i64 4294967296] rfl _ und_span rfl info_span ?_)
 refine (H3.out _).mono ?_
 rintro e w13 ⟨rfl,hw⟩
 have HF14:=Lib.hid (HF12.out.below hw)
 clear hw
 obtain ⟨g15,hg15⟩:∃ g,w13.heap.size=g:=⟨_,rfl⟩
 obtain ⟨w15,hw15⟩:∃ u,w13.alloc (.cells #[.int .i64 0,.int .i64 0,.int .i64 0,.int .i64 0,.int .i64 0,.int .i64 0,.int .i64 0,.int .i64 0,.int .i64 0,.int .i64 0,.int .i64 0,.int .i64 0,.int .i64 0,.int .i64 0,.int .i64 0] 38)=u:=⟨_,rfl⟩
 have HF16:=Lib.hid (frE hw15 (HF14.out.alloc hg15.symm 38 #[.int .i64 0,.int .i64 0,.int .i64 0,.int .i64 0,.int .i64 0,.int .i64 0,.int .i64 0,.int .i64 0,.int .i64 0,.int .i64 0,.int .i64 0,.int .i64 0,.int .i64 0,.int .i64 0,.int .i64 0]))
 obtain ⟨g17,hg17⟩:∃ g,w15.heap.size=g:=⟨_,rfl⟩
 obtain ⟨w17,hw17⟩:∃ u,w15.alloc (.cells #[.int .i64 0,.int .i64 0,.int .i64 0,.int .i64 0,.int .i64 0,.int .i64 0,.int .i64 0,.int .i64 0,.int .i64 0,.int .i64 0,.int .i64 0,.int .i64 0,.int .i64 0,.int .i64 0,.int .i64 0,.int .i64 0] 58)=u:=⟨_,rfl⟩
 have HF18:=Lib.hid (frE hw17 (HF16.out.alloc hg17.symm 58 #[.int .i64 0,.int .i64 0,.int .i64 0,.int .i64 0,.int .i64 0,.int .i64 0,.int .i64 0,.int .i64 0,.int .i64 0,.int .i64 0,.int .i64 0,.int .i64 0,.int .i64 0,.int .i64 0,.int .i64 0,.int .i64 0]))
 go_wp2_with (first
   | (refine wpStoreF rfl rfl 38 _ _ rfl g15 0 rfl #[.int .i64 68719476736,.int .i64 rpxl,.int .i64 rpxh,.int .i64 rpyl,.int .i64 rpyh,.int .i64 64424509440,.int .i64 rpzh,.int .i64 rvxl,.int .i64 rvxh,.int .i64 rvyl,.int .i64 rvyh,.int .i64 rvzl,.int .i64 rvzh,.int .i64 rml,.int .i64 rmh] rfl _ _ (iC [68719476736,rpxl,rpxh,rpyl,rpyh,64424509440,rpzh,rvxl,rvxh,rvyl,rvyh,rvzl,rvzh,rml,rmh]) (HF18.out.get 2 rfl) rfl (by show 0+15≤15;omega) (one_all rfl) info_38 ?_;intro w19 hk ho;clear hw15 hg15 hw17 hg17;have HF20:=Lib.hid (HF18.out.only 2 rfl ho hk);clear ho hk)
   | (refine wpLoadFG rfl 31 _ rfl g7 0 rfl _ _ (HF22.out.get 1 rfl) #[.int .i64 30064771072,.int .i64 30064771072] rfl _ und_span rfl info_span ?_)
   | (refine wpStoreF rfl rfl 58 _ _ rfl g17 0 rfl #[.int .i64 yf,.int .i64 yg,.int .i64 ypxl,.int .i64 ypxh,.int .i64 ypyl,.int .i64 ypyh,.int .i64 ypzl,.int .i64 ypzh,.int .i64 yvxl,.int .i64 yvxh,.int .i64 yvyl,.int .i64 yvyh,.int .i64 yvzl,.int .i64 yvzh,.int .i64 yml,.int .i64 ymh] rfl _ _ (iC [yf,yg,ypxl,ypxh,ypyl,ypyh,ypzl,ypzh,yvxl,yvxh,yvyl,yvyh,yvzl,yvzh,yml,ymh]) (HF20.out.get 3 rfl) rfl (by show 0+16≤16;omega) (one_all rfl) info_58 ?_;intro w21 hk ho;have HF22:=Lib.hid (HF20.out.only 3 rfl ho hk);clear ho hk;have c23:w21.cell? ⟨g15,0,none⟩=some (.int .i64 68719476736):=(HF22.out.get 2 rfl).cell 0;have c24:w21.cell? ⟨g15,5,none⟩=some (.int .i64 64424509440):=(HF22.out.get 2 rfl).cell 5))
 clear c23 c24
 exact HFIN.out _ HF22.out.drop
theorem about6_any (B:Nat) (cs:Array Value) (k off:Int) (hc8:cs[8]?=some (.int .u16 off)) (hk:-1000000≤k∧k≤1000000) (ho:0≤off∧off≤65535) (w:World) (hB:Bk w B 24 cs) :
  Calls Tryz.prog 6 #[.int .i64 k,.pointer (some ⟨B,0,none⟩)] w fun e w'=>e=.returned (spanV (aboutS k off))∧Below w.heap.size w w':=by
 obtain ⟨PQ,hPQ⟩:∃ Q:Ending→World→Prop,(fun e w'=>e=.returned (spanV (aboutS k off))∧Below w.heap.size w w')=Q:=⟨_,rfl⟩
 have HFIN:Hid (∀ w',Fr w [] [] w'→PQ (.returned (.agg #[.int .i64 (k * 4294967296 - off),.int .i64 (k * 4294967296+off)])) w'):=Lib.hid fun w' h=>by rw [← hPQ];exact ⟨rfl,h.toBelow⟩
 rw [hPQ]
 have m1:IntKind.i64.wrap (k * 4294967296)=k * 4294967296:=IntWalk.i64_in _ (by omega)
 have n1:wrap64 (k * 4294967296)=k * 4294967296:=w64_in (by omega) (by omega)
 have m2:IntKind.i64.wrap (k * 4294967296 - off)=k * 4294967296 - off:=IntWalk.i64_in _ (by omega)
 have n2:wrap64 (k * 4294967296 - off)=k * 4294967296 - off:=w64_in (by omega) (by omega)
 have m3:IntKind.i64.wrap (k * 4294967296+off)=k * 4294967296+off:=IntWalk.i64_in _ (by omega)
 have n3:wrap64 (k * 4294967296+off)=k * 4294967296+off:=w64_in (by omega) (by omega)
 have m4:IntKind.i64.wrap off=off:=IntWalk.i64_in _ (by omega)
 have n4:wrap64 off=off:=w64_in (by omega) (by omega)
 have cb:w.cell? ⟨B,8,none⟩=some (.int .u16 off):=(hB.cell 8).trans hc8
 have hlt:=hB.lt
 clear hPQ hk ho hB hc8
 obtain ⟨qb,hqb⟩:∃ qb,w.heap.size=qb:=⟨_,rfl⟩
 obtain ⟨W0,hW0⟩:∃ W0,w.alloc (.cells #[.int .i64 0,.int .i64 0] 31)=W0:=⟨_,rfl⟩
 have HF0:Hid (Fr w [] [(qb,31,iC [0,0])] W0):=Lib.hid (by rw [← hW0];exact (Fr.start w).alloc hqb.symm 31 #[.int .i64 0,.int .i64 0])
 have cb0:W0.cell? ⟨B,8,none⟩=some (.int .u16 off):=(HF0.out.toBelow.cell (p:=⟨B,8,none⟩) hlt).trans cb
 clear cb
 go_enter Tryz.func6,Tryz.ntmps6
 go_upto_region 1 with (fail)
 clear hW0 hqb
 go_wp2_with (refine wpStoreF rfl rfl 31 _ _ rfl qb 0 rfl #[.int .i64 (k * 4294967296 - off),.int .i64 (k * 4294967296+off)] rfl _ _ (iC [k * 4294967296 - off,k * 4294967296+off]) (HF0.out.get 0 rfl) rfl (by show 0+2≤2;omega) (one_all rfl) info_span ?_;intro w1 hk ho;have HF2:=Lib.hid (HF0.out.only 0 rfl ho hk);clear ho hk)
 refine ret_agg rfl rfl rfl (HF2.out.get 0 rfl) und_span rfl info_span ?_
 exact HFIN.out _ HF2.out.drop
end Go.Proofs.YtmkoegljnebdiaaGreat
namespace Go.Proofs.YtmkoegljnebdiaaGreat
open Go.RowKit Go.Shelf
set_option maxRecDepth 100000
set_option maxHeartbeats 16000000

/-- The code behind the first n parts. -/
def dropSeq:Nat→Code→Code
 | 0,c=>c
 | n+1,.seq _ b=>dropSeq n b
 | _,c=>c
def behind (n:Nat):Option Code→Code
 | some c=>dropSeq n c
 | none=>.skip
theorem u8_small (m:Nat) (h:m≤15):IntKind.u8.wrap (m:Int)=m∧(m:Int) % 256=m:=⟨IntWalk.u8_in _ (by omega),by omega⟩
theorem impact_rect {f:FallD} {r:RectD} (h:impactI f=(r,0)):rectB r=true:=by
 unfold impactI at h
 split at h
 ·split at h
  ·rename_i q;exact absurd (congrArg Prod.snd h) q
  ·split at h
   ·rename_i q
    have e:=(congrArg Prod.fst h).symm
    dsimp only at e
    rw [e];exact q
   ·exact absurd (congrArg Prod.snd h) (by show ¬ (4:Int)=0;decide)
 ·exact absurd (congrArg Prod.snd h) (by show ¬ (2:Int)=0;decide)
end Go.Proofs.YtmkoegljnebdiaaGreat
