/- What is proved: the texts Je Ka Kc Kb, one behind the other; each says at its head what it proves, and under which conditions. -/
import Derived.Test.YtmkoegljnebdiaaGreatdPAborts7
namespace Go.Proofs.YtmkoegljnebdiaaGreat
open Go.RowKit
set_option maxRecDepth 100000
set_option maxHeartbeats 16000000

def updI (q:Nat→Int) (m:Nat) (y:Int):Nat→Int:=fun i=>if i=m then y else q i
theorem BgL.congr {q q':Nat→Int} {v:Value} {cur:Array Value} {m:Nat} (h:BgL q v cur m) (e:∀ i,i<m→q i=q' i):BgL q' v cur m:=by
 obtain ⟨rows,h1,h2,h3⟩:=h;refine ⟨rows,h1,h2,fun i r hr=>?_⟩
 rw [← e i (by have:=(List.getElem?_eq_some_iff.1 hr).1;omega)];exact h3 i r hr
theorem BgL.upd {q:Nat→Int} {v:Value} {cur:Array Value} {m:Nat} (h:BgL q v cur m) (y:Int):BgL (updI q m y) v cur m:=h.congr fun i hi=>by unfold updI;rw [if_neg (by omega)]
theorem minK_congr {q q':Nat→Int}:∀ {n:Nat},(∀ i,i≤n→q i=q' i)→minK q n=minK q' n
 | 0,h=>h 0 (Nat.le_refl _)
 | n+1,h=>by rw [minK,minK,minK_congr fun i hi=>h i (by omega),h (n+1) (Nat.le_refl _)]
theorem maxK_congr {q q':Nat→Int}:∀ {n:Nat},(∀ i,i≤n→q i=q' i)→maxK q n=maxK q' n
 | 0,h=>h 0 (Nat.le_refl _)
 | n+1,h=>by rw [maxK,maxK,maxK_congr fun i hi=>h i (by omega),h (n+1) (Nat.le_refl _)]
theorem minK_upd (q:Nat→Int) (m:Nat) (y:Int):minK (updI q (m+1) y) (m+1)=min (minK q m) y:=by
 rw [minK,minK_congr (q':=q) fun i hi=>by unfold updI;rw [if_neg (by omega)]];unfold updI;rw [if_pos rfl]
theorem maxK_upd (q:Nat→Int) (m:Nat) (y:Int):maxK (updI q (m+1) y) (m+1)=max (maxK q m) y:=by
 rw [maxK,maxK_congr (q':=q) fun i hi=>by unfold updI;rw [if_neg (by omega)]];unfold updI;rw [if_pos rfl]
theorem value2_any {fid:Nat} {f:SpanD→Int} (hop:∀ s w,Calls Tryz.prog fid #[spanV s] w fun e w'=>e=.returned (.int .i64 (f s))∧Below w.heap.size w w') (hen:∀ args w,(callFunc fid args).run Tryz.prog w=.ok (.enter fid args) w)
  {w:World} {A:Option Addr} {n c:Nat} {v:Nat→PointD} (h:PtsAt w w.heap.size A n v) (ht:tableB n v=true) (hv:∀ i,i<n→-2305843009213693952≤f (v i).value∧f (v i).value≤2305843009213693952) {x:Int} (hx:I64 x) {N:List Ent} {w':World} (hf:Fr w [] N w') :
  Calls Tryz.prog 194 #[.slice A n c,.int .i64 x,.func (.func fid) #[] #[]] w' fun e w''=>∃ t y z t' y' z',e=.returned (.tuple #[.agg #[.bool t,.int .u64 y,.int .u64 z],.agg #[.bool t',.int .u64 y',.int .u64 z']])∧IsBig (.agg #[.bool t,.int .u64 y,.int .u64 z]) (valD f v n x)∧IsBig (.agg #[.bool t',.int .u64 y',.int .u64 z']) (valU f v n x)∧Below w'.heap.size w' w'':=by
 obtain ⟨h0,hn,hr,ha⟩:=table_rise ht;refine (value_any f fid hop hen w' A n c v (h.to hf.toBelow) h0 hn hr (fun i hi=>(ha i hi).1) hv x hx).mono ?_
 rintro e w'' ⟨a,b,rfl,h1,h2,hb⟩;obtain ⟨t,y,z,rfl⟩:=big_cells h1;obtain ⟨t',y',z',rfl⟩:=big_cells h2;exact ⟨t,y,z,t',y',z',rfl,h1,h2,hb⟩
theorem lo195_any (s:SpanD) (w:World):Calls Tryz.prog 195 #[spanV s] w fun e w'=>e=.returned (.int .i64 s.lo)∧Below w.heap.size w w':=by
 obtain ⟨sl,sh⟩:=s;unfold spanV;dsimp only;go_enter Tryz.func195,Tryz.ntmps195;go_wp2_with fail
 go_ret
 exact ⟨rfl,(Below.refl _ w).alloc (Nat.le_refl _) _⟩
theorem hi196_any (s:SpanD) (w:World):Calls Tryz.prog 196 #[spanV s] w fun e w'=>e=.returned (.int .i64 s.hi)∧Below w.heap.size w w':=by
 obtain ⟨sl,sh⟩:=s;unfold spanV;dsimp only;go_enter Tryz.func196,Tryz.ntmps196;go_wp2_with fail
 go_ret
 exact ⟨rfl,(Below.refl _ w).alloc (Nat.le_refl _) _⟩
def loF (s:SpanD):Int:=s.lo
def hiF (s:SpanD):Int:=s.hi
theorem look1_any {W w:World} {A:Option Addr} {n c:Nat} {v:Nat→PointD} (h:PtsAt W W.heap.size A n v) (ht:tableB n v=true) {x:Int} (hx:I64 x) {bt b6 b7 m:Nat} {X:List Ent} {vd vu:Value} {cd cu:Array Value} {qd qu:Nat→Int} (hm:m≤100)
  (hf:Fr W [] ([(bt,44,#[.slice A n c]),(b6,241,#[vd]),(b7,241,#[vu])] ++ (X ++ (lstE 217 vd cd ++ (lstE 217 vu cu ++ [])))) w) (hd:BgL qd vd cd m) (hu:BgL qu vu cu m) :
  Calls Tryz.prog 193 #[.int .i64 x,.pointer (some ⟨bt,0,none⟩),.pointer (some ⟨b6,0,none⟩),.pointer (some ⟨b7,0,none⟩)] w fun e w'=>∃ vd' vu' cd' cu',e=.returned (.tuple #[]) ∧
   Fr W [] ([(bt,44,#[.slice A n c]),(b6,241,#[vd']),(b7,241,#[vu'])] ++ (X ++ (lstE 217 vd' cd' ++ (lstE 217 vu' cu' ++ [])))) w'∧BgL (updI qd m (valD loF v n x)) vd' cd' (m+1)∧BgL (updI qu m (valU hiF v n x)) vu' cu' (m+1):=by
 have hr:=(table_rise ht).2.2.2;have HV1:=hZ fun N w' (hf:Fr W [] N w')=>value2_any (f:=loF) (c:=c) lo195_any (fun args w=>by kernel_rfl) h ht (fun i hi=>by have:=(hr i hi).2;unfold loF;omega) hx hf
 have HV2:=hZ fun N w' (hf:Fr W [] N w')=>value2_any (f:=hiF) (c:=c) hi196_any (fun args w=>by kernel_rfl) h ht (fun i hi=>by have:=(hr i hi).2;unfold hiF;omega) hx hf
 obtain ⟨yd,hyd⟩:=eX (valD loF v n x);obtain ⟨yu,hyu⟩:=eX (valU hiF v n x);rw [hyd] at HV1 ⊢;rw [hyu] at HV2 ⊢;obtain ⟨rd,hrd,hld,hqd⟩:=hd.upd yd;obtain ⟨ru,hru,hlu,hqu⟩:=hu.upd yu;have HF0:=hZ hf;have HLD:=hZ hld;have HLU:=hZ hlu;have HM:Hid (m≤65536):=hZ (by omega)
 have HFIN:Hid (∀ vd' vu' cd' cu' w' t y z t' y' z',Fr W [] ([(bt,44,#[.slice A n c]),(b6,241,#[vd']),(b7,241,#[vu'])] ++ (X ++ (lstE 217 vd' cd' ++ (lstE 217 vu' cu' ++ [])))) w' →
   LstAt 3 vd' cd' (m+1) (rowsC rd ++ [.bool t,.int .u64 y,.int .u64 z])→IsBig (.agg #[.bool t,.int .u64 y,.int .u64 z]) yd→LstAt 3 vu' cu' (m+1) (rowsC ru ++ [.bool t',.int .u64 y',.int .u64 z'])→IsBig (.agg #[.bool t',.int .u64 y',.int .u64 z']) yu →
   ∃ vd' vu' cd' cu',Ending.returned (.tuple #[])=.returned (.tuple #[])∧Fr W [] ([(bt,44,#[.slice A n c]),(b6,241,#[vd']),(b7,241,#[vu'])] ++ (X ++ (lstE 217 vd' cd' ++ (lstE 217 vu' cu' ++ [])))) w'∧BgL (updI qd m yd) vd' cd' (m+1)∧BgL (updI qu m yu) vu' cu' (m+1)) :=
  hZ fun vd' vu' cd' cu' w' t y z t' y' z' h1 h2 h3 h4 h5=>⟨vd',vu',cd',cu',rfl,h1,BgL.push (r:=(t,y,z)) hrd hqd h2 (by unfold updI;rw [if_pos rfl];exact h3),BgL.push (r:=(t',y',z')) hru hqu h4 (by unfold updI;rw [if_pos rfl];exact h5)⟩
 refine pQ fun PQ hPQ=>?_
 have HFN:Hid (∀ vd' vu' cd' cu' w' t y z t' y' z',Fr W [] ([(bt,44,#[.slice A n c]),(b6,241,#[vd']),(b7,241,#[vu'])] ++ (X ++ (lstE 217 vd' cd' ++ (lstE 217 vu' cu' ++ [])))) w' →
   LstAt 3 vd' cd' (m+1) (rowsC rd ++ [.bool t,.int .u64 y,.int .u64 z])→IsBig (.agg #[.bool t,.int .u64 y,.int .u64 z]) yd→LstAt 3 vu' cu' (m+1) (rowsC ru ++ [.bool t',.int .u64 y',.int .u64 z'])→IsBig (.agg #[.bool t',.int .u64 y',.int .u64 z']) yu→PQ (.returned (.tuple #[])) w'):=hZ (by rw [← hPQ];exact HFIN.out)
 clear HFIN hPQ h ht hx hr hyd hyu hf hd hu hrd hld hqd hru hlu hqu hm;go_enter Tryz.func193,Tryz.ntmps193;have c1:=cA (gN HF0 0) 0;go_wp2_with fail
 clear c1;refine (HV1.out _ _ HF0.out).mono ?_
 rintro e w2 ⟨t1,y1,z1,t2,y2,z2,rfl,h1,h2,hw⟩;have HF3:Hid (Fr W [] ([(bt,44,#[.slice A n c]),(b6,241,#[vd]),(b7,241,#[vu])] ++ (X ++ (lstE 217 vd cd ++ (lstE 217 vu cu ++ [])))) w2):=hZ (HF0.out.below hw);clear hw;obtain ⟨g4,hg4⟩:=eX w2.heap.size;obtain ⟨w4,hw4⟩:=eX (w2.alloc (.cells #[.bool false,.int .u64 0,.int .u64 0] 217));have HF5:Hid (Fr W [] ([(bt,44,#[.slice A n c]),(b6,241,#[vd]),(b7,241,#[vu]),(g4,217,#[.bool false,.int .u64 0,.int .u64 0])] ++ (X ++ (lstE 217 vd cd ++ (lstE 217 vu cu ++ [])))) w4):=hZ (by rw [← hw4];exact HF3.out.allocM hg4.symm 217 #[.bool false,.int .u64 0,.int .u64 0])
 obtain ⟨g6,hg6⟩:=eX w4.heap.size;obtain ⟨w6,hw6⟩:=eX (w4.alloc (.cells #[.bool false,.int .u64 0,.int .u64 0] 217));have HF7:=hZ (frE hw6 (HF5.out.allocM hg6.symm 217 #[.bool false,.int .u64 0,.int .u64 0]));go_wp2_with (first
   | (refine wpStoreF rfl rfl 217 _ _ rfl g4 0 rfl #[.bool t1,.int .u64 y1,.int .u64 z1] rfl _ _ #[.bool t1,.int .u64 y1,.int .u64 z1] (HF7.out.get 3 rfl) rfl (by show 0+3≤3;omega) (one_all rfl) i_big ?_;intro w8 hk ho;clear hw4 hg4 hw6 hg6;have HF9:=hZ (HF7.out.only 3 rfl ho hk);clear ho hk)
   | (refine wpStoreF rfl rfl 217 _ _ rfl g6 0 rfl #[.bool t2,.int .u64 y2,.int .u64 z2] rfl _ _ #[.bool t2,.int .u64 y2,.int .u64 z2] (HF9.out.get 4 rfl) rfl (by show 0+3≤3;omega) (one_all rfl) i_big ?_;intro w10 hk ho;have HF11:=hZ (HF9.out.only 4 rfl ho hk);clear ho hk;have c12:=cA (gN HF11 0) 0))
 clear c12;refine (HV2.out _ _ HF11.out).mono ?_
 rintro e w13 ⟨t3,y3,z3,t4,y4,z4,rfl,h3,h4,hw⟩;have HF14:Hid (Fr W [] ([(bt,44,#[.slice A n c]),(b6,241,#[vd]),(b7,241,#[vu]),(g4,217,#[.bool t1,.int .u64 y1,.int .u64 z1]),(g6,217,#[.bool t2,.int .u64 y2,.int .u64 z2])] ++ (X ++ (lstE 217 vd cd ++ (lstE 217 vu cu ++ [])))) w13):=hZ (HF11.out.below hw);clear hw;obtain ⟨g15,hg15⟩:=eX w13.heap.size;obtain ⟨w15,hw15⟩:=eX (w13.alloc (.cells #[.bool false,.int .u64 0,.int .u64 0] 217));have HF16:Hid (Fr W [] ([(bt,44,#[.slice A n c]),(b6,241,#[vd]),(b7,241,#[vu]),(g4,217,#[.bool t1,.int .u64 y1,.int .u64 z1]),(g6,217,#[.bool t2,.int .u64 y2,.int .u64 z2]),(g15,217,#[.bool false,.int .u64 0,.int .u64 0])] ++ (X ++ (lstE 217 vd cd ++ (lstE 217 vu cu ++ [])))) w15):=hZ (by rw [← hw15];exact HF14.out.allocM hg15.symm 217 #[.bool false,.int .u64 0,.int .u64 0])
 obtain ⟨g17,hg17⟩:=eX w15.heap.size;obtain ⟨w17,hw17⟩:=eX (w15.alloc (.cells #[.bool false,.int .u64 0,.int .u64 0] 217));have HF18:=hZ (frE hw17 (HF16.out.allocM hg17.symm 217 #[.bool false,.int .u64 0,.int .u64 0]));go_upto_region 2 with (first
   | (refine wpStoreF rfl rfl 217 _ _ rfl g15 0 rfl #[.bool t3,.int .u64 y3,.int .u64 z3] rfl _ _ #[.bool t3,.int .u64 y3,.int .u64 z3] (HF18.out.get 5 rfl) rfl (by show 0+3≤3;omega) (one_all rfl) i_big ?_;intro w19 hk ho;clear hw15 hg15 hw17 hg17;have HF20:=hZ (HF18.out.only 5 rfl ho hk);clear ho hk)
   | (refine wpStoreF rfl rfl 217 _ _ rfl g17 0 rfl #[.bool t4,.int .u64 y4,.int .u64 z4] rfl _ _ #[.bool t4,.int .u64 y4,.int .u64 z4] (HF20.out.get 6 rfl) rfl (by show 0+3≤3;omega) (one_all rfl) i_big ?_;intro w21 hk ho;have HF22:Hid (Fr W [] ([(bt,44,#[.slice A n c]),(b6,241,#[vd]),(b7,241,#[vu]),(g4,217,#[.bool t1,.int .u64 y1,.int .u64 z1]),(g6,217,#[.bool t2,.int .u64 y2,.int .u64 z2]),(g15,217,#[.bool t3,.int .u64 y3,.int .u64 z3]),(g17,217,#[.bool t4,.int .u64 y4,.int .u64 z4])] ++ (X ++ (lstE 217 vd cd ++ (lstE 217 vu cu ++ [])))) w21):=hZ (HF20.out.only 6 rfl ho hk);clear ho hk))
 have HB1:=hZ h1;have HB4:=hZ h4;clear h1 h2 h3 h4;refine wp_region_ft [Kind.p,Kind.p,Kind.a 0,Kind.c 0,Kind.p,Kind.p,Kind.a 1,Kind.c 1,Kind.c 2,Kind.c 3] [3,7,8,9] [(2,217,fun _=>#[.bool t1,.int .u64 y1,.int .u64 z1]),(6,217,fun _=>#[.bool t4,.int .u64 y4,.int .u64 z4])] W
  (fun k vs O N=>O=[]∧∃ L1 k1 L2 k2 a1 a2,N=[(bt,44,#[.slice A n c]),(b6,241,#[a1]),(b7,241,#[a2]),(g4,217,#[.bool t1,.int .u64 y1,.int .u64 z1]),(g6,217,#[.bool t2,.int .u64 y2,.int .u64 z2]),(g15,217,#[.bool t3,.int .u64 y3,.int .u64 z3]),(g17,217,#[.bool t4,.int .u64 y4,.int .u64 z4])] ++ (X ++ (lstE 217 L1 k1 ++ (lstE 217 L2 k2 ++ [])))∧(k≤2→a1=vd)∧(2<k→a1=vs 3)∧(k≤3→a2=vu)∧(3<k→a2=vs 7) ∧
   (k≤0→L1=vd∧k1=cd)∧(0<k→L1=vs 3∧LstAt 3 (vs 3) k1 (m+1) (rowsC rd ++ [.bool t1,.int .u64 y1,.int .u64 z1]))∧(k≤1→L2=vu∧k2=cu)∧(1<k→L2=vs 7∧LstAt 3 (vs 7) k2 (m+1) (rowsC ru ++ [.bool t4,.int .u64 y4,.int .u64 z4])))
  (fun ix u d=>match ix with
   | 0=>u=vd
   | 1=>u=.agg #[.bool t1,.int .u64 y1,.int .u64 z1]
   | 2=>u=.slice (some ⟨gOf u,0,none⟩) 1 1
   | 4=>u=vu
   | 5=>u=.agg #[.bool t4,.int .u64 y4,.int .u64 z4]
   | 6=>u=.slice (some ⟨gOf u,0,none⟩) 1 1
   | _=>True)
  (by kernel_rfl) (by kernel_rfl) (by kernel_rfl) [2,6] rfl (by decide) (by kernel_rfl) (by kernel_rfl) ?_ HF22.out ?_ ?_ ?_
 ·rintro k vs vs' O N hv ⟨h0,L1,k1,L2,k2,a1,a2,r0,r1,r2,r3,r4,r5,r6,r7,r8⟩;rw [← hv 3 (by simp)] at r2 r6
  rw [← hv 7 (by simp)] at r4 r8
  exact ⟨h0,L1,k1,L2,k2,a1,a2,r0,r1,r2,r3,r4,r5,r6,r7,r8⟩
 ·exact fun vs=>⟨rfl,vd,cd,vu,cu,vd,vu,rfl,fun _=>rfl,fun h=>absurd h (by decide),fun _=>rfl,fun h=>absurd h (by decide),fun _=>⟨rfl,rfl⟩,fun h=>absurd h (by decide),fun _=>⟨rfl,rfl⟩,fun h=>absurd h (by decide)⟩
 ·refine ⟨?_,?_,?_,?_,?_,?_,?_,?_,?_,?_,trivial⟩
  ·intro a w1 vs dn k O N K S hpre KE DE kk;obtain ⟨rfl,L1,k1,L2,k2,a1,a2,rfl,r1,r2,r3,r4,r5,r6,r7,r8⟩:=S.t;have e2:=KE 2 (by decide)
   have ca:=(S.fr.left.get 1 rfl).cell 0;rw [r1 (S.hi 2 8 rfl rfl)] at ca;replace ca:w1.cell? ⟨b6,0,none⟩=some vd:=ca;go_simp;exact kk _ _ (by simp) bR rfl
  ·intro a w1 vs dn k O N K S hpre KE DE kk;obtain ⟨rfl,L1,k1,L2,k2,a1,a2,rfl,r1,r2,r3,r4,r5,r6,r7,r8⟩:=S.t;have e5:=KE 5 (by decide)
   exact wpo_loadF 217 (.tmp 5) rfl g4 0 (by simpa [Act.eval] using e5) 217 _ (S.fr.left.get 3 rfl) #[.bool t1,.int .u64 y1,.int .u64 z1] rfl _ u_big rfl i_big (kk _ _ (by simp) bR rfl)
  ·intro a w1 vs dn k O N K S hpre KE DE kk;obtain ⟨rfl,L1,k1,L2,k2,a1,a2,rfl,r1,r2,r3,r4,r5,r6,r7,r8⟩:=S.t;have e22:=dep (DE 1 _ 22 rfl rfl rfl);go_simp;exact kk _ _ (by simp) (S.fr.alloc rfl _ _) rfl
  ·intro a w1 vs dn k O N K S hpre KE DE kk;obtain ⟨rfl,L1,k1,L2,k2,a1,a2,rfl,r1,r2,r3,r4,r5,r6,r7,r8⟩:=S.t;subst hpre;have e21:=dep (DE 0 _ 21 rfl rfl rfl);have e23:=dep (DE 2 _ 23 rfl rfl rfl);obtain ⟨rfl,rfl⟩:=r5 (Nat.le_refl _);have HS:Fr W [] (([(bt,44,#[.slice A n c]),(b6,241,#[a1]),(b7,241,#[a2]),(g4,217,#[.bool t1,.int .u64 y1,.int .u64 z1]),(g6,217,#[.bool t2,.int .u64 y2,.int .u64 z2]),(g15,217,#[.bool t3,.int .u64 y3,.int .u64 z3]),(g17,217,#[.bool t4,.int .u64 y4,.int .u64 z4])] ++ X) ++ (lstE 217 L1 k1 ++ ((lstE 217 L2 k2 ++ []) ++ aTab [(2,217,fun _=>#[.bool t1,.int .u64 y1,.int .u64 z1]),(6,217,fun _=>#[.bool t4,.int .u64 y4,.int .u64 z4])] dn vs 0))) w1:=(by have:=S.fr;simp only [List.append_assoc] at this ⊢;exact this)
   exact wpo_push (.tmp 21) (.tmp 23) 241 rfl HS HLD.out (by kernel_rfl) info_push rfl (by decide) (by decide) HM.out _ 1 _ 217 (by simpa [Act.eval] using e21) (by simpa [Act.eval] using e23) (S.at 0 rfl (S.done 2 rfl)) rfl rfl
    fun v' w' cur' h1 h2=>kk _ _ (by simp) ⟨[],_,⟨rfl,v',cur',L2,k2,a1,a2,rfl,fun _=>r1 (by decide),fun h=>absurd h (by decide),fun _=>r3 (by decide),fun h=>absurd h (by decide),fun h=>absurd h (by decide),fun _=>⟨rfl,h1⟩,fun _=>r7 (by decide),fun h=>absurd h (by decide)⟩,Fr.stage (s:=0) (by have:=h2;simp only [List.append_assoc] at this ⊢;exact this) (by exact ⟨rfl,rfl,trivial⟩)⟩ trivial
  ·intro a w1 vs dn k O N K S hpre KE DE kk;obtain ⟨rfl,L1,k1,L2,k2,a1,a2,rfl,r1,r2,r3,r4,r5,r6,r7,r8⟩:=S.t;have e3:=KE 3 (by decide)
   have ca:=(S.fr.left.get 2 rfl).cell 0;rw [r3 (S.hi 3 9 rfl rfl)] at ca;replace ca:w1.cell? ⟨b7,0,none⟩=some vu:=ca;go_simp;exact kk _ _ (by simp) bR rfl
  ·intro a w1 vs dn k O N K S hpre KE DE kk;obtain ⟨rfl,L1,k1,L2,k2,a1,a2,rfl,r1,r2,r3,r4,r5,r6,r7,r8⟩:=S.t;have e8:=KE 8 (by decide)
   exact wpo_loadF 217 (.tmp 8) rfl g17 0 (by simpa [Act.eval] using e8) 217 _ (S.fr.left.get 6 rfl) #[.bool t4,.int .u64 y4,.int .u64 z4] rfl _ u_big rfl i_big (kk _ _ (by simp) bR rfl)
  ·intro a w1 vs dn k O N K S hpre KE DE kk;obtain ⟨rfl,L1,k1,L2,k2,a1,a2,rfl,r1,r2,r3,r4,r5,r6,r7,r8⟩:=S.t;have e26:=dep (DE 5 _ 26 rfl rfl rfl);go_simp;exact kk _ _ (by simp) (S.fr.alloc rfl _ _) rfl
  ·intro a w1 vs dn k O N K S hpre KE DE kk;obtain ⟨rfl,L1,k1,L2,k2,a1,a2,rfl,r1,r2,r3,r4,r5,r6,r7,r8⟩:=S.t;subst hpre;have e25:=dep (DE 4 _ 25 rfl rfl rfl);have e27:=dep (DE 6 _ 27 rfl rfl rfl);obtain ⟨rfl,rfl⟩:=r7 (by decide)
   obtain ⟨rfl,hld⟩:=r6 (by decide)
   have HS:Fr W [] (([(bt,44,#[.slice A n c]),(b6,241,#[a1]),(b7,241,#[a2]),(g4,217,#[.bool t1,.int .u64 y1,.int .u64 z1]),(g6,217,#[.bool t2,.int .u64 y2,.int .u64 z2]),(g15,217,#[.bool t3,.int .u64 y3,.int .u64 z3]),(g17,217,#[.bool t4,.int .u64 y4,.int .u64 z4])] ++ (X ++ lstE 217 (vs 3) k1)) ++ (lstE 217 L2 k2 ++ ([] ++ aTab [(2,217,fun _=>#[.bool t1,.int .u64 y1,.int .u64 z1]),(6,217,fun _=>#[.bool t4,.int .u64 y4,.int .u64 z4])] dn vs 1))) w1:=(by have:=S.fr;simp only [List.append_assoc] at this ⊢;exact this)
   exact wpo_push (.tmp 25) (.tmp 27) 241 rfl HS HLU.out (by kernel_rfl) info_push rfl (by decide) (by decide) HM.out _ 1 _ 217 (by simpa [Act.eval] using e25) (by simpa [Act.eval] using e27) (S.at 1 rfl (S.done 6 rfl)) rfl rfl
    fun v' w' cur' h1 h2=>kk _ _ (by simp) ⟨[],_,⟨rfl,vs 3,k1,v',cur',a1,a2,rfl,fun _=>r1 (by decide),fun h=>absurd h (by decide),fun _=>r3 (by decide),fun h=>absurd h (by decide),fun h=>absurd h (by decide),fun _=>⟨rfl,hld⟩,fun h=>absurd h (by decide),fun _=>⟨rfl,h1⟩⟩,Fr.stage (s:=1) (by have:=h2;simp only [List.append_assoc] at this ⊢;exact this) (by exact ⟨rfl,rfl,trivial⟩)⟩ trivial
  ·intro a w1 vs dn k O N K S hpre KE DE kk;obtain ⟨rfl,L1,k1,L2,k2,a1,a2,rfl,r1,r2,r3,r4,r5,r6,r7,r8⟩:=S.t;subst hpre;have e2:=KE 2 (by decide)
   have e24:=(DE 3 _ 24 rfl rfl rfl).1;obtain ⟨rfl,hld⟩:=r6 (by decide)
   exact wpo_storeCell 241 (.tmp 2) (.tmp 24) rfl rfl b6 0 (by simpa [Act.eval] using e2) (vs 3) (by simpa [Act.eval] using e24) _ _ (S.fr.left.get 1 rfl) (by show 0<1;omega) (by rcases hld.2 with ⟨h,_⟩ | ⟨g,cap,h,_⟩ <;> rw [h] <;> rfl) (by kernel_rfl)
    fun w' hk ho=>kk _ _ (by simp) ⟨[],_,⟨rfl,vs 3,k1,L2,k2,vs 3,a2,rfl,fun h=>absurd h (by decide),fun _=>rfl,fun _=>r3 (by decide),fun h=>absurd h (by decide),fun h=>absurd h (by decide),fun _=>⟨rfl,hld⟩,fun h=>absurd h (by decide),fun _=>r8 (by decide)⟩,Fr.stage (S.fr.only 1 rfl ho hk) (by exact ⟨rfl,rfl,trivial⟩)⟩ trivial
  ·intro a w1 vs dn k O N K S hpre KE DE kk;obtain ⟨rfl,L1,k1,L2,k2,a1,a2,rfl,r1,r2,r3,r4,r5,r6,r7,r8⟩:=S.t;subst hpre;have e3:=KE 3 (by decide)
   have e28:=(DE 7 _ 28 rfl rfl rfl).1;obtain ⟨rfl,hlu⟩:=r8 (by decide)
   exact wpo_storeCell 241 (.tmp 3) (.tmp 28) rfl rfl b7 0 (by simpa [Act.eval] using e3) (vs 7) (by simpa [Act.eval] using e28) _ _ (S.fr.left.get 2 rfl) (by show 0<1;omega) (by rcases hlu.2 with ⟨h,_⟩ | ⟨g,cap,h,_⟩ <;> rw [h] <;> rfl) (by kernel_rfl)
    fun w' hk ho=>kk _ _ (by simp) ⟨[],_,⟨rfl,L1,k1,vs 7,k2,a1,vs 7,rfl,fun h=>absurd h (by decide),fun _=>r2 (by decide),fun h=>absurd h (by decide),fun _=>rfl,fun h=>absurd h (by decide),fun _=>r6 (by decide),fun h=>absurd h (by decide),fun _=>⟨rfl,hlu⟩⟩,Fr.stage (S.fr.only 2 rfl ho hk) (by exact ⟨rfl,rfl,trivial⟩)⟩ trivial
 ·rintro vs wf O N ⟨rfl,L1,k1,L2,k2,a1,a2,rfl,r1,r2,r3,r4,r5,r6,r7,r8⟩ HFr HR;obtain rfl:=r2 (by decide)
  obtain rfl:=r4 (by decide)
  obtain ⟨rfl,hld⟩:=r6 (by decide)
  obtain ⟨rfl,hlu⟩:=r8 (by decide)
  have HL1:=hZ hld;have HL2:=hZ hlu;have HFr':=hZ HFr.left;clear HR HFr hld hlu r1 r2 r3 r4 r5 r6 r7 r8;obtain ⟨vd',hvd'⟩:=eX (vs 3);obtain ⟨vu',hvu'⟩:=eX (vs 7);rw [hvd'] at HL1 HFr';rw [hvu'] at HL2 HFr';refine bodyPost_end (results_none rfl _ _ _) rfl ?_
  exact HFN.out _ _ _ _ _ _ _ _ _ _ _ (HFr'.out.sub ((List.sublist_append_left [_,_,_] _).append_right _)) HL1.out HB1.out HL2.out HB4.out
theorem fit_look {n:Nat} {v:Nat→PointD} (ht:tableB n v=true) (x:SpanD) (k:Nat):S127 (lookD (fun s=>s.lo) v n x k)∧S127 (lookU (fun s=>s.hi) v n x k):=by
 obtain ⟨h0,_,hr,ha⟩:=table_rise ht;have key:∀ (f:SpanD→Int),(∀ i,i<n→-2305843009213693952≤f (v i).value∧f (v i).value≤2305843009213693952)→∀ t,-4611686018427387904 * 2≤valD f v n t∧valD f v n t≤4611686018427387904 * 2:=fun f hf t=>by
  obtain ⟨k1,k2,k3⟩:=posN_spec v t n;unfold valD;obtain ⟨i,hi⟩:=eX (posN v t n);rw [hi] at k1 k2 k3 ⊢;split
  ·have:=hf (min i (n - 1)) (by omega);omega
  ·rename_i e
   have a1:=ha (i - 1) (by omega)
   have a2:=ha i (by omega)
   have b1:=hf (i - 1) (by omega)
   have b2:=hf i (by omega)
   have b3:=hr (i - 1) i (by omega) (by omega)
   have b4:=k2 (i - 1) (by omega)
   have b5:=k3 (by omega)
   have hD:0<(v i).at_ - (v (i - 1)).at_:=by omega
   have h1:=Int.mul_le_mul_of_nonneg_right (show f (v i).value - f (v (i - 1)).value≤4611686018427387904 by omega) (show 0≤t - (v (i - 1)).at_ by omega)
   have h2:=Int.mul_le_mul_of_nonneg_right (show -4611686018427387904≤f (v i).value - f (v (i - 1)).value by omega) (show 0≤t - (v (i - 1)).at_ by omega)
   have q1:(f (v i).value - f (v (i - 1)).value) * (t - (v (i - 1)).at_) / ((v i).at_ - (v (i - 1)).at_)≤4611686018427387904:=by
    have:=Int.ediv_le_ediv hD (show _≤4611686018427387904 * ((v i).at_ - (v (i - 1)).at_) from Int.le_trans h1 (by omega));rwa [Int.mul_ediv_cancel _ (by omega)] at this
   have q2:-4611686018427387904≤(f (v i).value - f (v (i - 1)).value) * (t - (v (i - 1)).at_) / ((v i).at_ - (v (i - 1)).at_):=by
    have:=Int.ediv_le_ediv hD (show -4611686018427387904 * ((v i).at_ - (v (i - 1)).at_)≤_ from Int.le_trans (by omega) h2);rwa [Int.mul_ediv_cancel _ (by omega)] at this
   unfold segD;omega
 have kk:∀ (f:SpanD→Int),(∀ i,i<n→-2305843009213693952≤f (v i).value∧f (v i).value≤2305843009213693952)→∀ k,-4611686018427387904 * 2≤lookD f v n x k∧lookD f v n x k≤4611686018427387904 * 2:=fun f hf k=>by
  induction k with
  | zero=>have:=key f hf x.lo;have:=key f hf x.hi;unfold lookD;omega
  | succ k ih =>
   rw [lookD];split
   ·have:=key f hf (v k).at_;omega
   ·exact ih
 have c1:=kk (fun s=>s.lo) (fun i hi=>by have:=(ha i hi).2;omega) k
 have c2:=kk (fun s=>-s.hi) (fun i hi=>by have:=(ha i hi).2;omega) k
 unfold S127 lookU;dsimp only at c1 c2 ⊢;omega
def LookI (W:World) (Y:List Ent) (A:Option Addr) (n c:Nat) (v:Nat→PointD) (x:SpanD) (bt b6 b7 k:Nat) (w:World):Prop :=
 ∃ vd vu cd cu qd qu m,Fr W [] ([(bt,44,#[.slice A n c]),(b6,241,#[vd]),(b7,241,#[vu])] ++ (Y ++ (lstE 217 vd cd ++ (lstE 217 vu cu ++ [])))) w∧1≤m∧m≤k+1∧BgL qd vd cd (m+1)∧BgL qu vu cu (m+1)∧minK qd m=lookD loF v n x k∧maxK qu m=lookU hiF v n x k
theorem look_start {W w:World} {Y:List Ent} {A:Option Addr} {n c:Nat} {v:Nat→PointD} {x:SpanD} {bt b6 b7:Nat} {vd vu:Value} {cd cu:Array Value} {qd qu:Nat→Int} (hf:Fr W [] ([(bt,44,#[.slice A n c]),(b6,241,#[vd]),(b7,241,#[vu])] ++ (Y ++ (lstE 217 vd cd ++ (lstE 217 vu cu ++ [])))) w)
  (hd:BgL (updI (updI qd 0 (valD loF v n x.lo)) 1 (valD loF v n x.hi)) vd cd 2) (hu:BgL (updI (updI qu 0 (valU hiF v n x.lo)) 1 (valU hiF v n x.hi)) vu cu 2):LookI W Y A n c v x bt b6 b7 0 w :=
 ⟨vd,vu,cd,cu,_,_,1,hf,Nat.le_refl _,Nat.le_refl _,hd,hu,by rw [minK_upd];show min (updI qd 0 (valD loF v n x.lo) 0) _=_;unfold updI;rw [if_pos rfl];rfl,by
  rw [maxK_upd];show max (updI qu 0 (valU hiF v n x.lo) 0) _=_
  unfold updI;rw [if_pos rfl];unfold valU lookU lookD;omega⟩
theorem look_skip {W w w':World} {Y:List Ent} {A:Option Addr} {n c:Nat} {v:Nat→PointD} {x:SpanD} {bt b6 b7 k:Nat} (h:LookI W Y A n c v x bt b6 b7 k w) (hi:inT x (v k).at_=false) (hw:Below w.heap.size w w'):LookI W Y A n c v x bt b6 b7 (k+1) w':=by
 obtain ⟨vd,vu,cd,cu,qd,qu,m,h1,h2,h3,h4,h5,h6,h7⟩:=h;exact ⟨vd,vu,cd,cu,qd,qu,m,h1.below hw,h2,by omega,h4,h5,by rw [lookD,if_neg (by rw [hi];decide)];exact h6,by unfold lookU at h7 ⊢;rw [lookD,if_neg (by rw [hi];decide)];exact h7⟩
theorem look_more {W w:World} {Y:List Ent} {A:Option Addr} {n c:Nat} {v:Nat→PointD} (h:PtsAt W W.heap.size A n v) (ht:tableB n v=true) {x:SpanD} {bt b6 b7 k:Nat} (hk:k<64) (ha:I64 (v k).at_) (hL:LookI W Y A n c v x bt b6 b7 k w) (hi:inT x (v k).at_=true) {w1:World} (hw:Below w.heap.size w w1) :
  Calls Tryz.prog 193 #[.int .i64 (v k).at_,.pointer (some ⟨bt,0,none⟩),.pointer (some ⟨b6,0,none⟩),.pointer (some ⟨b7,0,none⟩)] w1 fun e w'=>e=.returned (.tuple #[])∧LookI W Y A n c v x bt b6 b7 (k+1) w':=by
 obtain ⟨vd,vu,cd,cu,qd,qu,m,h1,h2,h3,h4,h5,h6,h7⟩:=hL;refine (look1_any h ht ha (by omega) (h1.below hw) h4 h5).mono ?_
 rintro e w' ⟨vd',vu',cd',cu',rfl,g1,g2,g3⟩;refine ⟨rfl,vd',vu',cd',cu',_,_,m+1,g1,by omega,by omega,g2,g3,?_,?_⟩
 ·rw [minK_upd,lookD,if_pos hi,h6]
 ·rw [maxK_upd,h7];unfold lookU;rw [lookD,if_pos hi];unfold valU;omega
theorem look_any (w:World) (A:Option Addr) (n c:Nat) (v:Nat→PointD) (h:PtsAt w w.heap.size A n v) (hv:∀ i,WdS (v i).value) (x:SpanD) (hx:WdS x) :
  Calls Tryz.prog 184 #[.slice A n c,spanV x] w (SpPost (lookB n v x) w.heap.size w):=by
 have HTB:=hZ (table_any w A n c v h hv);have HT:=hZ fun w' (hf:Fr w [] [] w')=>table_any w' A n c v (h.to hf.toBelow) hv;have HCK:=hZ (fun w=>check_any x w);have HFIN:Hid (∀ r w',lookB n v x=r→Fr w [] [] w'→SpPost (lookB n v x) w.heap.size w (.returned (.tuple #[.agg #[.int .i64 r.1.lo,.int .i64 r.1.hi],.int .i64 r.2])) w'):=hZ fun r w' hr h=>by rw [hr];exact ⟨rfl,h.toBelow⟩
 refine pQ fun PQ hPQ=>?_
 rw [hPQ] at HFIN;unfold errC at HCK;unfold lookB at HFIN;obtain ⟨tb,htb⟩:=eX (tableB n v);obtain ⟨cb,hcb⟩:=eX (chkB x);have HTT:=hZ htb;have HHH:=hZ h;rw [htb] at HT HFIN;rw [hcb] at HCK HFIN;have hcx:=hcb;clear hPQ htb hcb h hv HTB;cases tb with
 | false =>
  simp only [Bool.false_and,Bool.false_eq_true,if_false] at HT HFIN;clear hcx;obtain ⟨xl,xh⟩:=x;unfold spanV at HCK ⊢;dsimp only at HCK ⊢;obtain ⟨qb,W0,hqb,hW0,HF0⟩:=fM (Fr.start w) [(#[.slice A n c],44),(#[xl,xh],31),(#[.int .i64 0,.int .i64 0],31)];go_enter Tryz.func184,Tryz.ntmps184;go_upto_region 1 with (fail);clear hW0 hqb;have c1:W0.cell? ⟨qb,0,none⟩=some (.slice A n c):=(HF0.out.get 0 rfl).cell 0;go_wp2_with fail
  clear c1;refine (HT.out _ HF0.out.drop).mono ?_
  rintro e w2 ⟨rfl,hw⟩;have HF3:Hid (Fr w [] [(qb,44,#[.slice A n c]),(qb+1,31,iC [xl,xh]),(qb+1+1,31,iC [0,0])] w2):=hZ (HF0.out.below hw);clear hw;go_wp2_with (refine wpStoreF rfl rfl 31 _ _ rfl (qb+1+1) 0 rfl #[.int .i64 0,.int .i64 0] rfl _ _ (iC [0,0]) (HF3.out.get 2 rfl) rfl (by show 0+2≤2;omega) (one_all rfl) i_span ?_;intro w4 hk ho;have HF5:Hid (Fr w [] [(qb,44,#[.slice A n c]),(qb+1,31,iC [xl,xh]),(qb+1+1,31,iC [0,0])] w4):=hZ (HF3.out.only 2 rfl ho hk);clear ho hk)
  refine ret_agg2 rfl rfl rfl (HF5.out.get 2 rfl) rfl u_span rfl i_span ?_
  exact HFIN.out (zeroS,2) _ rfl HF5.out.drop
 | true =>
  simp only [Bool.true_and,if_true] at HT HFIN;cases cb with
  | false =>
   simp only [Bool.false_eq_true,if_false] at HCK HFIN;clear hcx;obtain ⟨xl,xh⟩:=x;unfold spanV at HCK ⊢;dsimp only at HCK ⊢;obtain ⟨qb,W0,hqb,hW0,HF0⟩:=fM (Fr.start w) [(#[.slice A n c],44),(#[xl,xh],31),(#[.int .i64 0,.int .i64 0],31)];go_enter Tryz.func184,Tryz.ntmps184;go_upto_region 1 with (fail);clear hW0 hqb;have c1:W0.cell? ⟨qb,0,none⟩=some (.slice A n c):=(HF0.out.get 0 rfl).cell 0;go_wp2_with fail
   clear c1;refine (HT.out _ HF0.out.drop).mono ?_
   rintro e w2 ⟨rfl,hw⟩;have HF3:Hid (Fr w [] [(qb,44,#[.slice A n c]),(qb+1,31,iC [xl,xh]),(qb+1+1,31,iC [0,0])] w2):=hZ (HF0.out.below hw);clear hw;go_wp2_with (refine wpLoadFG rfl 31 _ rfl (qb+1) 0 rfl _ _ (HF3.out.get 1 rfl) #[xl,xh] rfl _ u_span rfl i_span ?_)
   refine (HCK.out _).mono ?_
   rintro e w4 ⟨rfl,hw⟩;have HF5:Hid (Fr w [] [(qb,44,#[.slice A n c]),(qb+1,31,iC [xl,xh]),(qb+1+1,31,iC [0,0])] w4):=hZ (HF3.out.below hw);clear hw;go_wp2_with (refine wpStoreF rfl rfl 31 _ _ rfl (qb+1+1) 0 rfl #[.int .i64 0,.int .i64 0] rfl _ _ (iC [0,0]) (HF5.out.get 2 rfl) rfl (by show 0+2≤2;omega) (one_all rfl) i_span ?_;intro w6 hk ho;have HF7:=hZ (HF5.out.only 2 rfl ho hk);clear ho hk)
   refine ret_agg2 rfl rfl rfl (HF7.out.get 2 rfl) rfl u_span rfl i_span ?_
   exact HFIN.out (zeroS,2) _ rfl HF7.out.drop
  | true =>
   simp only [if_true] at HCK HFIN;obtain ⟨h0,hn64,-,hat⟩:=table_rise HTT.out;obtain ⟨b,off,rfl,-,-⟩:=HHH.out.2 h0;have HAT:=hZ hat;obtain ⟨f1,f2⟩:=fit_look HTT.out x n;obtain ⟨hx1,hx2⟩:=hx;obtain ⟨xl,xh⟩:=x;have HIN:=hZ fun (t:Int) w=>in_any ⟨xl,xh⟩ t w;have HMEM:=hZ fun t=>(show memB ⟨xl,xh⟩ t=inT ⟨xl,xh⟩ t by unfold memB inT;rw [hcx];rfl)
   obtain ⟨⟨⟨fl,fh⟩,fe⟩,hfe⟩:∃ z,fitB (lookD (fun s=>s.lo) v n ⟨xl,xh⟩ n) (lookU (fun s=>s.hi) v n ⟨xl,xh⟩ n)=z:=⟨_,rfl⟩;have HFE:=hZ hfe;have HF1:=hZ f1;have HF2:=hZ f2;have HX1:Hid (I64 xl):=hZ hx1;have HX2:Hid (I64 xh):=hZ hx2;replace HFIN:=hZ (HFIN.out _ · rfl);rw [hfe] at HFIN;unfold spanV at HCK HIN ⊢;dsimp only at HCK HIN HFIN ⊢;clear f1 f2 hfe hcx hx1 hx2 hat;obtain ⟨qb,W0,hqb,hW0,HF0⟩:=fM (Fr.start w) [(#[.slice (some ⟨b,off,none⟩) n c],44),(#[xl,xh],31),(#[.int .i64 0,.int .i64 0],31)];go_enter Tryz.func184,Tryz.ntmps184;go_upto_region 1 with (fail);clear hW0 hqb;have c1:W0.cell? ⟨qb,0,none⟩=some (.slice (some ⟨b,off,none⟩) n c):=(HF0.out.get 0 rfl).cell 0;go_wp2_with fail
   clear c1;refine (HT.out _ HF0.out.drop).mono ?_
   rintro e w2 ⟨rfl,hw⟩;have HF3:Hid (Fr w [] [(qb,44,#[.slice (some ⟨b,off,none⟩) n c]),(qb+1,31,iC [xl,xh]),(qb+1+1,31,iC [0,0])] w2):=hZ (HF0.out.below hw);clear hw;go_wp2_with (refine wpLoadFG rfl 31 _ rfl (qb+1) 0 rfl _ _ (HF3.out.get 1 rfl) #[xl,xh] rfl _ u_span rfl i_span ?_)
   refine (HCK.out _).mono ?_
   rintro e w4 ⟨rfl,hw⟩;have HF5:Hid (Fr w [] [(qb,44,#[.slice (some ⟨b,off,none⟩) n c]),(qb+1,31,iC [xl,xh]),(qb+1+1,31,iC [0,0])] w4):=hZ (HF3.out.below hw);clear hw;obtain ⟨g6,w6,hg6,hw6,HF7⟩:=fA HF5.out #[.slice none 0 0] 241;obtain ⟨g8,w8,hg8,hw8,HF9⟩:=fA HF7.out #[.slice none 0 0] 241;go_upto_region 5 with (fail);clear hw6 hg6 hw8 hg8;have HP0:Hid (Fr w [] ([(qb,44,#[.slice (some ⟨b,off,none⟩) n c]),(g6,241,#[.slice none 0 0]),(g8,241,#[.slice none 0 0])] ++ ([(qb+1,31,iC [xl,xh]),(qb+1+1,31,iC [0,0])] ++ (lstE 217 (.slice none 0 0) #[] ++ (lstE 217 (.slice none 0 0) #[] ++ [])))) w8):=hZ (HF9.out.perm (List.Perm.cons _ (List.perm_append_comm (l₁:=[_,_]) (l₂:=[_,_]))));have cx0:w8.cell? ⟨qb+1,0,none⟩=some (.int .i64 xl):=((HP0.out.get 3 rfl:Bk w8 (qb+1) 31 #[xl,xh])).cell 0;go_wp2_with fail
   clear cx0;refine (look1_any HHH.out HTT.out HX1.out (by decide:0≤100) HP0.out (BgL.nil fun _=>0) (BgL.nil fun _=>0)).mono ?_
   rintro e wa ⟨vd0,vu0,cd0,cu0,rfl,hf0,hd0,hu0⟩;have HP1:=hZ hf0;clear hf0;have cx1:wa.cell? ⟨qb+1,1,none⟩=some (.int .i64 xh):=((HP1.out.get 3 rfl:Bk wa (qb+1) 31 #[xl,xh])).cell 1;go_wp2_with fail
   clear cx1;refine (look1_any HHH.out HTT.out HX2.out (by decide:1≤100) HP1.out hd0 hu0).mono ?_
   rintro e wb ⟨vd1,vu1,cd1,cu1,rfl,hf1,hd1,hu1⟩;have HP2:=hZ hf1;clear hf1;have HLK:Hid (LookI w [(qb+1,31,iC [xl,xh]),(qb+1+1,31,iC [0,0])] (some ⟨b,off,none⟩) n c v ⟨xl,xh⟩ qb g6 g8 0 wb):=hZ (look_start HP2.out hd1 hu1);have cs:=cA (HP2.out.get 0 rfl) 0;clear hd0 hu0 hd1 hu1;go_wp2_with fail
   clear cs;go_loopw [35] (fun iv wr=>∃ k:Nat,k≤n∧iv=.int .i64 k∧Hid (LookI w [(qb+1,31,iC [xl,xh]),(qb+1+1,31,iC [0,0])] (some ⟨b,off,none⟩) n c v ⟨xl,xh⟩ qb g6 g8 k wr)) (fun iv _=>n - (intOf iv).toNat)
   case atStart=>exact ⟨0,Nat.zero_le _,rfl,HLK⟩
   case round =>
    obtain ⟨wo,rfl⟩:∃ wo:World,wo=wr:=⟨_,rfl⟩;obtain ⟨k,hk,rfl,hs⟩:=hrel;clear HLK HP0 HP1 HP2;have h0k:(0:Int)≤(k:Int):=by omega
    by_cases hlt:k<n
    ·have hki:(k:Int)<(n:Int):=by omega
     obtain ⟨hbx,hfw⟩:Bk wo (qb+1) 31 #[xl,xh]∧∃ N,Fr w [] N wo:=by
      obtain ⟨vd,vu,cd,cu,qd,qu,m,h1,_⟩:=hs.out;exact ⟨h1.get 3 rfl,_,h1⟩
     obtain ⟨NN,hfw⟩:=hfw;obtain ⟨_,hcs,_⟩:=HHH.out.cells rfl hlt hfw;have hai:=HAT.out k hlt;have HMO:=hZ (fun w1 (hw:Below wo.heap.size wo w1) hi=>look_more HHH.out HTT.out (by omega) (by unfold I64;omega) hs.out hi hw)
     have HSK:=hZ (fun w1 (hw:Below wo.heap.size wo w1) hi=>look_skip hs.out hi hw);have HI:=fun w=>HIN.out (v k).at_ w;rw [HMEM.out] at HI;obtain ⟨bi,hbi⟩:=eX (inT ⟨xl,xh⟩ (v k).at_);rw [hbi] at HI;have HBI:=hZ hbi;rw [hbi] at HMO HSK;obtain ⟨⟨y,⟨sl,sh⟩⟩,hy⟩:=eX (v k);simp only [hy] at hcs HI HMO HSK;replace HI:=hZ HI;have HCS:=hZ hcs;have HBX:=hZ hbx;have HS0:Hid (Fr wo [] [] wo):=hZ (Fr.start wo);clear hbx hfw hcs hai hy hbi hs;obtain ⟨g10,hg10⟩:=eX wo.heap.size;obtain ⟨w10,hw10⟩:=eX (wo.alloc (.cells #[(0:Int),(0:Int),(0:Int)] 237));have HF11:Hid (Fr wo [] [(g10,237,iC [0,0,0])] w10):=hZ (by rw [← hw10];exact HS0.out.alloc hg10.symm 237 #[(0:Int),(0:Int),(0:Int)])
     go_wp2_with (first
       | (refine wpLoadAt rfl 237 _ rfl b (off+k * 3) rfl #[y,sl,sh] _ HCS.out u_237 rfl i_237 ?_)
       | (refine lS (HBX.out.below HF13.out.toBelow HBX.out.lt) xl xh ?_)
       | (refine wpStoreF rfl rfl 237 _ _ rfl g10 0 rfl #[y,sl,sh] rfl _ _ (iC [y,sl,sh]) (HF11.out.get 0 rfl) rfl (by show 0+3≤3;omega) (one_all rfl) i_237 ?_;intro w12 hk ho;clear hw10 hg10;have HF13:=hZ (HF11.out.only 0 rfl ho hk);clear ho hk;have c14:=cA (gN HF13 0) 0))
     clear c14;refine (HI.out _).mono ?_
     rintro e w15 ⟨rfl,hw⟩;have HF16:Hid (Fr wo [] [(g10,237,iC [y,sl,sh])] w15):=hZ (HF13.out.below hw);clear hw;cases bi with
     | false =>
      go_wp2_with fail
      go_roundw
      case rel=>exact ⟨k+1,by omega,by go_num,hZ (HSK.out _ HF16.out.toBelow (by first | trivial | rfl))⟩
      case measure=>simp [intOf];omega
     | true =>
      have cy:=cA (gN HF16 0) 0;go_wp2_with fail
      clear cy;refine (HMO.out _ HF16.out.toBelow (by first | trivial | rfl)).mono ?_
      rintro e w9 ⟨rfl,hl⟩;go_wp2_with fail
      go_roundw
      case rel=>exact ⟨k+1,by omega,by go_num,hZ hl⟩
      case measure=>simp [intOf];omega
    ·obtain rfl:n=k:=by omega
     have hki:¬ (n:Int)<(n:Int):=by omega
     obtain ⟨vd,vu,cd,cu,qd,qu,m,h1,h2,h3,h4,h5,h6,h7⟩:=hs.out;clear hs;have HD:=hZ h4;have HU:=hZ h5;have HM:=hZ (And.intro h2 (show m<4096 by omega))
     have HQ6:=hZ h6;have HQ7:=hZ h7;clear h2 h3 h4 h5 h6 h7;have HFA:Hid (Fr w [] ([(qb,44,#[.slice (some ⟨b,off,none⟩) n c]),(g6,241,#[vd]),(g8,241,#[vu]),(qb+1,31,iC [xl,xh]),(qb+1+1,31,iC [0,0])] ++ (lstE 217 vd cd ++ (lstE 217 vu cu ++ []))) wo):=hZ h1;clear h1;have c10:=cA (gN HFA 1) 0;go_wp2_with fail
     clear c10;refine (hullL_any HFA.out HD.out HM.out.1 HM.out.2).mono ?_
     rintro e w11 ⟨tp,xp,yp,tp',xp',yp',rfl,hp,hp',hw⟩;have HF12:Hid (Fr w [] ([(qb,44,#[.slice (some ⟨b,off,none⟩) n c]),(g6,241,#[vd]),(g8,241,#[vu]),(qb+1,31,iC [xl,xh]),(qb+1+1,31,iC [0,0])] ++ (lstE 217 vd cd ++ (lstE 217 vu cu ++ []))) w11):=hZ (HFA.out.below hw);clear hw;obtain ⟨g13,hg13⟩:=eX w11.heap.size;obtain ⟨w13,hw13⟩:=eX (w11.alloc (.cells #[.bool false,.int .u64 0,.int .u64 0] 217));have HF14:Hid (Fr w [] ([(qb,44,#[.slice (some ⟨b,off,none⟩) n c]),(g6,241,#[vd]),(g8,241,#[vu]),(qb+1,31,iC [xl,xh]),(qb+1+1,31,iC [0,0]),(g13,217,#[.bool false,.int .u64 0,.int .u64 0])] ++ (lstE 217 vd cd ++ (lstE 217 vu cu ++ []))) w13):=hZ (by rw [← hw13];exact HF12.out.allocM hg13.symm 217 #[.bool false,.int .u64 0,.int .u64 0])
     obtain ⟨g15,hg15⟩:=eX w13.heap.size;obtain ⟨w15,hw15⟩:=eX (w13.alloc (.cells #[.bool false,.int .u64 0,.int .u64 0] 217));have HF16:Hid (Fr w [] ([(qb,44,#[.slice (some ⟨b,off,none⟩) n c]),(g6,241,#[vd]),(g8,241,#[vu]),(qb+1,31,iC [xl,xh]),(qb+1+1,31,iC [0,0]),(g13,217,#[.bool false,.int .u64 0,.int .u64 0]),(g15,217,#[.bool false,.int .u64 0,.int .u64 0])] ++ (lstE 217 vd cd ++ (lstE 217 vu cu ++ []))) w15):=hZ (by rw [← hw15];exact HF14.out.allocM hg15.symm 217 #[.bool false,.int .u64 0,.int .u64 0])
     go_wp2_with (first
       | (refine wpStoreF rfl rfl 217 _ _ rfl g13 0 rfl #[.bool tp,.int .u64 xp,.int .u64 yp] rfl _ _ #[.bool tp,.int .u64 xp,.int .u64 yp] (HF16.out.get 5 rfl) rfl (by show 0+3≤3;omega) (one_all rfl) i_big ?_;intro w17 hk ho;clear hw13 hg13 hw15 hg15;have HF18:=hZ (HF16.out.only 5 rfl ho hk);clear ho hk)
       | (refine wpStoreF rfl rfl 217 _ _ rfl g15 0 rfl #[.bool tp',.int .u64 xp',.int .u64 yp'] rfl _ _ #[.bool tp',.int .u64 xp',.int .u64 yp'] (HF18.out.get 6 rfl) rfl (by show 0+3≤3;omega) (one_all rfl) i_big ?_;intro w19 hk ho;have HF20:=hZ (HF18.out.only 6 rfl ho hk);clear ho hk;have c21:=cA (gN HF20 2) 0))
     clear c21;refine (hullL_any (W:=w) (O:=[]) (N:=[(qb,44,#[.slice (some ⟨b,off,none⟩) n c]),(g6,241,#[vd]),(g8,241,#[vu]),(qb+1,31,iC [xl,xh]),(qb+1+1,31,iC [0,0]),(g13,217,#[.bool tp,.int .u64 xp,.int .u64 yp]),(g15,217,#[.bool tp',.int .u64 xp',.int .u64 yp'])] ++ lstE 217 vd cd) (Y:=[]) (by rw [List.append_assoc];exact HF20.out) HU.out HM.out.1 HM.out.2).mono ?_
     rintro e wh ⟨tq,xq,yq,tq',xq',yq',rfl,hq,hq',hw⟩;have HF22:Hid (Fr w [] ([(qb,44,#[.slice (some ⟨b,off,none⟩) n c]),(g6,241,#[vd]),(g8,241,#[vu]),(qb+1,31,iC [xl,xh]),(qb+1+1,31,iC [0,0]),(g13,217,#[.bool tp,.int .u64 xp,.int .u64 yp]),(g15,217,#[.bool tp',.int .u64 xp',.int .u64 yp'])] ++ (lstE 217 vd cd ++ (lstE 217 vu cu ++ []))) wh):=hZ (HF20.out.below hw);clear hw;obtain ⟨g23,hg23⟩:=eX wh.heap.size;obtain ⟨w23,hw23⟩:=eX (wh.alloc (.cells #[.bool false,.int .u64 0,.int .u64 0] 217));have HF24:Hid (Fr w [] ([(qb,44,#[.slice (some ⟨b,off,none⟩) n c]),(g6,241,#[vd]),(g8,241,#[vu]),(qb+1,31,iC [xl,xh]),(qb+1+1,31,iC [0,0]),(g13,217,#[.bool tp,.int .u64 xp,.int .u64 yp]),(g15,217,#[.bool tp',.int .u64 xp',.int .u64 yp']),(g23,217,#[.bool false,.int .u64 0,.int .u64 0])] ++ (lstE 217 vd cd ++ (lstE 217 vu cu ++ []))) w23):=hZ (by rw [← hw23];exact HF22.out.allocM hg23.symm 217 #[.bool false,.int .u64 0,.int .u64 0])
     obtain ⟨g25,hg25⟩:=eX w23.heap.size;obtain ⟨w25,hw25⟩:=eX (w23.alloc (.cells #[.bool false,.int .u64 0,.int .u64 0] 217));have HF26:=hZ (frE hw25 (HF24.out.allocM hg25.symm 217 #[.bool false,.int .u64 0,.int .u64 0]));go_wp2_with (first
       | (refine wpStoreF rfl rfl 217 _ _ rfl g23 0 rfl #[.bool tq,.int .u64 xq,.int .u64 yq] rfl _ _ #[.bool tq,.int .u64 xq,.int .u64 yq] (HF26.out.get 7 rfl) rfl (by show 0+3≤3;omega) (one_all rfl) i_big ?_;intro w27 hk ho;clear hw23 hg23 hw25 hg25;have HF28:=hZ (HF26.out.only 7 rfl ho hk);clear ho hk)
       | (refine lF (gN HF30 5) #[.bool tp,.int .u64 xp,.int .u64 yp] u_big i_big ?_)
       | (refine lF (gN HF30 8) #[.bool tq',.int .u64 xq',.int .u64 yq'] u_big i_big ?_)
       | (refine wpStoreF rfl rfl 217 _ _ rfl g25 0 rfl #[.bool tq',.int .u64 xq',.int .u64 yq'] rfl _ _ #[.bool tq',.int .u64 xq',.int .u64 yq'] (HF28.out.get 8 rfl) rfl (by show 0+3≤3;omega) (one_all rfl) i_big ?_;intro w29 hk ho;have HF30:=hZ (HF28.out.only 8 rfl ho hk);clear ho hk))
     rw [HQ6.out] at hp;rw [HQ7.out] at hq';have HFT:=fit_any hp hq' HF1.out HF2.out;unfold SpPost spanV at HFT;rw [show fitB (lookD loF v n ⟨xl,xh⟩ n) (lookU hiF v n ⟨xl,xh⟩ n)=((⟨fl,fh⟩,fe):SpanD × Int) from HFE.out] at HFT
     refine mB HF30.out (HFT _) fun w31 HF32=>?_;go_wp2_with (refine wpStoreF rfl rfl 31 _ _ rfl (qb+1+1) 0 rfl #[fl,fh] rfl _ _ (iC [fl,fh]) (HF32.out.get 4 rfl) rfl (by show 0+2≤2;omega) (one_all rfl) i_span ?_;intro w33 hk ho;have HF34:=hZ (HF32.out.only 4 rfl ho hk);clear ho hk)
     refine ret_agg2 rfl rfl rfl (HF34.out.get 4 rfl) rfl u_span rfl i_span ?_
     exact HFIN.out _ HF34.out.drop

def dragB (a:ArcD):Bool:=decide (a.drag.length=0) || tableB a.drag.length (ptL a.drag)
def arcT (a:ArcD):Bool:=arcB a && dragB a
structure WdA (a:ArcD):Prop where
 time:I64 a.time
 step:I64 a.step
 thrust:WdS a.thrust
 flow:WdS a.flow
 dir:WdB a.dir
 drag:∀ i,WdS (ptL a.drag i).value
 drop:WdS a.drop
theorem checkArc_any (a:ArcD) (A:Option Addr) (c:Nat) (wa:WdA a) (w:World) (hT:PtsAt w w.heap.size A a.drag.length (ptL a.drag)):Calls Tryz.prog 59 #[arcV a A a.drag.length c] w fun e w'=>e=.returned (.int .i64 (if arcT a=true then 0 else 2))∧Below w.heap.size w w':=by
 have hd:=wa.dir;have HTB:=hZ fun w' (hf:Fr w [] [] w')=>table_any w' A a.drag.length c (ptL a.drag) (hT.to hf.toBelow) wa.drag;have hwu:WdS unitS:=by unfold WdS unitS;decide
 have HWx:=fun w=>within_any a.dir.x unitS hd.1 hwu w;have HWy:=fun w=>within_any a.dir.y unitS hd.2.1 hwu w;have HWz:=fun w=>within_any a.dir.z unitS hd.2.2 hwu w;have HSt:=hZ (fun w g hk=>spans1_any a.thrust w g 31 hk);have HSf:=hZ (fun w g hk=>spans1_any a.flow w g 31 hk);have HSd:=hZ (fun w g hk=>spans1_any a.drop w g 31 hk);have HI0:=fun a b c d e f w=>(index34 a b c d e f w).1;have HI1:=fun a b c d e f w=>(index34 a b c d e f w).2.1;have HI2:=fun a b c d e f w=>(index34 a b c d e f w).2.2;refine pQ fun PQ hPQ=>?_
 have HFIN:Hid (∀ w' r,r=(if arcT a=true then (0:Int) else 2)→Fr w [] [] w'→PQ (.returned (.int .i64 r)) w'):=hZ fun w' r hr h=>by rw [← hPQ];exact ⟨by rw [hr],h.toBelow⟩
 clear hPQ;unfold arcT arcB posB dragB at HFIN;obtain ⟨n,hn⟩:=eX a.drag.length;obtain ⟨bt',hbt'⟩:=eX (tableB a.drag.length (ptL a.drag));rw [hbt'] at HTB HFIN;rw [hn] at HTB HFIN ⊢;obtain ⟨bx,hbx⟩:=eX (withinB a.dir.x unitS);obtain ⟨by',hby⟩:=eX (withinB a.dir.y unitS)
 obtain ⟨bz,hbz⟩:=eX (withinB a.dir.z unitS);obtain ⟨bt,hbt⟩:=eX (chkB a.thrust);obtain ⟨bf,hbf⟩:=eX (chkB a.flow);obtain ⟨bd,hbd⟩:=eX (chkB a.drop);rw [hbx] at HWx HFIN;rw [hby] at HWy HFIN;rw [hbz] at HWz HFIN;rw [hbt] at HSt HFIN;rw [hbf] at HSf HFIN;rw [hbd] at HSd HFIN;obtain ⟨time,step,⟨tl,th⟩,⟨fl,fh⟩,⟨⟨dxl,dxh⟩,⟨dyl,dyh⟩,⟨dzl,dzh⟩⟩,drag,⟨dl,dh⟩⟩:=a;unfold spanV unitS at HWx HWy HWz;unfold arcV;dsimp only at HWx HWy HWz HSt HSf HSd HFIN ⊢;replace HWx:=hZ HWx;replace HWy:=hZ HWy;replace HWz:=hZ HWz;clear hd hwu hbx hby hbz hbt hbf hbd hn hbt' wa hT;obtain ⟨qb,W0,hqb,hW0,HF0⟩:=fM (Fr.start w) [(#[time,step,tl,th,fl,fh,dxl,dxh,dyl,dyh,dzl,dzh,.slice A n c,dl,dh],46)];go_enter Tryz.func59,Tryz.ntmps59;go_upto_region 1 with (fail);clear hW0 hqb;obtain ⟨g1,hg1⟩:=eX W0.heap.size;obtain ⟨w1,hw1⟩:=eX (W0.alloc (.cells #[.int .i64 0,.int .i64 0] 31));have HF2:=fE hw1 (HF0.out.alloc hg1.symm 31 #[.int .i64 0,.int .i64 0]);go_wp2_with (first
   | (refine lF (gN HF4 0) #[dxl,dxh,dyl,dyh,dzl,dzh] u_34 i_34 ?_)
   | (refine sW 1 HF2.out i_span fun w3 HF4=>?_;clear hw1 hg1))
 refine wp_loop_rounds 4 ?_
 rw [rounds_succ];obtain ⟨g5,w5,hg5,hw5,HF6⟩:=fA HF4.out #[.int .i64 0,.int .i64 0] 31;go_wp2_with (first
   | (refine lS (gN HF8 2) dxl dxh ?_)
   | (refine lF (gN HF8 1) #[.int .i64 (-4294967296),.int .i64 4294967296] u_span i_span ?_)
   | (refine sW 2 HF6.out i_span fun w7 HF8=>?_;clear hw5 hg5))
 refine mB HF8.out (HWx.out _) fun w9 HF10=>?_;cases bx with
 | false =>
  go_wp2_with fail
  exact HFIN.out _ _ (by simp) HF10.out.drop
 | true =>
  go_wp2_with fail
  rw [rounds_succ];obtain ⟨g11,w11,hg11,hw11,HF12⟩:=fA HF10.out #[.int .i64 0,.int .i64 0] 31;go_wp2_with (first
    | (refine lS (gN HF14 3) dyl dyh ?_)
    | (refine lF (gN HF14 1) #[.int .i64 (-4294967296),.int .i64 4294967296] u_span i_span ?_)
    | (refine sW 3 HF12.out i_span fun w13 HF14=>?_;clear hw11 hg11))
  refine mB HF14.out (HWy.out _) fun w15 HF16=>?_;cases by' with
  | false =>
   go_wp2_with fail
   exact HFIN.out _ _ (by simp) HF16.out.drop
  | true =>
   go_wp2_with fail
   rw [rounds_succ];obtain ⟨g17,w17,hg17,hw17,HF18⟩:=fA HF16.out #[.int .i64 0,.int .i64 0] 31;go_wp2_with (first
     | (refine lS (gN HF20 4) dzl dzh ?_)
     | (refine lF (gN HF20 1) #[.int .i64 (-4294967296),.int .i64 4294967296] u_span i_span ?_)
     | (refine sW 4 HF18.out i_span fun w19 HF20=>?_;clear hw17 hg17))
   refine mB HF20.out (HWz.out _) fun w21 HF22=>?_;cases bz with
   | false =>
    go_wp2_with fail
    exact HFIN.out _ _ (by simp) HF22.out.drop
   | true =>
    go_wp2_with fail
    rw [rounds_succ];obtain ⟨g23,w23,hg23,hw23,HF24⟩:=fA HF22.out #[tl,th,fl,fh,dl,dh] 31;go_wp2_with (first
      | (refine lS (gN HF22 0) tl th ?_)
      | (refine lS (gN HF22 0) fl fh ?_)
      | (refine lS (gN HF22 0) dl dh ?_))
    clear hw23 hg23;refine wp_loop_rounds 4 ?_
    rw [rounds_succ];obtain ⟨g25,w25,hg25,hw25,HF26⟩:=fA HF24.out #[.int .i64 0,.int .i64 0] 31;go_wp2_with (first
      | (refine lS (gN HF24 5) tl th ?_)
      | (refine lS (gN HF28 6) tl th ?_)
      | (refine sW 6 HF26.out i_span fun w27 HF28=>?_;clear hw25 hg25;obtain ⟨g29,w29,hg29,hw29,HF30⟩:=fA HF28.out #[tl,th] 31))
    clear hw29 hg29;refine mB HF30.out (HSt.out _ g29 (HF30.out.get 7 rfl)) fun w31 HF32=>?_;cases bt with
    | false =>
     go_wp2_with fail
     exact HFIN.out _ _ (by simp) HF32.out.drop
    | true =>
     by_cases hm0:tl<0
     ·have g1:decide (tl<0)=true:=decide_eq_true hm0;have HM0:=hZ hm0;clear hm0;have c33:=cA (gN HF32 6) 0;go_wp2_with fail
      clear c33;exact HFIN.out _ _ (by simp [HM0.out]) HF32.out.drop
     ·have g2:decide (tl<0)=false:=decide_eq_false hm0;have HM0:=hZ hm0;clear hm0;have c33:=cA (gN HF32 6) 0;go_wp2_with fail
      clear c33;rw [rounds_succ];obtain ⟨g34,w34,hg34,hw34,HF35⟩:=fA HF32.out #[.int .i64 0,.int .i64 0] 31;go_wp2_with (first
        | (refine lS (gN HF32 5) fl fh ?_)
        | (refine lS (gN HF37 8) fl fh ?_)
        | (refine sW 8 HF35.out i_span fun w36 HF37=>?_;clear hw34 hg34;obtain ⟨g38,w38,hg38,hw38,HF39⟩:=fA HF37.out #[fl,fh] 31))
      clear hw38 hg38;refine mB HF39.out (HSf.out _ g38 (HF39.out.get 9 rfl)) fun w40 HF41=>?_;cases bf with
      | false =>
       go_wp2_with fail
       exact HFIN.out _ _ (by simp) HF41.out.drop
      | true =>
       by_cases hm1:fl<0
       ·have g1:decide (fl<0)=true:=decide_eq_true hm1;have HM1:=hZ hm1;clear hm1;have c42:=cA (gN HF41 8) 0;go_wp2_with fail
        clear c42;exact HFIN.out _ _ (by simp [HM1.out]) HF41.out.drop
       ·have g3:decide (fl<0)=false:=decide_eq_false hm1;have HM1:=hZ hm1;clear hm1;have c42:=cA (gN HF41 8) 0;go_wp2_with fail
        clear c42;rw [rounds_succ];obtain ⟨g43,w43,hg43,hw43,HF44⟩:=fA HF41.out #[.int .i64 0,.int .i64 0] 31;go_wp2_with (first
          | (refine lS (gN HF41 5) dl dh ?_)
          | (refine lS (gN HF46 10) dl dh ?_)
          | (refine sW 10 HF44.out i_span fun w45 HF46=>?_;clear hw43 hg43;obtain ⟨g47,w47,hg47,hw47,HF48⟩:=fA HF46.out #[dl,dh] 31))
        clear hw47 hg47;refine mB HF48.out (HSd.out _ g47 (HF48.out.get 11 rfl)) fun w49 HF50=>?_;cases bd with
        | false =>
         go_wp2_with fail
         exact HFIN.out _ _ (by simp) HF50.out.drop
        | true =>
         by_cases hm2:dl<0
         ·have g1:decide (dl<0)=true:=decide_eq_true hm2;have HM2:=hZ hm2;clear hm2;have c51:=cA (gN HF50 10) 0;go_wp2_with fail
          clear c51;exact HFIN.out _ _ (by simp [HM2.out]) HF50.out.drop
         ·have g4:decide (dl<0)=false:=decide_eq_false hm2;have HM2:=hZ hm2;clear hm2;have c51:=cA (gN HF50 10) 0;go_wp2_with fail
          clear c51;rw [rounds_succ];by_cases hm3:time≤0
          ·have g6:decide (time≤0)=true:=decide_eq_true hm3;have HM3:=hZ hm3;clear hm3;have c52:=cA (gN HF50 0) 0;go_wp2_with fail
           clear c52;exact HFIN.out _ _ (by simp [HM3.out]) HF50.out.drop
          ·have g6:decide (time≤0)=false:=decide_eq_false hm3;have HM3:=hZ hm3;clear hm3;by_cases hm4:step≤0
           ·have g7:decide (step≤0)=true:=decide_eq_true hm4;have HM4:=hZ hm4;clear hm4;have c52:=cA (gN HF50 0) 0;have c53:=cA (gN HF50 0) 1;go_wp2_with fail
            clear c52 c53;exact HFIN.out _ _ (by simp [HM4.out]) HF50.out.drop
           ·have g7:decide (step≤0)=false:=decide_eq_false hm4;have HM4:=hZ hm4;clear hm4;by_cases hn0:n=0
            ·have hnp:¬ (0:Int)<(n:Int):=by omega
             have HN0:=hZ hn0;clear hn0;have c52:=cA (gN HF50 0) 0;have c53:=cA (gN HF50 0) 1;have c54:=cA (gN HF50 0) 12;go_wp2_with fail
             clear c52 c53 c54;exact HFIN.out _ _ (by simp [HM0.out,HM1.out,HM2.out,HM3.out,HM4.out,HN0.out]) HF50.out.drop
            ·have hnp:(0:Int)<(n:Int):=by omega
             have HN0:=hZ hn0;clear hn0;cases bt' with
             | false =>
              simp only [Bool.false_eq_true,if_false] at HTB;have c52:=cA (gN HF50 0) 0;have c53:=cA (gN HF50 0) 1;have c54:=cA (gN HF50 0) 12;have c55:=cA (gN HF50 0) 12;go_wp2_with fail
              clear c52 c53 c54 c55;refine mB HF50.out (HTB.out _ HF50.out.drop) fun w56 HF57=>?_;go_wp2_with fail
              exact HFIN.out _ _ (by simp [HN0.out]) HF57.out.drop
             | true =>
              simp only [if_true] at HTB;have c52:=cA (gN HF50 0) 0;have c53:=cA (gN HF50 0) 1;have c54:=cA (gN HF50 0) 12;have c55:=cA (gN HF50 0) 12;go_wp2_with fail
              clear c52 c53 c54 c55;refine mB HF50.out (HTB.out _ HF50.out.drop) fun w56 HF57=>?_;go_wp2_with fail
              exact HFIN.out _ _ (by simp [HM0.out,HM1.out,HM2.out,HM3.out,HM4.out]) HF57.out.drop
def stepsT (a:ArcD):Int × Int:=if arcT a=true then (if 4096<stepsI a then (0,3) else (stepsI a,0)) else (0,2)
theorem arcT_pos {a:ArcD} (h:arcT a=true):0<a.time∧0<a.step:=by
 unfold arcT at h;rw [Bool.and_eq_true] at h;exact arcB_pos h.1
theorem steps_any (a:ArcD) (A:Option Addr) (c:Nat) (wa:WdA a) (w:World) (hT:PtsAt w w.heap.size A a.drag.length (ptL a.drag)):Calls Tryz.prog 20 #[arcV a A a.drag.length c] w fun e w'=>e=.returned (.tuple #[.int .i64 (stepsT a).1,.int .i64 (stepsT a).2])∧Below w.heap.size w w':=by
 have ht:=wa.time;have hs:=wa.step;have HCK:=hZ (fun w' (hf:Below w.heap.size w w')=>checkArc_any a A c wa w' (hT.to hf));obtain ⟨m,hm⟩:=eX a.drag.length;rw [hm] at HCK ⊢;refine pQ fun PQ hPQ=>?_
 have HFIN:Hid (∀ w' r s,stepsT a=(r,s)→Fr w [] [] w'→PQ (.returned (.tuple #[.int .i64 r,.int .i64 s])) w'):=hZ fun w' r s hr h=>by rw [← hPQ];exact ⟨by rw [hr],h.toBelow⟩
 have hp:=@arcT_pos a;have hsi:stepsI a=(a.time - 1) / a.step+1:=rfl;unfold stepsT at HFIN;obtain ⟨n,hn⟩:=eX (stepsI a);rw [hn] at hsi HFIN;obtain ⟨b,hb⟩:=eX (arcT a);rw [hb] at HCK hp HFIN;obtain ⟨time,step,⟨tl,th⟩,⟨fl,fh⟩,⟨⟨dxl,dxh⟩,⟨dyl,dyh⟩,⟨dzl,dzh⟩⟩,drag,⟨dl,dh⟩⟩:=a;unfold I64 at ht hs;dsimp only at hp hsi ht hs;unfold arcV at HCK ⊢;dsimp only at HCK HFIN ⊢;clear hPQ hn hb hm wa hT;cases b with
 | false =>
  clear hp hsi ht hs;obtain ⟨qb,W0,hqb,hW0,HF0⟩:=fM (Fr.start w) [(#[time,step,tl,th,fl,fh,dxl,dxh,dyl,dyh,dzl,dzh,.slice A m c,dl,dh],46)];go_enter Tryz.func20,Tryz.ntmps20;go_upto_region 1 with (fail);clear hW0 hqb;go_wp2_with (refine lF (gN HF0 0) #[time,step,tl,th,fl,fh,dxl,dxh,dyl,dyh,dzl,dzh,.slice A m c,dl,dh] u_46 i_46 ?_)
  refine mB HF0.out (HCK.out _ HF0.out.toBelow) fun w1 HF2=>?_;go_wp2_with fail
  exact HFIN.out _ _ _ (by simp) HF2.out.drop
 | true =>
  obtain ⟨p1,p2⟩:=hp rfl;clear hp;have m1:IntKind.i64.wrap (time - 1)=time - 1:=IntWalk.i64_in _ (by omega)
  have m1':wrap64 (time - 1)=time - 1:=w64_in (by omega) (by omega)
  obtain ⟨q,hq⟩:=eX ((time - 1) / step);have hq0:0≤q:=by rw [← hq];exact Int.ediv_nonneg (by omega) (by omega)
  have hq1:q≤time - 1:=by rw [← hq];exact Int.ediv_le_self _ (by omega)
  have d1:(time - 1).tdiv step=q:=by rw [Int.tdiv_eq_ediv_of_nonneg (by omega)];exact hq
  have d3:(step == 0)=false:=by simp;omega
  have d4:¬ step=0:=by omega
  rw [hq] at hsi;have m2:IntKind.i64.wrap q=q:=IntWalk.i64_in _ (by omega)
  have m2':wrap64 q=q:=w64_in (by omega) (by omega)
  have m3:IntKind.i64.wrap (q+1)=n:=by rw [hsi];exact IntWalk.i64_in _ (by omega)
  have m3':wrap64 (q+1)=n:=by rw [hsi];exact w64_in (by omega) (by omega)
  clear hq hq0 hq1 ht hs hsi;by_cases h:4096<n
  ·have g:decide (4096<n)=true:=decide_eq_true h;have HH:=hZ h;clear h p1 p2;obtain ⟨qb,W0,hqb,hW0,HF0⟩:=fM (Fr.start w) [(#[time,step,tl,th,fl,fh,dxl,dxh,dyl,dyh,dzl,dzh,.slice A m c,dl,dh],46)];go_enter Tryz.func20,Tryz.ntmps20;go_upto_region 1 with (fail);clear hW0 hqb;go_wp2_with (refine lF (gN HF0 0) #[time,step,tl,th,fl,fh,dxl,dxh,dyl,dyh,dzl,dzh,.slice A m c,dl,dh] u_46 i_46 ?_)
   refine mB HF0.out (HCK.out _ HF0.out.toBelow) fun w1 HF2=>?_;have c3:=cA (gN HF2 0) 0;have c4:=cA (gN HF2 0) 1;go_wp2_with fail
   clear c3 c4;exact HFIN.out _ _ _ (by simp [HH.out]) HF2.out.drop
  ·have g:decide (4096<n)=false:=decide_eq_false h;have HH:=hZ h;clear h p1 p2;obtain ⟨qb,W0,hqb,hW0,HF0⟩:=fM (Fr.start w) [(#[time,step,tl,th,fl,fh,dxl,dxh,dyl,dyh,dzl,dzh,.slice A m c,dl,dh],46)];go_enter Tryz.func20,Tryz.ntmps20;go_upto_region 1 with (fail);clear hW0 hqb;go_wp2_with (refine lF (gN HF0 0) #[time,step,tl,th,fl,fh,dxl,dxh,dyl,dyh,dzl,dzh,.slice A m c,dl,dh] u_46 i_46 ?_)
   refine mB HF0.out (HCK.out _ HF0.out.toBelow) fun w1 HF2=>?_;have c3:=cA (gN HF2 0) 0;have c4:=cA (gN HF2 0) 1;go_wp2_with fail
   clear c3 c4;exact HFIN.out _ _ _ (by simp [HH.out]) HF2.out.drop
end Go.Proofs.YtmkoegljnebdiaaGreat
namespace Go.Proofs.YtmkoegljnebdiaaGreat
open Go.RowKit Go.Shelf
set_option maxRecDepth 100000
set_option maxHeartbeats 16000000
attribute [local go_sem] Oper.semAt_some

def wholeN (a:ArcD):Nat:=(a.time / a.step).toNat
def restI (a:ArcD):Int:=a.time % a.step
def countN (a:ArcD):Nat:=if restI a=0 then wholeN a else wholeN a+1
def lenI (n:Nat) (step rest:Int) (i:Nat):Int:=if i<n then step else rest
def lensL (a:ArcD):List Int:=(List.range (countN a)).map (lenI (wholeN a) a.step (restI a))
theorem count_steps {a:ArcD} (h1:0<a.time) (h2:0<a.step):(countN a:Int)=stepsI a:=by
 have e:=Int.mul_ediv_add_emod a.time a.step;have m1:=Int.emod_nonneg a.time (show a.step ≠ 0 by omega)
 have m2:=Int.emod_lt_of_pos a.time h2;have q0:=Int.ediv_nonneg (a:=a.time) (b:=a.step) (by omega) (by omega)
 unfold countN restI wholeN stepsI;obtain ⟨q,hq⟩:=eX (a.time / a.step);obtain ⟨r,hr⟩:=eX (a.time % a.step);rw [hq] at e q0 ⊢;rw [hr] at e m1 m2 ⊢;by_cases h:r=0
 ·rw [if_pos h];have hq1:0<q:=by
   rcases Int.lt_or_le 0 q with k | k
   ·exact k
   ·have:q=0:=by omega
    subst this;omega
  have:(a.time - 1) / a.step=q - 1:=by
   rw [← e,h];rw [show a.step * q+0 - 1=(a.step - 1)+a.step * (q - 1) by rw [Int.mul_sub];omega,Int.add_mul_ediv_left _ _ (by omega),Int.ediv_eq_zero_of_lt (by omega) (by omega)]
   omega
  omega
 ·rw [if_neg h];have:(a.time - 1) / a.step=q:=by
   rw [← e];rw [show a.step * q+r - 1=(r - 1)+a.step * q by omega,Int.add_mul_ediv_left _ _ (by omega),Int.ediv_eq_zero_of_lt (by omega) (by omega)]
   omega
  omega
theorem len_range {a:ArcD} (h2:0<a.step) (w2:I64 a.step) (i:Nat):I64 (lenI (wholeN a) a.step (restI a) i):=by
 have m1:=Int.emod_nonneg a.time (show a.step ≠ 0 by omega)
 have m2:=Int.emod_lt_of_pos a.time h2;unfold lenI restI;unfold I64 at *;split <;> omega
theorem lens2_in (l B1 B2 n N:Nat) (time step rest:Int) (hn:n≤4096) (hst:0<step) (hq:time.tdiv step=n) (hr:time.tmod step=rest) (h0r:0≤rest) (hr64:I64 rest) (hN:N=if rest=0 then n else n+1) (J Jx:List (Fin N)→World→Prop)
  (hY:∀ pre (x:Fin N) W,J pre W→pre.length<N→YieldAt Fence.wide 4 Tryz.prog l #[.int .i64 (lenI n step rest x.val)] W fun e W' =>
   (e=.returned (.bool true)∧J (pre ++ [x]) W'∧KeepL [B1,B2] W W') ∨ (e=.returned (.bool false)∧Jx (pre ++ [x]) W'))
  (W:World) (h1:W.cell? ⟨B1,0,none⟩=some (.int .i64 time)) (h2:W.cell? ⟨B1,1,none⟩=some (.int .i64 step)) (h3:W.cell? ⟨B2,0,none⟩=some (.bool false)) (h0:J [] W) :
  CallsIn Fence.wide 5 Tryz.prog 126 #[.func (.yield l) #[] #[],.pointer (some ⟨B1,0,none⟩),.pointer (some ⟨B2,0,none⟩)] W fun e W'=>(∃ v,e=.returned v) ∧
   ((∃ ys,Fin.vals ys=List.range N∧J ys W') ∨ (∃ pre,Fin.vals pre <+: List.range N∧pre ≠ []∧Jx pre W')):=by
 have hnN:n≤N:=by rw [hN];split <;> omega
 have d3:(step == 0)=false:=by simp;omega
 have d4:¬ step=0:=by omega
 have m2:IntKind.i64.wrap (n:Int)=n:=IntWalk.i64_in _ (by omega)
 have m2':wrap64 (n:Int)=n:=w64_in (by omega) (by omega)
 have m3:IntKind.i64.wrap rest=rest:=IntWalk.i64_in _ hr64;have m3':wrap64 rest=rest:=w64_in (by unfold I64 at hr64;omega) (by unfold I64 at hr64;omega)
 refine callsIn_of_wp Tryz.func126 rfl trivial ?_ rfl
 simp only [Tryz.ntmps126,List.size_toArray,List.length_cons,List.length_nil,Nat.reduceAdd,Nat.reduceSub,Array.replicate_succ,Array.replicate_zero,List.push_toArray,List.append_toArray,List.nil_append,List.cons_append];have HNN:=hZ hN;have HR64:=hZ hr64;clear hst hN hr64;gi_wp2
 refine ⟨fun _ h=>by simp at h,?_⟩
 gi_wp2
 gi_loopw [33] (fun p wr=>∃ (k:Nat) (ys:List (Fin N)),k≤n∧p=.int .i64 (k:Int)∧Hid (Fin.vals ys=List.range k∧J ys wr∧KeepL [B1,B2] W wr))
  (fun p _=>n - (intOf p).toNat)
 case atStart=>exact ⟨0,[],Nat.zero_le _,rfl,hZ ⟨rfl,h0,KeepL.refl _ _⟩⟩
 case round =>
  obtain ⟨k,ys,hk,rfl,hs'⟩:=hrel;have f1:wr.cell? ⟨B1,0,none⟩=some (.int .i64 time):=(hs'.out.2.2.cell (p:=⟨B1,0,none⟩) (by simp)).trans h1
  have f2:wr.cell? ⟨B1,1,none⟩=some (.int .i64 step):=(hs'.out.2.2.cell (p:=⟨B1,1,none⟩) (by simp)).trans h2
  have f3:wr.cell? ⟨B2,0,none⟩=some (.bool false):=(hs'.out.2.2.cell (p:=⟨B2,0,none⟩) (by simp)).trans h3
  have hyl:ys.length=k:=by
   have h3:=congrArg List.length hs'.out.1;rw [List.length_range] at h3;unfold Fin.vals at h3;rwa [List.length_map] at h3
  by_cases hlt:k<n
  ·have hki:(k:Int)<(n:Int):=by omega
   have h0k:(0:Int)≤(k:Int):=by omega
   have hkN:k<N:=by omega
   have hyy:=hY ys ⟨k,hkN⟩ wr hs'.out.2.1 (by omega)
   rw [show lenI n step rest (⟨k,hkN⟩:Fin N).val=step from if_pos hlt] at hyy
   obtain ⟨fn,tmps,assign,body,hy,hR⟩:=hyy;try dsimp only at hy hR
   have HTK:Hid (Fin.vals (ys ++ [⟨k,hkN⟩])=List.range (k+1)):=hZ (by
    rw [List.range_succ,← hs'.out.1];simp [Fin.vals])
   have hR':=hR.mono (R':=fun e W'=>∃ b,e=.returned (.bool b)∧Hid ((b=true∧J (ys ++ [⟨k,hkN⟩]) W'∧KeepL [B1,B2] wr W') ∨ (b=false∧Jx (ys ++ [⟨k,hkN⟩]) W'))) (by
    rintro e W' (⟨rfl,h1,h2⟩ | ⟨rfl,h1⟩)
    ·exact ⟨true,rfl,hZ (.inl ⟨rfl,h1,h2⟩)⟩
    ·exact ⟨false,rfl,hZ (.inr ⟨rfl,h1⟩)⟩)
   have HBW:Hid (∀ W',KeepL [B1,B2] wr W'→KeepL [B1,B2] W W'):=hZ fun W' hb=>hs'.out.2.2.trans hb;have HLT:=hZ (And.intro hlt hnN);clear hR hY hs' hyl;gi_wp2
   refine hR'.mono ?_
   clear hR';rintro e W3 ⟨b,rfl,hb3⟩;cases b with
   | true =>
    have hb4:J (ys ++ [⟨k,hkN⟩]) W3∧KeepL [B1,B2] wr W3:=by
     rcases hb3.out with ⟨_,h3,h4⟩ | ⟨h3,_⟩
     ·exact ⟨h3,h4⟩
     ·cases h3
    have HB4:=hZ hb4;clear hb4;gi_wp2
    go_roundw
    case rel=>exact ⟨k+1,_,by have:=HLT.out;omega,by go_num,hZ ⟨HTK.out,HB4.out.1,HBW.out _ HB4.out.2⟩⟩
    case measure=>simp [intOf];omega
   | false =>
    gi_wp2
    refine bodyPost_ret (results_none rfl _ _ _) rfl ⟨⟨_,rfl⟩,.inr ⟨ys ++ [⟨k,hkN⟩],?_,?_,?_⟩⟩
    ·rw [HTK.out];have:List.range (k+1)=(List.range N).take (k+1):=by rw [List.take_range];congr 1;have:=HLT.out;omega
     rw [this];exact List.take_prefix _ _
    ·simp
    ·rcases hb3.out with ⟨h3,_⟩ | ⟨_,h3⟩
     ·cases h3
     ·exact h3
  ·obtain rfl:k=n:=by omega
   have hneg:¬ (k:Int)<(k:Int):=by omega
   by_cases hr0:rest=0
   ·have hNk:N=k:=by rw [HNN.out,if_pos hr0]
    have hrp:¬ 0<rest:=by omega
    have HJ:=hZ (show Fin.vals ys=List.range N∧J ys wr from ⟨hs'.out.1.trans (congrArg List.range hNk.symm),hs'.out.2.1⟩)
    clear hNk hs' hY hyl hr0;gi_wp2
    go_end0
    exact ⟨⟨_,rfl⟩,.inl ⟨ys,HJ.out.1,HJ.out.2⟩⟩
   ·have hNk:N=k+1:=by rw [HNN.out,if_neg hr0]
    have hrp:0<rest:=by omega
    have hkN:k<N:=by omega
    have hyy:=hY ys ⟨k,hkN⟩ wr hs'.out.2.1 (by omega)
    rw [show lenI k step rest (⟨k,hkN⟩:Fin N).val=rest from if_neg (Nat.lt_irrefl k)] at hyy
    obtain ⟨fn,tmps,assign,body,hy,hR⟩:=hyy;try dsimp only at hy hR
    have HTK:Hid (Fin.vals (ys ++ [⟨k,hkN⟩])=List.range N):=hZ (by
     refine Eq.trans ?_ (congrArg List.range hNk.symm)
     rw [List.range_succ,← hs'.out.1];simp [Fin.vals])
    have hR':=hR.mono (R':=fun e W'=>∃ b,e=.returned (.bool b)∧Hid ((b=true∧J (ys ++ [⟨k,hkN⟩]) W'∧KeepL [B1,B2] wr W') ∨ (b=false∧Jx (ys ++ [⟨k,hkN⟩]) W'))) (by
     rintro e W' (⟨rfl,h1,h2⟩ | ⟨rfl,h1⟩)
     ·exact ⟨true,rfl,hZ (.inl ⟨rfl,h1,h2⟩)⟩
     ·exact ⟨false,rfl,hZ (.inr ⟨rfl,h1⟩)⟩)
    have HNK:=hZ hNk;clear hR hY hs' hyl hr0 hNk;gi_wp2
    refine hR'.mono ?_
    clear hR';rintro e W3 ⟨b,rfl,hb3⟩;gi_wp2
    go_end0
    refine ⟨⟨_,rfl⟩,?_⟩
    rcases hb3.out with ⟨_,h3,_⟩ | ⟨_,h3⟩
    ·exact .inl ⟨_,HTK.out,h3⟩
    ·exact .inr ⟨_,by rw [HTK.out];exact List.prefix_refl _,by simp,h3⟩
theorem lens2_stops (B1 B2:Nat) (a:ArcD) (hc:countN a≤4096) (h1:0<a.time) (h2:0<a.step) (w2:I64 a.step) (w:World) (hb1:B1<w.heap.size) (hb2:B2<w.heap.size) (c1:w.cell? ⟨B1,0,none⟩=some (.int .i64 a.time)) (c2:w.cell? ⟨B1,1,none⟩=some (.int .i64 a.step)) (c3:w.cell? ⟨B2,0,none⟩=some (.bool false)) :
  SeqStopsK Fence.wide 5 Tryz.prog 126 #[.pointer (some ⟨B1,0,none⟩),.pointer (some ⟨B2,0,none⟩)] (fun x:Fin (countN a)=>#[Value.int .i64 (lenI (wholeN a) a.step (restI a) x.val)]) (KeepL [B1,B2])
   (fun ys=>Fin.vals ys=List.range (countN a)) (fun pre=>Fin.vals pre <+: List.range (countN a)∧pre ≠ []) (countN a) w:=fun l J Jx W hW _ _ hY h0=>by
 have hk:KeepL [B1,B2] w W:=KeepL.below hW (by simp;exact ⟨hb1,hb2⟩)
 have q0:=Int.ediv_nonneg (a:=a.time) (b:=a.step) (by omega) (by omega)
 have m1:=Int.emod_nonneg a.time (show a.step ≠ 0 by omega)
 have m2:=Int.emod_lt_of_pos a.time h2;have hw:(wholeN a:Int)=a.time / a.step:=by unfold wholeN;omega
 refine (lens2_in l B1 B2 (wholeN a) (countN a) a.time a.step (restI a) (by unfold countN at hc;split at hc <;> omega) h2 (by rw [Int.tdiv_eq_ediv_of_nonneg (by omega),hw]) (by rw [Int.tmod_eq_emod_of_nonneg (by omega)];rfl) m1 (by unfold restI I64;unfold I64 at w2;omega) rfl J Jx hY W ((hk.cell (p:=⟨B1,0,none⟩) (by simp)).trans c1) ((hk.cell (p:=⟨B1,1,none⟩) (by simp)).trans c2) ((hk.cell (p:=⟨B2,0,none⟩) (by simp)).trans c3) h0).mono ?_
 rintro e W' ⟨he,⟨ys,h1,h2⟩ | ⟨pre,h1,h2,h3⟩⟩
 ·exact ⟨he,.inl ⟨ys,h1,h2⟩⟩
 ·exact ⟨he,.inr ⟨pre,⟨h1,h2⟩,h3⟩⟩
/-! Runs. -/
def stepR (G:StateD→Int→(StateD × TubeD) × Int) (r:(StateD × List TubeD) × Int) (h:Int):(StateD × List TubeD) × Int :=
 if r.2=0 then (if (G r.1.1 h).2=0 then (((G r.1.1 h).1.1,r.1.2 ++ [(G r.1.1 h).1.2]),0) else ((noSt,[]),(G r.1.1 h).2)) else r
def runS (G:StateD→Int→(StateD × TubeD) × Int) (s:StateD) (l:List Int):(StateD × List TubeD) × Int:=l.foldl (stepR G) ((s,[]),0)
theorem runS_snoc (G:StateD→Int→(StateD × TubeD) × Int) (s:StateD) (l:List Int) (h:Int):runS G s (l ++ [h])=stepR G (runS G s l) h:=by
 unfold runS;rw [List.foldl_append];rfl
theorem stepR_stop {G:StateD→Int→(StateD × TubeD) × Int} {r:(StateD × List TubeD) × Int} (h:r.2 ≠ 0):∀ m,List.foldl (stepR G) r m=r
 | []=>rfl
 | x :: m=>by
  have e:stepR G r x=r:=by unfold stepR;rw [if_neg h]
  rw [List.foldl_cons,e];exact stepR_stop h m
theorem runS_stop (G:StateD→Int→(StateD × TubeD) × Int) (s:StateD) {l:List Int} (h:(runS G s l).2 ≠ 0) (m:List Int):runS G s (l ++ m)=runS G s l:=by
 unfold runS at h ⊢;rw [List.foldl_append,stepR_stop h]
theorem snocInd {α:Type} {P:List α→Prop} (h0:P []) (h1:∀ l x,P l→P (l ++ [x])) (l:List α):P l:=by
 have:∀ l:List α,P l.reverse:=fun l=>by
  induction l with
  | nil=>exact h0
  | cons x l ih=>rw [List.reverse_cons];exact h1 _ _ ih
 have k:=this l.reverse;rwa [List.reverse_reverse] at k
theorem runS_len (G:StateD→Int→(StateD × TubeD) × Int) (s:StateD) (l:List Int):(runS G s l).2=0→(runS G s l).1.2.length=l.length:=by
 refine snocInd (P:=fun l=>(runS G s l).2=0→(runS G s l).1.2.length=l.length) (fun _=>rfl) (fun l x ih h=>?_) l
 rw [runS_snoc] at h ⊢;unfold stepR at h ⊢;by_cases h1:(runS G s l).2=0
 ·rw [if_pos h1] at h ⊢;by_cases h2:(G (runS G s l).1.1 x).2=0
  ·rw [if_pos h2];simp [ih h1]
  ·rw [if_neg h2] at h;exact absurd h h2
 ·rw [if_neg h1] at h;exact absurd h h1
theorem runS_wd {G:StateD→Int→(StateD × TubeD) × Int} {s:StateD} (hs:I64W s) (hG:∀ s h,I64W s→I64W (G s h).1.1) (l:List Int):(runS G s l).2=0→I64W (runS G s l).1.1:=by
 refine snocInd (P:=fun l=>(runS G s l).2=0→I64W (runS G s l).1.1) (fun _=>hs) (fun l x ih h=>?_) l
 rw [runS_snoc] at h ⊢;unfold stepR at h ⊢;by_cases h1:(runS G s l).2=0
 ·rw [if_pos h1] at h ⊢;by_cases h2:(G (runS G s l).1.1 x).2=0
  ·rw [if_pos h2];exact hG _ _ (ih h1)
  ·rw [if_neg h2] at h;exact absurd h h2
 ·rw [if_neg h1] at h;exact absurd h h1
theorem runS_bad (G:StateD→Int→(StateD × TubeD) × Int) (s:StateD) (l:List Int):(runS G s l).2 ≠ 0→(runS G s l).1=(noSt,[]):=by
 refine snocInd (P:=fun l=>(runS G s l).2 ≠ 0→(runS G s l).1=(noSt,[])) (fun h=>absurd rfl h) (fun l x ih h=>?_) l
 rw [runS_snoc] at h ⊢;unfold stepR at h ⊢;by_cases h1:(runS G s l).2=0
 ·rw [if_pos h1] at h ⊢;by_cases h2:(G (runS G s l).1.1 x).2=0
  ·rw [if_pos h2] at h;exact absurd rfl h
  ·rw [if_neg h2]
 ·rw [if_neg h1] at h ⊢;exact ih h
end Go.Proofs.YtmkoegljnebdiaaGreat
namespace Go.Proofs.YtmkoegljnebdiaaGreat
open Go.RowKit
set_option maxRecDepth 100000
set_option maxHeartbeats 16000000

structure ArcR where
 a:ArcD
 A:Option Addr
 c:Nat
def arcA (r:ArcR):Array Value:=#[r.a.time,r.a.step,r.a.thrust.lo,r.a.thrust.hi,r.a.flow.lo,r.a.flow.hi,r.a.dir.x.lo,r.a.dir.x.hi,r.a.dir.y.lo,r.a.dir.y.hi,r.a.dir.z.lo,r.a.dir.z.hi,.slice r.A r.a.drag.length r.c,r.a.drop.lo,r.a.drop.hi]
def ArcsAt (w:World) (B:Nat) (A:Option Addr) (n:Nat) (v:Nat→ArcR):Prop:=Sl w B 15 A n (fun i j=>(arcA (v i)).getD j undef)∧∀ i,i<n→PtsAt w B (v i).A (v i).a.drag.length (ptL (v i).a.drag)
theorem ArcsAt.below {w w':World} {B n:Nat} {A:Option Addr} {v:Nat→ArcR} (h:ArcsAt w B A n v) (hb:Below B w w'):ArcsAt w' B A n v:=⟨h.1.below hb,fun i hi=>Sl.below (h.2 i hi) hb⟩
theorem ArcsAt.to {w w':World} {n:Nat} {A:Option Addr} {v:Nat→ArcR} (h:ArcsAt w w.heap.size A n v) (hb:Below w.heap.size w w'):ArcsAt w' w'.heap.size A n v :=
 ⟨(h.1.below hb).mono hb.size,fun i hi=>(h.2 i hi).to hb⟩
theorem ArcsAt.cells {w:World} {n:Nat} {A:Option Addr} {v:Nat→ArcR} (h:ArcsAt w w.heap.size A n v) {b off:Nat} (hA:A=some ⟨b,off,none⟩) {k:Nat} (hk:k<n) {N:List Ent} {w':World} (hf:Fr w [] N w') :
  ∀ j u,(arcA (v k))[j]?=some u→w'.cell? ⟨b,off+k * 15+j,none⟩=some u:=fun j u hj=>by
 obtain ⟨b',off',e,_,hc⟩:=(h.1.below hf.toBelow).2 (by omega)
 rw [hA] at e;injection e with e;injection e with e1 e2
 subst e1 e2;have hj15:j<15:=by have:=(Array.getElem?_eq_some_iff.1 hj).1;exact this
 rw [hc k hk j hj15];show some ((arcA (v k)).getD j undef)=some u
 rw [Array.getD_eq_getD_getElem?,hj];rfl
def sumN (v:Nat→ArcR):Nat→Int
 | 0=>0
 | k+1=>sumN v k+stepsI (v k).a
theorem stepsI_pos {a:ArcD} (h:arcT a=true):0<stepsI a:=by
 obtain ⟨h1,h2⟩:=arcT_pos h;unfold stepsI;have:=Int.ediv_nonneg (a:=a.time - 1) (b:=a.step) (by omega) (by omega)
 omega
structure GoodF (p:PlanetD) (n:Nat) (v:Nat→ArcR) (s:StateD):Prop where
 p:planetB p=true
 s:stateB s=true
 arcs:∀ i,i<n→arcT (v i).a=true
 len:n≤32
 sum:sumN v n≤4096
theorem checkL_any (p:PlanetD) (s:StateD) (A:Option Addr) (n c:Nat) (v:Nat→ArcR) (wv:∀ i,WdA (v i).a) (w:World) (hA:ArcsAt w w.heap.size A n v) :
  Calls Tryz.prog 22 #[planetV p,.slice A n c,stateV s] w fun e w'=>∃ r,e=.returned (.int .i64 r)∧(r=0→GoodF p n v s)∧Below w.heap.size w w':=by
 have HCP:=hZ (fun w=>checkPlanet_any p w);have HCS:=hZ (fun w=>checkState_any s w);have HAA:=hZ hA;have HWV:=hZ wv;refine pQ fun PQ hPQ=>?_
 have HERR:Hid (∀ w' r,r ≠ 0→Fr w [] [] w'→PQ (.returned (.int .i64 r)) w'):=hZ fun w' r hr h=>by rw [← hPQ];exact ⟨r,rfl,fun e=>absurd e hr,h.toBelow⟩
 have HOK:Hid (∀ w',GoodF p n v s→Fr w [] [] w'→PQ (.returned (.int .i64 0)) w'):=hZ fun w' hg h=>by rw [← hPQ];exact ⟨0,rfl,fun _=>hg,h.toBelow⟩
 obtain ⟨bp,hbp⟩:=eX (planetB p);obtain ⟨bs,hbs⟩:=eX (stateB s);rw [hbp] at HCP;rw [hbs] at HCS;have HBP:=hZ hbp;have HBS:=hZ hbs;have hn63:=hA.1.1;obtain ⟨⟨mul,muh⟩,⟨rl,rh⟩,⟨ol,oh⟩,⟨sl,sh⟩,⟨⟨pxl,pxh⟩,⟨pyl,pyh⟩,⟨pzl,pzh⟩⟩⟩:=p;obtain ⟨st,⟨⟨axl,axh⟩,⟨ayl,ayh⟩,⟨azl,azh⟩⟩,⟨⟨bxl,bxh⟩,⟨byl,byh⟩,⟨bzl,bzh⟩⟩,⟨sml,smh⟩⟩:=s;unfold planetV at HCP ⊢;unfold stateV at HCS ⊢;dsimp only at HCP HCS ⊢;clear hPQ hbp hbs hA wv;cases bp with
 | false =>
  simp only [Bool.false_eq_true,if_false] at HCP;obtain ⟨qb,W0,hqb,hW0,HF0⟩:=fM (Fr.start w) [(#[mul,muh,rl,rh,ol,oh,sl,sh,pxl,pxh,pyl,pyh,pzl,pzh],36),(#[st,axl,axh,ayl,ayh,azl,azh,bxl,bxh,byl,byh,bzl,bzh,sml,smh],38)];go_enter Tryz.func22,Tryz.ntmps22;go_upto_region 1 with (fail);clear hW0 hqb;go_wp2_with (refine lF (gN HF0 0) #[mul,muh,rl,rh,ol,oh,sl,sh,pxl,pxh,pyl,pyh,pzl,pzh] u_36 i_36 ?_)
  refine mB HF0.out (HCP.out _) fun w1 HF2=>?_;go_wp2_with fail
  exact HERR.out _ 2 (by decide) HF2.out.drop
 | true =>
  simp only [if_true] at HCP;cases bs with
  | false =>
   simp only [Bool.false_eq_true,if_false] at HCS;obtain ⟨qb,W0,hqb,hW0,HF0⟩:=fM (Fr.start w) [(#[mul,muh,rl,rh,ol,oh,sl,sh,pxl,pxh,pyl,pyh,pzl,pzh],36),(#[st,axl,axh,ayl,ayh,azl,azh,bxl,bxh,byl,byh,bzl,bzh,sml,smh],38)];go_enter Tryz.func22,Tryz.ntmps22;go_upto_region 1 with (fail);clear hW0 hqb;go_wp2_with (refine lF (gN HF0 0) #[mul,muh,rl,rh,ol,oh,sl,sh,pxl,pxh,pyl,pyh,pzl,pzh] u_36 i_36 ?_)
   refine mB HF0.out (HCP.out _) fun w1 HF2=>?_;go_wp2_with (refine wpLoadFG rfl 38 _ rfl (qb+1) 0 rfl _ _ (HF2.out.get 1 rfl) #[st,axl,axh,ayl,ayh,azl,azh,bxl,bxh,byl,byh,bzl,bzh,sml,smh] rfl _ u_38 rfl i_38 ?_)
   refine mB HF2.out (HCS.out _) fun w3 HF4=>?_;go_wp2_with fail
   exact HERR.out _ 2 (by decide) HF4.out.drop
  | true =>
   simp only [if_true] at HCS;obtain ⟨qb,W0,hqb,hW0,HF0⟩:=fM (Fr.start w) [(#[mul,muh,rl,rh,ol,oh,sl,sh,pxl,pxh,pyl,pyh,pzl,pzh],36),(#[st,axl,axh,ayl,ayh,azl,azh,bxl,bxh,byl,byh,bzl,bzh,sml,smh],38)];go_enter Tryz.func22,Tryz.ntmps22;go_upto_region 1 with (fail);clear hW0 hqb;go_wp2_with (refine lF (gN HF0 0) #[mul,muh,rl,rh,ol,oh,sl,sh,pxl,pxh,pyl,pyh,pzl,pzh] u_36 i_36 ?_)
   refine mB HF0.out (HCP.out _) fun w1 HF2=>?_;go_wp2_with (refine wpLoadFG rfl 38 _ rfl (qb+1) 0 rfl _ _ (HF2.out.get 1 rfl) #[st,axl,axh,ayl,ayh,azl,azh,bxl,bxh,byl,byh,bzl,bzh,sml,smh] rfl _ u_38 rfl i_38 ?_)
   refine mB HF2.out (HCS.out _) fun w3 HF4=>?_;go_wp2_with fail
   go_loopw [25] (fun iv wr=>∃ k:Nat,k≤n∧iv=.int .i64 k∧Hid (Fr w [] [(qb,36,iC [mul,muh,rl,rh,ol,oh,sl,sh,pxl,pxh,pyl,pyh,pzl,pzh]),(qb+1,38,iC [st,axl,axh,ayl,ayh,azl,azh,bxl,bxh,byl,byh,bzl,bzh,sml,smh])] wr∧∀ j,j<k→arcT (v j).a=true)) (fun iv _=>n - (intOf iv).toNat)
   case atStart=>exact ⟨0,Nat.zero_le _,rfl,hZ ⟨HF4.out,fun j hj=>absurd hj (Nat.not_lt_zero j)⟩⟩
   case round =>
    obtain ⟨wo,rfl⟩:∃ wo:World,wo=wr:=⟨_,rfl⟩;obtain ⟨k,hk,rfl,hs⟩:=hrel;have HF:=hZ hs.out.1;have HLS:=hZ hs.out.2;clear hs HF4;have h0k:(0:Int)≤(k:Int):=by omega
    by_cases hlt:k<n
    ·have hki:(k:Int)<(n:Int):=by omega
     obtain ⟨b,off,rfl,-,-⟩:=HAA.out.1.2 (by omega)
     have hcs:=HAA.out.cells rfl hlt HF.out;have HCA:=fun w' (hb:Below w.heap.size w w')=>checkArc_any (v k).a (v k).A (v k).c (HWV.out k) w' ((HAA.out.2 k hlt).to hb);obtain ⟨ba,hba⟩:=eX (arcT (v k).a);rw [hba] at HCA;have HBA:=hZ hba;clear hba;obtain ⟨⟨⟨time,step,⟨tl,th⟩,⟨fl,fh⟩,⟨⟨dxl,dxh⟩,⟨dyl,dyh⟩,⟨dzl,dzh⟩⟩,drag,⟨dl,dh⟩⟩,A1,c1⟩,hvk⟩:=eX (v k);have HVK:=hZ hvk;simp only [hvk] at hcs HCA;unfold arcV at HCA;dsimp only [arcA] at hcs HCA;obtain ⟨n1,hn1⟩:=eX drag.length;rw [hn1] at hcs HCA;have HCX:=hZ hcs;replace HCA:=hZ HCA;clear hvk hcs hn1;obtain ⟨g5,w5,hg5,hw5,HF6⟩:=fA HF.out #[(0:Int),(0:Int),(0:Int),(0:Int),(0:Int),(0:Int),(0:Int),(0:Int),(0:Int),(0:Int),(0:Int),(0:Int),.slice none 0 0,(0:Int),(0:Int)] 46;go_wp2_with (first
       | (refine wpLoadAt rfl 46 _ rfl b (off+k * 15) rfl #[time,step,tl,th,fl,fh,dxl,dxh,dyl,dyh,dzl,dzh,.slice A1 n1 c1,dl,dh] _ HCX.out u_46 rfl i_46 ?_)
       | (refine lF (gN HF8 2) #[time,step,tl,th,fl,fh,dxl,dxh,dyl,dyh,dzl,dzh,.slice A1 n1 c1,dl,dh] u_46 i_46 ?_)
       | (refine sW 2 HF6.out i_46 fun w7 HF8=>?_;clear hw5 hg5))
     cases ba with
     | false =>
      simp only [Bool.false_eq_true,if_false] at HCA;refine mB HF8.out (HCA.out _ HF8.out.toBelow) fun w9 HF10=>?_;go_wp2_with fail
      exact HERR.out _ 2 (by decide) HF10.out.drop
     | true =>
      simp only [if_true] at HCA;refine mB HF8.out (HCA.out _ HF8.out.toBelow) fun w9 HF10=>?_;go_wp2_with fail
      go_roundw
      case rel=>exact ⟨k+1,by omega,by go_num,hZ ⟨HF10.out.sub (List.sublist_append_left [_,_] _),fun j hj=>by
       by_cases ej:j=k
       ·subst ej;exact HBA.out
       ·exact HLS.out j (by omega)⟩⟩
      case measure=>simp [intOf];omega
    ·obtain rfl:n=k:=by omega
     have hki:¬ (n:Int)<(n:Int):=by omega
     by_cases h32:32<n
     ·have h32i:(32:Int)<(n:Int):=by omega
      go_wp2_with fail
      exact HERR.out _ 3 (by decide) HF.out.drop
     ·have h32i:¬ (32:Int)<(n:Int):=by omega
      go_wp2_with fail
      go_loopw [10,40] (fun sv iv wr=>∃ k:Nat,k≤n∧iv=.int .i64 k∧∃ sm:Int,sv=.int .i64 sm∧0≤sm∧sm≤4096∧Hid (Fr w [] [(qb,36,iC [mul,muh,rl,rh,ol,oh,sl,sh,pxl,pxh,pyl,pyh,pzl,pzh]),(qb+1,38,iC [st,axl,axh,ayl,ayh,azl,azh,bxl,bxh,byl,byh,bzl,bzh,sml,smh])] wr∧sm=sumN v k)) (fun _ iv _=>n - (intOf iv).toNat)
      case atStart=>exact ⟨0,Nat.zero_le _,rfl,0,rfl,by decide,by decide,hZ ⟨HF.out,rfl⟩⟩
      case round =>
       obtain ⟨wi,rfl⟩:∃ wi:World,wi=wr:=⟨_,rfl⟩;obtain ⟨k,hk',rfl,sm,rfl,hs0,hs1,hs⟩:=hrel;have HF2:=hZ hs.out.1;have HSM:=hZ hs.out.2;clear hs HF;have h0k':(0:Int)≤(k:Int):=by omega
       by_cases hlt:k<n
       ·have hki':(k:Int)<(n:Int):=by omega
        obtain ⟨b,off,rfl,-,-⟩:=HAA.out.1.2 (by omega)
        have hcs:=HAA.out.cells rfl hlt HF2.out;have hok:=HLS.out k hlt;have HCA:=fun w' (hb:Below w.heap.size w w')=>steps_any (v k).a (v k).A (v k).c (HWV.out k) w' ((HAA.out.2 k hlt).to hb);have hsp:=stepsI_pos hok;have HSS:Hid (sumN v (k+1)=sm+stepsI (v k).a):=hZ (by rw [sumN,HSM.out])
        unfold stepsT at HCA;rw [if_pos hok] at HCA;obtain ⟨q,hq⟩:=eX (stepsI (v k).a);rw [hq] at HCA hsp HSS;clear hq hok;obtain ⟨⟨⟨time,step,⟨tl,th⟩,⟨fl,fh⟩,⟨⟨dxl,dxh⟩,⟨dyl,dyh⟩,⟨dzl,dzh⟩⟩,drag,⟨dl,dh⟩⟩,A1,c1⟩,hvk⟩:=eX (v k);have HVK:=hZ hvk;simp only [hvk] at hcs HCA;unfold arcV at HCA;dsimp only [arcA] at hcs HCA;obtain ⟨n1,hn1⟩:=eX drag.length;rw [hn1] at hcs HCA;have HCX:=hZ hcs;replace HCA:=hZ HCA;clear hvk hcs hn1;by_cases hq:4096<q
        ·rw [if_pos hq] at HCA;dsimp only at HCA;clear hq hsp;obtain ⟨g5,w5,hg5,hw5,HF6⟩:=fA HF2.out #[(0:Int),(0:Int),(0:Int),(0:Int),(0:Int),(0:Int),(0:Int),(0:Int),(0:Int),(0:Int),(0:Int),(0:Int),.slice none 0 0,(0:Int),(0:Int)] 46;go_wp2_with (first
           | (refine wpLoadAt rfl 46 _ rfl b (off+k * 15) rfl #[time,step,tl,th,fl,fh,dxl,dxh,dyl,dyh,dzl,dzh,.slice A1 n1 c1,dl,dh] _ HCX.out u_46 rfl i_46 ?_)
           | (refine lF (gN HF8 2) #[time,step,tl,th,fl,fh,dxl,dxh,dyl,dyh,dzl,dzh,.slice A1 n1 c1,dl,dh] u_46 i_46 ?_)
           | (refine sW 2 HF6.out i_46 fun w7 HF8=>?_;clear hw5 hg5))
         refine mB HF8.out (HCA.out _ HF8.out.toBelow) fun w9 HF10=>?_;go_wp2_with fail
         exact HERR.out _ 3 (by decide) HF10.out.drop
        ·rw [if_neg hq] at HCA;dsimp only at HCA;have m1:IntKind.i64.wrap (sm+q)=sm+q:=IntWalk.i64_in _ (by omega)
         have m1':wrap64 (sm+q)=sm+q:=w64_in (by omega) (by omega)
         obtain ⟨g5,w5,hg5,hw5,HF6⟩:=fA HF2.out #[(0:Int),(0:Int),(0:Int),(0:Int),(0:Int),(0:Int),(0:Int),(0:Int),(0:Int),(0:Int),(0:Int),(0:Int),.slice none 0 0,(0:Int),(0:Int)] 46;go_wp2_with (first
           | (refine wpLoadAt rfl 46 _ rfl b (off+k * 15) rfl #[time,step,tl,th,fl,fh,dxl,dxh,dyl,dyh,dzl,dzh,.slice A1 n1 c1,dl,dh] _ HCX.out u_46 rfl i_46 ?_)
           | (refine lF (gN HF8 2) #[time,step,tl,th,fl,fh,dxl,dxh,dyl,dyh,dzl,dzh,.slice A1 n1 c1,dl,dh] u_46 i_46 ?_)
           | (refine sW 2 HF6.out i_46 fun w7 HF8=>?_;clear hw5 hg5))
         refine mB HF8.out (HCA.out _ HF8.out.toBelow) fun w9 HF10=>?_;by_cases hsq:4096<sm+q
         ·clear hsp hq;go_wp2_with fail
          exact HERR.out _ 3 (by decide) HF10.out.drop
         ·have hsq':=hZ hsq;go_wp2_with fail
          go_roundw
          case rel=>exact ⟨k+1,by omega,by go_num,sm+q,rfl,by omega,by omega,hZ ⟨HF10.out.sub (List.sublist_append_left [_,_] _),HSS.out.symm⟩⟩
          case measure=>simp [intOf];omega
       ·obtain rfl:n=k:=by omega
        go_wp2_with fail
        exact HOK.out _ ⟨HBP.out,HBS.out,HLS.out,by omega,by rw [← HSM.out];exact hs1⟩ HF2.out.drop
end Go.Proofs.YtmkoegljnebdiaaGreat
