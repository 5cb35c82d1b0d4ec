/- What is proved: the texts Fa Fb Fc Fd Fe Ff, one behind the other; each says at its head what it proves, and under which conditions. -/
import Derived.Laws.StructEq
import Derived.LoopN
import Derived.Laws.Cover3
import Derived.Test.YtmkoegljnebdiaaGreatdPAborts3
namespace Go.Proofs.YtmkoegljnebdiaaGreat
open Go.RowKit
set_option maxRecDepth 100000
set_option maxHeartbeats 16000000

theorem u_34:Tryz.prog.underlying 34=some (.array (match Tryz.prog.underlying 34 with | some (.array n _)=>n | _=>0) (match Tryz.prog.underlying 34 with | some (.array _ e)=>e | _=>0)):=by kernel_rfl
theorem i_34:(Tryz.prog.info? 34).map (·.size)=some 6:=by kernel_rfl
theorem u_208:Tryz.prog.underlying 208=some (.array (match Tryz.prog.underlying 208 with | some (.array n _)=>n | _=>0) (match Tryz.prog.underlying 208 with | some (.array _ e)=>e | _=>0)):=by kernel_rfl
theorem i_208:(Tryz.prog.info? 208).map (·.size)=some 12:=by kernel_rfl
theorem u_36:Tryz.prog.underlying 36=some (.struct (match Tryz.prog.underlying 36 with | some (.struct f)=>f | _=>#[])):=by kernel_rfl
theorem i_36:(Tryz.prog.info? 36).map (·.size)=some 14:=by kernel_rfl
theorem u_46:Tryz.prog.underlying 46=some (.struct (match Tryz.prog.underlying 46 with | some (.struct f)=>f | _=>#[])):=by kernel_rfl
theorem i_46:(Tryz.prog.info? 46).map (·.size)=some 15:=by kernel_rfl
theorem u_160:Tryz.prog.underlying 160=some (.struct (match Tryz.prog.underlying 160 with | some (.struct f)=>f | _=>#[])):=by kernel_rfl
theorem i_160:(Tryz.prog.info? 160).map (·.size)=some 29:=by kernel_rfl
theorem u_38:Tryz.prog.underlying 38=some (.struct (match Tryz.prog.underlying 38 with | some (.struct f)=>f | _=>#[])):=by kernel_rfl
theorem i_38:(Tryz.prog.info? 38).map (·.size)=some 15:=by kernel_rfl
theorem u_58:Tryz.prog.underlying 58=some (.struct (match Tryz.prog.underlying 58 with | some (.struct f)=>f | _=>#[])):=by kernel_rfl
theorem i_58:(Tryz.prog.info? 58).map (·.size)=some 16:=by kernel_rfl
def boxV (b:BoxD):Value:=.agg #[b.x.lo,b.x.hi,b.y.lo,b.y.hi,b.z.lo,b.z.hi]
def sixV (x:SixD):Value:=.agg #[x.p.x.lo,x.p.x.hi,x.p.y.lo,x.p.y.hi,x.p.z.lo,x.p.z.hi,x.v.x.lo,x.v.x.hi,x.v.y.lo,x.v.y.hi,x.v.z.lo,x.v.z.hi]
def planetV (p:PlanetD):Value:=.agg #[p.mu.lo,p.mu.hi,p.radius.lo,p.radius.hi,p.oblate.lo,p.oblate.hi,p.spin.lo,p.spin.hi,p.pull.x.lo,p.pull.x.hi,p.pull.y.lo,p.pull.y.hi,p.pull.z.lo,p.pull.z.hi]
def stateV (s:StateD):Value:=.agg #[s.t,s.p.x.lo,s.p.x.hi,s.p.y.lo,s.p.y.hi,s.p.z.lo,s.p.z.hi,s.v.x.lo,s.v.x.hi,s.v.y.lo,s.v.y.hi,s.v.z.lo,s.v.z.hi,s.m.lo,s.m.hi]
def tubeV (s:TubeD):Value:=.agg #[s.frm,s.to,s.p.x.lo,s.p.x.hi,s.p.y.lo,s.p.y.hi,s.p.z.lo,s.p.z.hi,s.v.x.lo,s.v.x.hi,s.v.y.lo,s.v.y.hi,s.v.z.lo,s.v.z.hi,s.m.lo,s.m.hi]
def arcV (a:ArcD) (A:Option Addr) (n c:Nat):Value:=.agg #[a.time,a.step,a.thrust.lo,a.thrust.hi,a.flow.lo,a.flow.hi,a.dir.x.lo,a.dir.x.hi,a.dir.y.lo,a.dir.y.hi,a.dir.z.lo,a.dir.z.hi,.slice A n c,a.drop.lo,a.drop.hi]
def WdB (b:BoxD):Prop:=WdS b.x∧WdS b.y∧WdS b.z
def WdX (x:SixD):Prop:=WdB x.p∧WdB x.v
theorem wpo_callM {P:Program} {o:Oper} {a:Act} {w:World} {K:Act→World→Prop} {Q:Exit→Act→World→Prop} (f:Nat) (first:Array Value) (x:Operand) (xs:Array Operand) (ts:Array TypeId) (ho:o.op=.call { callee:=.value x,args:=xs,argTypes:=ts }) (hv:a.eval x=.func (.func f) first #[]) (vs:Array Value) (hx:xs.map a.eval=vs)
  (eg:∀ args w,(callFunc f args).run P w=.ok (.enter f args) w) (h:Calls P f (first ++ vs) w fun e w'=>∃ v,e=.returned v∧K (a.put o.dst v) w'):o.wp P a w K Q:=by
 unfold Oper.wp execOp;simp only [ho,resolve,hx,hv,Deferred.ofValue,Sem.run_bind,Sem.run_pure,Result.andThen_ok,invoke];simp [eg,Oper.upon]
 refine h.mono ?_
 rintro e w' ⟨v,rfl,hk⟩;exact hk
def CkPost (cb:Nat) (r:SpanD × Int) (w:World) (e:Ending) (w':World):Prop:=e=.returned (spanV r.1)∧Fr w [(cb,153,#[.int .i64 r.2])] [] w'
def CkBox (cb:Nat) (r:BoxD × Int) (w:World) (e:Ending) (w':World):Prop:=e=.returned (boxV r.1)∧Fr w [(cb,153,#[.int .i64 r.2])] [] w'
def CkSix (cb:Nat) (r:SixD × Int) (w:World) (e:Ending) (w':World):Prop:=e=.returned (sixV r.1)∧Fr w [(cb,153,#[.int .i64 r.2])] [] w'
theorem wd_do {f:SpanD→SpanD→SpanD × Int} (hf:∀ a b,WdS (f a b).1) (a b:SpanD) (e:Int):WdS (doM f a b e).1:=by
 unfold doM;split
 ·exact hf a b
 ·exact wd_zero
theorem wd_keep {r:SpanD × Int} (h:WdS r.1) (e:Int):WdS (keepM r e).1:=by
 unfold keepM;split
 ·exact h
 ·exact wd_zero
theorem wd_root (a:SpanD) (ha:WdS a):WdS (rootB a).1:=by
 unfold rootB;split
 ·split
  ·exact wd_zero
  ·have h1:=rootN_lt (n:=(max a.lo 0).toNat) (by unfold WdS at ha;omega)
   have h2:=rootN_lt (n:=a.hi.toNat) (by unfold WdS at ha;omega)
   unfold WdS;dsimp only;split <;> omega
 ·exact wd_zero
theorem wd_norm (l:List SpanD):WdS (normB l).1:=by
 unfold normB;split
 ·exact wd_zero
 ·split
  ·split
   ·exact wd_root _ (wd_sqs l)
   ·exact wd_zero
  ·exact wd_zero
def scaleM (a:SpanD) (n:Int):CM SpanD:=keepM (scaleB a n)
def squareM (a:SpanD):CM SpanD:=keepM (squareB a)
def normM (b:BoxD):CM SpanD:=keepM (normB [b.x,b.y,b.z])
theorem eql_span (lo hi:Int) (w:World):(binOp .eql 31 (.agg #[.int .i64 lo,.int .i64 hi]) (.agg #[.int .i64 0,.int .i64 0])).run Tryz.prog w=.ok (.bool ((lo == 0) && (hi == 0))) w:=by
 rw [run_eql_struct,run_equalIn_struct w 9999 _ _ _ (by kernel_rfl) (by kernel_rfl)]
 go_simp;by_cases h1:lo=0 <;> by_cases h2:hi=0 <;> simp [h1,h2]
theorem zeroS_any (a:SpanD) (w:World):Calls Tryz.prog 165 #[spanV a] w fun e w'=>e=.returned (.bool (decide (a=zeroS)))∧Below w.heap.size w w':=by
 obtain ⟨lo,hi⟩:=a;have hd:decide ((⟨lo,hi⟩:SpanD)=zeroS)=((lo == 0) && (hi == 0)):=by
  unfold zeroS;rw [Bool.eq_iff_iff];simp
 rw [hd];have he:=fun w=>eql_span lo hi w;unfold spanV;dsimp only;go_enter Tryz.func165,Tryz.ntmps165;go_wp2_with fail
 go_ret
 exact ⟨rfl,(Below.refl _ w).alloc (Nat.le_refl _) _⟩
theorem fvalid_any (n:Int) (w:World):Calls Tryz.prog 61 #[.int .i64 n] w fun e w'=>e=.returned (.bool (numB n))∧w'=w:=by
 have HR:Hid (numB n=decide (-9223372036854775807≤n)):=hZ rfl;go_enter Tryz.func61,Tryz.ntmps61;go_wp2_with fail
 go_ret
 exact ⟨ret_bool HR.out.symm,rfl⟩
theorem point_any (n:Int) (w:World):Calls Tryz.prog 117 #[.int .i64 n] w fun e w'=>e=.returned (.agg #[.int .i64 n,.int .i64 n])∧Below w.heap.size w w':=by
 go_enter Tryz.func117,Tryz.ntmps117;go_wp2_with fail
 exact ret_agg rfl rfl rfl (Bk.new _ _ _) u_span rfl i_span ⟨rfl,(Below.refl _ w).alloc (Nat.le_refl _) _⟩
theorem whole_any (n:Int) (hn:-2147483648≤n∧n≤2147483647) (w:World):Calls Tryz.prog 123 #[.int .i64 n] w fun e w'=>e=.returned (.agg #[.int .i64 (n * 4294967296),.int .i64 (n * 4294967296)])∧Below w.heap.size w w':=by
 have m1:IntKind.i64.wrap (n * 4294967296)=n * 4294967296:=IntWalk.i64_in _ (by omega)
 have m2:wrap64 (n * 4294967296)=n * 4294967296:=w64_in (by omega) (by omega)
 obtain ⟨q,hq⟩:=eX (n * 4294967296);rw [hq] at m1 m2 ⊢;have H1:=hZ (fun w=>point_any q w);obtain ⟨qb,W0,hqb,hW0,HF0⟩:=fM (Fr.start w) [(#[.int .i64 0,.int .i64 0],31)];have HFIN:Hid (∀ w',Fr w [] [] w'→Below w.heap.size w w'):=hZ fun w' h=>h.toBelow;clear hn;go_enter Tryz.func123,Tryz.ntmps123;go_upto_region 1 with (fail);clear hW0 hqb;go_wp2_with fail
 refine mB HF0.out (H1.out _) fun w1 HF1=>?_;go_wp2_with (refine wpStoreAt rfl rfl 31 _ _ rfl qb 0 rfl #[.int .i64 q,.int .i64 q] rfl 31 #[.int .i64 0,.int .i64 0] (HF1.out.get 0 rfl) (by show 0+2≤2;omega) (one_all rfl) i_span ?_;intro w2 hk ho;have HF2:=fN (HF1.out.only 0 rfl ho hk))
 exact ret_agg rfl rfl rfl (HF2.out.get 0 rfl) u_span rfl i_span ⟨rfl,HFIN.out _ HF2.out.drop⟩

theorem cdo_any (cb:Nat) (e:Int) (fid:Nat) (op:SpanD→SpanD→SpanD × Int) (hop:∀ a b w,WdS a→WdS b→Calls Tryz.prog fid #[spanV a,spanV b] w (SpPost (op a b) w.heap.size w)) (hen:∀ args w,(callFunc fid args).run Tryz.prog w=.ok (.enter fid args) w)
  (a b:SpanD) (ha:WdS a) (hb:WdS b) (w:World) (hk:Bk w cb 153 #[.int .i64 e]):Calls Tryz.prog 112 #[.pointer (some ⟨cb,0,none⟩),.func (.func fid) #[] #[],spanV a,spanV b] w (CkPost cb (doM op a b e) w):=by
 have HOP:=hZ (fun w=>hop a b w ha hb);have HFIN:Hid (∀ w',Fr w [(cb,153,#[.int .i64 (doM op a b e).2])] [] w'→CkPost cb (doM op a b e) w (.returned (.agg #[.int .i64 (doM op a b e).1.lo,.int .i64 (doM op a b e).1.hi])) w'):=hZ fun w' h=>⟨rfl,h⟩;have HKC:=hZ hk;by_cases he:e=0
 ·subst he;have hs:doM op a b 0=op a b:=if_pos rfl;rw [hs] at HFIN ⊢;obtain ⟨⟨⟨rl,rh⟩,re⟩,hr⟩:=eX (op a b);rw [hr] at HOP HFIN ⊢;obtain ⟨al,ah⟩:=a;obtain ⟨bl,bh⟩:=b;clear hs hr ha hb hop;unfold SpPost spanV at HOP;unfold spanV;dsimp only at HOP HFIN ⊢;obtain ⟨qb,W0,hqb,hW0,HF0⟩:=fM (Fr.start1 HKC.out) [(#[al,ah],31),(#[bl,bh],31),(#[.int .i64 0,.int .i64 0],31)];clear hk;go_enter Tryz.func112,Tryz.ntmps112;go_upto_region 1 with (fail);clear hW0 hqb;have c1:W0.cell? ⟨cb,0,none⟩=some (.int .i64 0):=(HF0.out.getO 0 rfl).cell 0;obtain ⟨g2,hg2⟩:=eX W0.heap.size;obtain ⟨w2,hw2⟩:=eX (W0.alloc (.cells #[.int .i64 0,.int .i64 0] 31));have HF3:=fE hw2 (HF0.out.alloc hg2.symm 31 #[.int .i64 0,.int .i64 0]);go_wp2_with (first
    | (refine lS (gN HF3 0) al ah ?_)
    | (refine lS (gN HF3 1) bl bh ?_)
    | (refine wpCallV rfl fid  _ _ _ rfl rfl #[.agg #[al,ah],.agg #[bl,bh]] rfl hen ?_))
  clear c1 hw2 hg2;refine mB HF3.out (HOP.out _) fun w4 HF5=>?_;go_wp2_with (first
    | (refine sW 3 HF5.out i_span fun w6 HF7=>?_)
    | (refine lS (gN HF9 3) rl rh ?_)
    | (refine wpStoreCell rfl rfl 41 _ _ rfl cb 0 rfl (.int .i64 re) rfl _ _ (HF7.out.getO 0 rfl) (by show 0<1;omega) rfl (by kernel_rfl) ?_;intro w8 hk ho;have HF9:=fN (HF7.out.onlyO 0 rfl ho hk);clear ho hk)
    | (refine sW 2 HF9.out i_span fun w10 HF11=>?_))
  refine ret_agg rfl rfl rfl (HF11.out.get 2 rfl) u_span rfl i_span ?_
  exact HFIN.out _ HF11.out.drop
 ·have hs:doM op a b e=(zeroS,e):=if_neg he;rw [hs] at HFIN ⊢;have hb2:(e == 0)=false:=by simpa using he
  obtain ⟨al,ah⟩:=a;obtain ⟨bl,bh⟩:=b;clear hs ha hb hop he HOP;unfold spanV;dsimp only [zeroS] at HFIN ⊢;obtain ⟨qb,W0,hqb,hW0,HF0⟩:=fM (Fr.start1 HKC.out) [(#[al,ah],31),(#[bl,bh],31),(#[.int .i64 0,.int .i64 0],31)];clear hk;go_enter Tryz.func112,Tryz.ntmps112;go_upto_region 1 with (fail);clear hW0 hqb;have c1:W0.cell? ⟨cb,0,none⟩=some (.int .i64 e):=(HF0.out.getO 0 rfl).cell 0;go_wp2_with (refine sW 2 HF0.out i_span fun w2 HF3=>?_;clear c1)
  refine ret_agg rfl rfl rfl (HF3.out.get 2 rfl) u_span rfl i_span ?_
  exact HFIN.out _ HF3.out.drop
theorem ckeep_any (cb:Nat) (e:Int) (r:SpanD × Int) (w:World) (hk:Bk w cb 153 #[.int .i64 e]):Calls Tryz.prog 113 #[.pointer (some ⟨cb,0,none⟩),spanV r.1,.int .i64 r.2] w (CkPost cb (keepM r e) w):=by
 have HFIN:Hid (∀ w',Fr w [(cb,153,#[.int .i64 (keepM r e).2])] [] w'→CkPost cb (keepM r e) w (.returned (.agg #[.int .i64 (keepM r e).1.lo,.int .i64 (keepM r e).1.hi])) w'):=hZ fun w' h=>⟨rfl,h⟩;have HKC:=hZ hk;obtain ⟨⟨rl,rh⟩,re⟩:=r;by_cases he:e=0
 ·subst he;have hs:keepM (⟨rl,rh⟩,re) 0=(⟨rl,rh⟩,re):=if_pos rfl;rw [hs] at HFIN ⊢;clear hs;unfold spanV;dsimp only at HFIN ⊢;obtain ⟨qb,W0,hqb,hW0,HF0⟩:=fM (Fr.start1 HKC.out) [(#[rl,rh],31),(#[.int .i64 0,.int .i64 0],31)];clear hk;go_enter Tryz.func113,Tryz.ntmps113;go_upto_region 1 with (fail);clear hW0 hqb;have c1:W0.cell? ⟨cb,0,none⟩=some (.int .i64 0):=(HF0.out.getO 0 rfl).cell 0;go_wp2_with (first
    | (refine lS (gN HF3 0) rl rh ?_)
    | (refine wpStoreCell rfl rfl 41 _ _ rfl cb 0 rfl (.int .i64 re) rfl _ _ (HF0.out.getO 0 rfl) (by show 0<1;omega) rfl (by kernel_rfl) ?_;intro w2 hk ho;clear c1;have HF3:=fN (HF0.out.onlyO 0 rfl ho hk);clear ho hk)
    | (refine sW 1 HF3.out i_span fun w4 HF5=>?_))
  refine ret_agg rfl rfl rfl (HF5.out.get 1 rfl) u_span rfl i_span ?_
  exact HFIN.out _ HF5.out.drop
 ·have hs:keepM (⟨rl,rh⟩,re) e=(zeroS,e):=if_neg he;rw [hs] at HFIN ⊢;have hb2:(e == 0)=false:=by simpa using he
  clear hs he;unfold spanV;dsimp only [zeroS] at HFIN ⊢;obtain ⟨qb,W0,hqb,hW0,HF0⟩:=fM (Fr.start1 HKC.out) [(#[rl,rh],31),(#[.int .i64 0,.int .i64 0],31)];clear hk;go_enter Tryz.func113,Tryz.ntmps113;go_upto_region 1 with (fail);clear hW0 hqb;have c1:W0.cell? ⟨cb,0,none⟩=some (.int .i64 e):=(HF0.out.getO 0 rfl).cell 0;go_wp2_with (refine sW 1 HF0.out i_span fun w2 HF3=>?_;clear c1)
  refine ret_agg rfl rfl rfl (HF3.out.get 1 rfl) u_span rfl i_span ?_
  exact HFIN.out _ HF3.out.drop
theorem cadd_any (cb:Nat) (e:Int) (a b:SpanD) (ha:WdS a) (hb:WdS b) (w:World) (hk:Bk w cb 153 #[.int .i64 e]):Calls Tryz.prog 116 #[.pointer (some ⟨cb,0,none⟩),spanV a,spanV b] w (CkPost cb (addM a b e) w):=by
 have HDO:Hid (∀ w,Bk w cb 153 #[.int .i64 e]→Calls Tryz.prog 112 #[.pointer (some ⟨cb,0,none⟩),.func (.func 65) #[] #[],spanV a,spanV b] w (CkPost cb (addM a b e) w)):=hZ fun w hk=>cdo_any cb e 65 _ (fun a b w ha hb=>add_any a b ha hb w) (fun args w=>by kernel_rfl) a b ha hb w hk
 have HFIN:Hid (∀ w',Fr w [(cb,153,#[.int .i64 (addM a b e).2])] [] w'→CkPost cb (addM a b e) w (.returned (.agg #[.int .i64 (addM a b e).1.lo,.int .i64 (addM a b e).1.hi])) w'):=hZ fun w' h=>⟨rfl,h⟩;have HKC:=hZ hk;obtain ⟨⟨⟨rl,rh⟩,re⟩,hr⟩:=eX (addM a b e);rw [hr] at HDO HFIN ⊢;obtain ⟨al,ah⟩:=a;obtain ⟨bl,bh⟩:=b;clear hr ha hb;unfold CkPost spanV at HDO;unfold spanV;dsimp only at HDO HFIN ⊢;obtain ⟨qb,W0,hqb,hW0,HF0⟩:=fM (Fr.start1 HKC.out) [(#[al,ah],31),(#[bl,bh],31),(#[.int .i64 0,.int .i64 0],31)];clear hk;go_enter Tryz.func116,Tryz.ntmps116;go_upto_region 1 with (fail);clear hW0 hqb;go_wp2_with (first
   | (refine lS (gN HF0 0) al ah ?_)
   | (refine lS (gN HF0 1) bl bh ?_))
 refine (HDO.out _ (HF0.out.getO 0 rfl)).mono ?_
 rintro e w1 ⟨rfl,hw⟩;have HF2:=fN (HF0.out.turnO 0 rfl hw);clear hw;go_wp2_with (refine sW 2 HF2.out i_span fun w3 HF4=>?_)
 refine ret_agg rfl rfl rfl (HF4.out.get 2 rfl) u_span rfl i_span ?_
 exact HFIN.out _ HF4.out.drop
theorem csub_any (cb:Nat) (e:Int) (a b:SpanD) (ha:WdS a) (hb:WdS b) (w:World) (hk:Bk w cb 153 #[.int .i64 e]):Calls Tryz.prog 57 #[.pointer (some ⟨cb,0,none⟩),spanV a,spanV b] w (CkPost cb (subM a b e) w):=by
 have HDO:Hid (∀ w,Bk w cb 153 #[.int .i64 e]→Calls Tryz.prog 112 #[.pointer (some ⟨cb,0,none⟩),.func (.func 24) #[] #[],spanV a,spanV b] w (CkPost cb (subM a b e) w)):=hZ fun w hk=>cdo_any cb e 24 _ (fun a b w ha hb=>sub_any a b ha hb w) (fun args w=>by kernel_rfl) a b ha hb w hk
 have HFIN:Hid (∀ w',Fr w [(cb,153,#[.int .i64 (subM a b e).2])] [] w'→CkPost cb (subM a b e) w (.returned (.agg #[.int .i64 (subM a b e).1.lo,.int .i64 (subM a b e).1.hi])) w'):=hZ fun w' h=>⟨rfl,h⟩;have HKC:=hZ hk;obtain ⟨⟨⟨rl,rh⟩,re⟩,hr⟩:=eX (subM a b e);rw [hr] at HDO HFIN ⊢;obtain ⟨al,ah⟩:=a;obtain ⟨bl,bh⟩:=b;clear hr ha hb;unfold CkPost spanV at HDO;unfold spanV;dsimp only at HDO HFIN ⊢;obtain ⟨qb,W0,hqb,hW0,HF0⟩:=fM (Fr.start1 HKC.out) [(#[al,ah],31),(#[bl,bh],31),(#[.int .i64 0,.int .i64 0],31)];clear hk;go_enter Tryz.func57,Tryz.ntmps57;go_upto_region 1 with (fail);clear hW0 hqb;go_wp2_with (first
   | (refine lS (gN HF0 0) al ah ?_)
   | (refine lS (gN HF0 1) bl bh ?_))
 refine (HDO.out _ (HF0.out.getO 0 rfl)).mono ?_
 rintro e w1 ⟨rfl,hw⟩;have HF2:=fN (HF0.out.turnO 0 rfl hw);clear hw;go_wp2_with (refine sW 2 HF2.out i_span fun w3 HF4=>?_)
 refine ret_agg rfl rfl rfl (HF4.out.get 2 rfl) u_span rfl i_span ?_
 exact HFIN.out _ HF4.out.drop
theorem cmul_any (cb:Nat) (e:Int) (a b:SpanD) (ha:WdS a) (hb:WdS b) (w:World) (hk:Bk w cb 153 #[.int .i64 e]):Calls Tryz.prog 118 #[.pointer (some ⟨cb,0,none⟩),spanV a,spanV b] w (CkPost cb (mulM a b e) w):=by
 have HDO:Hid (∀ w,Bk w cb 153 #[.int .i64 e]→Calls Tryz.prog 112 #[.pointer (some ⟨cb,0,none⟩),.func (.func 74) #[] #[],spanV a,spanV b] w (CkPost cb (mulM a b e) w)):=hZ fun w hk=>cdo_any cb e 74 _ (fun a b w ha hb=>mul_any a b ha hb w) (fun args w=>by kernel_rfl) a b ha hb w hk
 have HFIN:Hid (∀ w',Fr w [(cb,153,#[.int .i64 (mulM a b e).2])] [] w'→CkPost cb (mulM a b e) w (.returned (.agg #[.int .i64 (mulM a b e).1.lo,.int .i64 (mulM a b e).1.hi])) w'):=hZ fun w' h=>⟨rfl,h⟩;have HKC:=hZ hk;obtain ⟨⟨⟨rl,rh⟩,re⟩,hr⟩:=eX (mulM a b e);rw [hr] at HDO HFIN ⊢;obtain ⟨al,ah⟩:=a;obtain ⟨bl,bh⟩:=b;clear hr ha hb;unfold CkPost spanV at HDO;unfold spanV;dsimp only at HDO HFIN ⊢;obtain ⟨qb,W0,hqb,hW0,HF0⟩:=fM (Fr.start1 HKC.out) [(#[al,ah],31),(#[bl,bh],31),(#[.int .i64 0,.int .i64 0],31)];clear hk;go_enter Tryz.func118,Tryz.ntmps118;go_upto_region 1 with (fail);clear hW0 hqb;go_wp2_with (first
   | (refine lS (gN HF0 0) al ah ?_)
   | (refine lS (gN HF0 1) bl bh ?_))
 refine (HDO.out _ (HF0.out.getO 0 rfl)).mono ?_
 rintro e w1 ⟨rfl,hw⟩;have HF2:=fN (HF0.out.turnO 0 rfl hw);clear hw;go_wp2_with (refine sW 2 HF2.out i_span fun w3 HF4=>?_)
 refine ret_agg rfl rfl rfl (HF4.out.get 2 rfl) u_span rfl i_span ?_
 exact HFIN.out _ HF4.out.drop
theorem cdiv_any (cb:Nat) (e:Int) (a b:SpanD) (ha:WdS a) (hb:WdS b) (w:World) (hk:Bk w cb 153 #[.int .i64 e]):Calls Tryz.prog 122 #[.pointer (some ⟨cb,0,none⟩),spanV a,spanV b] w (CkPost cb (divM a b e) w):=by
 have HDO:Hid (∀ w,Bk w cb 153 #[.int .i64 e]→Calls Tryz.prog 112 #[.pointer (some ⟨cb,0,none⟩),.func (.func 110) #[] #[],spanV a,spanV b] w (CkPost cb (divM a b e) w)):=hZ fun w hk=>cdo_any cb e 110 _ (fun a b w ha hb=>div_any a b ha hb w) (fun args w=>by kernel_rfl) a b ha hb w hk
 have HFIN:Hid (∀ w',Fr w [(cb,153,#[.int .i64 (divM a b e).2])] [] w'→CkPost cb (divM a b e) w (.returned (.agg #[.int .i64 (divM a b e).1.lo,.int .i64 (divM a b e).1.hi])) w'):=hZ fun w' h=>⟨rfl,h⟩;have HKC:=hZ hk;obtain ⟨⟨⟨rl,rh⟩,re⟩,hr⟩:=eX (divM a b e);rw [hr] at HDO HFIN ⊢;obtain ⟨al,ah⟩:=a;obtain ⟨bl,bh⟩:=b;clear hr ha hb;unfold CkPost spanV at HDO;unfold spanV;dsimp only at HDO HFIN ⊢;obtain ⟨qb,W0,hqb,hW0,HF0⟩:=fM (Fr.start1 HKC.out) [(#[al,ah],31),(#[bl,bh],31),(#[.int .i64 0,.int .i64 0],31)];clear hk;go_enter Tryz.func122,Tryz.ntmps122;go_upto_region 1 with (fail);clear hW0 hqb;go_wp2_with (first
   | (refine lS (gN HF0 0) al ah ?_)
   | (refine lS (gN HF0 1) bl bh ?_))
 refine (HDO.out _ (HF0.out.getO 0 rfl)).mono ?_
 rintro e w1 ⟨rfl,hw⟩;have HF2:=fN (HF0.out.turnO 0 rfl hw);clear hw;go_wp2_with (refine sW 2 HF2.out i_span fun w3 HF4=>?_)
 refine ret_agg rfl rfl rfl (HF4.out.get 2 rfl) u_span rfl i_span ?_
 exact HFIN.out _ HF4.out.drop
theorem cscale_any (cb:Nat) (e:Int) (a:SpanD) (n:Int) (ha:WdS a) (hn:I64 n) (w:World) (hk:Bk w cb 153 #[.int .i64 e]):Calls Tryz.prog 168 #[.pointer (some ⟨cb,0,none⟩),spanV a,.int .i64 n] w (CkPost cb (scaleM a n e) w):=by
 have H1:=hZ (fun w=>scale_any a n ha hn w);obtain ⟨r1,hr1⟩:=eX (scaleB a n);have HKP:Hid (∀ w,Bk w cb 153 #[.int .i64 e]→Calls Tryz.prog 113 #[.pointer (some ⟨cb,0,none⟩),spanV r1.1,.int .i64 r1.2] w (CkPost cb (keepM r1 e) w)):=hZ fun w hk=>ckeep_any cb e r1 w hk;have hs:scaleM a n e=keepM r1 e:=by rw [← hr1];rfl
 rw [hs];rw [hr1] at H1;have HFIN:Hid (∀ w',Fr w [(cb,153,#[.int .i64 (keepM r1 e).2])] [] w'→CkPost cb (keepM r1 e) w (.returned (.agg #[.int .i64 (keepM r1 e).1.lo,.int .i64 (keepM r1 e).1.hi])) w'):=hZ fun w' h=>⟨rfl,h⟩;have HKC:=hZ hk;obtain ⟨⟨⟨rl,rh⟩,re⟩,hr⟩:=eX (keepM r1 e);rw [hr] at HKP HFIN ⊢;obtain ⟨⟨ul,uh⟩,ue⟩:=r1;obtain ⟨al,ah⟩:=a;clear hr hr1 hs ha hn;unfold SpPost spanV at H1;unfold CkPost spanV at HKP;unfold spanV;dsimp only at H1 HKP HFIN ⊢;obtain ⟨qb,W0,hqb,hW0,HF0⟩:=fM (Fr.start1 HKC.out) [(#[al,ah],31),(#[.int .i64 0,.int .i64 0],31)];clear hk;go_enter Tryz.func168,Tryz.ntmps168;go_upto_region 1 with (fail);clear hW0 hqb;go_wp2_with (refine lS (gN HF0 0) al ah ?_)
 refine mB HF0.out (H1.out _) fun w1 HF2=>?_;go_wp2_with fail
 refine (HKP.out _ (HF2.out.getO 0 rfl)).mono ?_
 rintro e w3 ⟨rfl,hw⟩;have HF4:=fN (HF2.out.turnO 0 rfl hw);clear hw;go_wp2_with (refine sW 1 HF4.out i_span fun w5 HF6=>?_)
 refine ret_agg rfl rfl rfl (HF6.out.get 1 rfl) u_span rfl i_span ?_
 exact HFIN.out _ HF6.out.drop
theorem csquare_any (cb:Nat) (e:Int) (a:SpanD) (ha:WdS a) (w:World) (hk:Bk w cb 153 #[.int .i64 e]):Calls Tryz.prog 155 #[.pointer (some ⟨cb,0,none⟩),spanV a] w (CkPost cb (squareM a e) w):=by
 have H1:=hZ (fun w=>square_any a ha w);obtain ⟨r1,hr1⟩:=eX (squareB a);have HKP:Hid (∀ w,Bk w cb 153 #[.int .i64 e]→Calls Tryz.prog 113 #[.pointer (some ⟨cb,0,none⟩),spanV r1.1,.int .i64 r1.2] w (CkPost cb (keepM r1 e) w)):=hZ fun w hk=>ckeep_any cb e r1 w hk;have hs:squareM a e=keepM r1 e:=by rw [← hr1];rfl
 rw [hs];rw [hr1] at H1;have HFIN:Hid (∀ w',Fr w [(cb,153,#[.int .i64 (keepM r1 e).2])] [] w'→CkPost cb (keepM r1 e) w (.returned (.agg #[.int .i64 (keepM r1 e).1.lo,.int .i64 (keepM r1 e).1.hi])) w'):=hZ fun w' h=>⟨rfl,h⟩;have HKC:=hZ hk;obtain ⟨⟨⟨rl,rh⟩,re⟩,hr⟩:=eX (keepM r1 e);rw [hr] at HKP HFIN ⊢;obtain ⟨⟨ul,uh⟩,ue⟩:=r1;obtain ⟨al,ah⟩:=a;clear hr hr1 hs ha;unfold SpPost spanV at H1;unfold CkPost spanV at HKP;unfold spanV;dsimp only at H1 HKP HFIN ⊢;obtain ⟨qb,W0,hqb,hW0,HF0⟩:=fM (Fr.start1 HKC.out) [(#[al,ah],31),(#[.int .i64 0,.int .i64 0],31)];clear hk;go_enter Tryz.func155,Tryz.ntmps155;go_upto_region 1 with (fail);clear hW0 hqb;go_wp2_with (refine lS (gN HF0 0) al ah ?_)
 refine mB HF0.out (H1.out _) fun w1 HF2=>?_;go_wp2_with fail
 refine (HKP.out _ (HF2.out.getO 0 rfl)).mono ?_
 rintro e w3 ⟨rfl,hw⟩;have HF4:=fN (HF2.out.turnO 0 rfl hw);clear hw;go_wp2_with (refine sW 1 HF4.out i_span fun w5 HF6=>?_)
 refine ret_agg rfl rfl rfl (HF6.out.get 1 rfl) u_span rfl i_span ?_
 exact HFIN.out _ HF6.out.drop
theorem normBox_any (b:BoxD) (hb:WdB b) (w:World) (g:Nat) (t:TypeId) (hk:Bk w g t #[b.x.lo,b.x.hi,b.y.lo,b.y.hi,b.z.lo,b.z.hi]) :
  Calls Tryz.prog 114 #[.slice (some ⟨g,0,none⟩) 3 3] w (SpPost (normB [b.x,b.y,b.z]) w.heap.size w) :=
 norm_any w g 0 3 3 (fun i=>match i with | 0=>b.x | 1=>b.y | _=>b.z) ⟨by omega,fun _=>⟨g,0,rfl,hk.lt,fun i hi j hj=>by
  match i,j,hi,hj with
  | 0,0,_,_=>exact hk.cell 0
  | 0,1,_,_=>exact hk.cell 1
  | 1,0,_,_=>exact hk.cell 2
  | 1,1,_,_=>exact hk.cell 3
  | 2,0,_,_=>exact hk.cell 4
  | 2,1,_,_=>exact hk.cell 5⟩⟩ (by omega) (by omega) (fun i hi=>by
  match i,hi with
  | 0,_=>exact hb.1
  | 1,_=>exact hb.2.1
  | 2,_=>exact hb.2.2)
theorem cnorm_any (cb:Nat) (e:Int) (b:BoxD) (hb:WdB b) (w:World) (hk:Bk w cb 153 #[.int .i64 e]):Calls Tryz.prog 58 #[.pointer (some ⟨cb,0,none⟩),boxV b] w (CkPost cb (normM b e) w):=by
 have H1:=hZ (fun w g hk=>normBox_any b hb w g 34 hk);obtain ⟨r1,hr1⟩:=eX (normB [b.x,b.y,b.z]);have HKP:Hid (∀ w,Bk w cb 153 #[.int .i64 e]→Calls Tryz.prog 113 #[.pointer (some ⟨cb,0,none⟩),spanV r1.1,.int .i64 r1.2] w (CkPost cb (keepM r1 e) w)):=hZ fun w hk=>ckeep_any cb e r1 w hk;have hs:normM b e=keepM r1 e:=by rw [← hr1];rfl
 rw [hs];rw [hr1] at H1;have HFIN:Hid (∀ w',Fr w [(cb,153,#[.int .i64 (keepM r1 e).2])] [] w'→CkPost cb (keepM r1 e) w (.returned (.agg #[.int .i64 (keepM r1 e).1.lo,.int .i64 (keepM r1 e).1.hi])) w'):=hZ fun w' h=>⟨rfl,h⟩;have HKC:=hZ hk;obtain ⟨⟨⟨rl,rh⟩,re⟩,hr⟩:=eX (keepM r1 e);rw [hr] at HKP HFIN ⊢;obtain ⟨⟨ul,uh⟩,ue⟩:=r1;obtain ⟨⟨xl,xh⟩,⟨yl,yh⟩,⟨zl,zh⟩⟩:=b;clear hr hr1 hs hb;unfold SpPost spanV at H1;unfold CkPost spanV at HKP;unfold boxV;dsimp only at H1 HKP HFIN ⊢;obtain ⟨qb,W0,hqb,hW0,HF0⟩:=fM (Fr.start1 HKC.out) [(#[xl,xh,yl,yh,zl,zh],34),(#[.int .i64 0,.int .i64 0],31)];clear hk;go_enter Tryz.func58,Tryz.ntmps58;go_upto_region 1 with (fail);clear hW0 hqb;go_wp2_with fail
 refine mB HF0.out (H1.out _ qb (HF0.out.get 0 rfl)) fun w1 HF2=>?_;go_wp2_with fail
 refine (HKP.out _ (HF2.out.getO 0 rfl)).mono ?_
 rintro e w3 ⟨rfl,hw⟩;have HF4:=fN (HF2.out.turnO 0 rfl hw);clear hw;go_wp2_with (refine sW 1 HF4.out i_span fun w5 HF6=>?_)
 refine ret_agg rfl rfl rfl (HF6.out.get 1 rfl) u_span rfl i_span ?_
 exact HFIN.out _ HF6.out.drop

theorem place_any (x:SixD) (w:World):Calls Tryz.prog 124 #[sixV x] w fun e w'=>e=.returned (boxV x.p)∧Below w.heap.size w w':=by
 obtain ⟨⟨⟨axl,axh⟩,⟨ayl,ayh⟩,⟨azl,azh⟩⟩,⟨⟨bxl,bxh⟩,⟨byl,byh⟩,⟨bzl,bzh⟩⟩⟩:=x;unfold sixV boxV;dsimp only;have HFIN:Hid (∀ w',Fr w [] [] w'→Below w.heap.size w w'):=hZ fun w' h=>h.toBelow;obtain ⟨qb,W0,hqb,hW0,HF0⟩:=fM (Fr.start w) [(#[axl,axh,ayl,ayh,azl,azh,bxl,bxh,byl,byh,bzl,bzh],208),(#[(0:Int),(0:Int),(0:Int),(0:Int),(0:Int),(0:Int)],34)];have HARR:∀ (a:Option Addr) (c:Nat) (w:World),(Instr.arrayAt 34 (.slice a 3 c)).run Tryz.prog w=.ok (.pointer a) w:=fun a c w=>run_arrayAt w 34 31 3 a 3 c (by kernel_rfl) (by decide)
 go_enter Tryz.func124,Tryz.ntmps124;go_upto_region 1 with (fail);clear hW0 hqb;go_wp2_with (first
   | (refine lF (gN HF0 0) #[axl,axh,ayl,ayh,azl,azh] u_34 i_34 ?_)
   | (refine sW 1 HF0.out i_34 fun w1 HF2=>?_))
 refine ret_agg rfl rfl rfl (HF2.out.get 1 rfl) u_34 rfl i_34 ?_
 exact ⟨rfl,HFIN.out _ HF2.out.drop⟩
theorem speed_any (x:SixD) (w:World):Calls Tryz.prog 125 #[sixV x] w fun e w'=>e=.returned (boxV x.v)∧Below w.heap.size w w':=by
 obtain ⟨⟨⟨axl,axh⟩,⟨ayl,ayh⟩,⟨azl,azh⟩⟩,⟨⟨bxl,bxh⟩,⟨byl,byh⟩,⟨bzl,bzh⟩⟩⟩:=x;unfold sixV boxV;dsimp only;have HFIN:Hid (∀ w',Fr w [] [] w'→Below w.heap.size w w'):=hZ fun w' h=>h.toBelow;obtain ⟨qb,W0,hqb,hW0,HF0⟩:=fM (Fr.start w) [(#[axl,axh,ayl,ayh,azl,azh,bxl,bxh,byl,byh,bzl,bzh],208),(#[(0:Int),(0:Int),(0:Int),(0:Int),(0:Int),(0:Int)],34)];have HARR:∀ (a:Option Addr) (c:Nat) (w:World),(Instr.arrayAt 34 (.slice a 3 c)).run Tryz.prog w=.ok (.pointer a) w:=fun a c w=>run_arrayAt w 34 31 3 a 3 c (by kernel_rfl) (by decide)
 go_enter Tryz.func125,Tryz.ntmps125;go_upto_region 1 with (fail);clear hW0 hqb;go_wp2_with (first
   | (refine lF (gN HF0 0) #[bxl,bxh,byl,byh,bzl,bzh] u_34 i_34 ?_)
   | (refine sW 1 HF0.out i_34 fun w1 HF2=>?_))
 refine ret_agg rfl rfl rfl (HF2.out.get 1 rfl) u_34 rfl i_34 ?_
 exact ⟨rfl,HFIN.out _ HF2.out.drop⟩
theorem fof_any (p v:BoxD) (w:World):Calls Tryz.prog 119 #[boxV p,boxV v] w fun e w'=>e=.returned (sixV ⟨p,v⟩)∧Below w.heap.size w w':=by
 obtain ⟨⟨axl,axh⟩,⟨ayl,ayh⟩,⟨azl,azh⟩⟩:=p;obtain ⟨⟨bxl,bxh⟩,⟨byl,byh⟩,⟨bzl,bzh⟩⟩:=v;unfold sixV boxV;dsimp only;have HFIN:Hid (∀ w',Fr w [] [] w'→Below w.heap.size w w'):=hZ fun w' h=>h.toBelow;obtain ⟨qb,W0,hqb,hW0,HF0⟩:=fM (Fr.start w) [(#[axl,axh,ayl,ayh,azl,azh],34),(#[bxl,bxh,byl,byh,bzl,bzh],34),(#[(0:Int),(0:Int),(0:Int),(0:Int),(0:Int),(0:Int),(0:Int),(0:Int),(0:Int),(0:Int),(0:Int),(0:Int)],208)];go_enter Tryz.func119,Tryz.ntmps119;go_upto_region 1 with (fail);clear hW0 hqb;go_wp2_with (first
   | (refine lS (gN HF0 0) axl axh ?_)
   | (refine lS (gN HF0 0) ayl ayh ?_)
   | (refine lS (gN HF0 0) azl azh ?_)
   | (refine lS (gN HF0 1) bxl bxh ?_)
   | (refine lS (gN HF0 1) byl byh ?_)
   | (refine lS (gN HF0 1) bzl bzh ?_)
   | (refine sW 2 HF0.out i_208 fun w1 HF2=>?_))
 refine ret_agg rfl rfl rfl (HF2.out.get 2 rfl) u_208 rfl i_208 ?_
 exact ⟨rfl,HFIN.out _ HF2.out.drop⟩
theorem ceach_any (cb:Nat) (e:Int) (fid:Nat) (op:SpanD→SpanD→CM SpanD) (hop:∀ e a b w,WdS a→WdS b→Bk w cb 153 #[.int .i64 e]→Calls Tryz.prog fid #[.pointer (some ⟨cb,0,none⟩),spanV a,spanV b] w (CkPost cb (op a b e) w)) (hen:∀ args w,(callFunc fid args).run Tryz.prog w=.ok (.enter fid args) w)
  (a b:BoxD) (ha:WdB a) (hb:WdB b) (w:World) (hk:Bk w cb 153 #[.int .i64 e]):Calls Tryz.prog 166 #[.pointer (some ⟨cb,0,none⟩),.func (.func fid) #[.pointer (some ⟨cb,0,none⟩)] #[],boxV a,boxV b] w (CkBox cb (eachM op a b e) w):=by
 have HKC:=hZ hk;have H1:=fun w hk=>hop e a.x b.x w ha.1 hb.1 hk;obtain ⟨⟨⟨r1l,r1h⟩,e1⟩,h1⟩:∃ z:SpanD × Int,op a.x b.x e=z:=⟨_,rfl⟩;have H2:=fun w hk=>hop e1 a.y b.y w ha.2.1 hb.2.1 hk;obtain ⟨⟨⟨r2l,r2h⟩,e2⟩,h2⟩:∃ z:SpanD × Int,op a.y b.y e1=z:=⟨_,rfl⟩;have H3:=fun w hk=>hop e2 a.z b.z w ha.2.2 hb.2.2 hk;obtain ⟨⟨⟨r3l,r3h⟩,e3⟩,h3⟩:∃ z:SpanD × Int,op a.z b.z e2=z:=⟨_,rfl⟩;have hr:eachM op a b e=(⟨⟨r1l,r1h⟩,⟨r2l,r2h⟩,⟨r3l,r3h⟩⟩,e3):=by
  unfold eachM CM.bnd CM.ret;simp only [h1,h2,h3]
 rw [h1] at H1;rw [h2] at H2;rw [h3] at H3;rw [hr];have HFIN:Hid (∀ w',Fr w [(cb,153,#[.int .i64 e3])] [] w'→CkBox cb (⟨⟨r1l,r1h⟩,⟨r2l,r2h⟩,⟨r3l,r3h⟩⟩,e3) w (.returned (.agg #[r1l,r1h,r2l,r2h,r3l,r3h])) w'):=hZ fun w' h=>⟨rfl,h⟩;obtain ⟨⟨axl,axh⟩,⟨ayl,ayh⟩,⟨azl,azh⟩⟩:=a;obtain ⟨⟨bxl,bxh⟩,⟨byl,byh⟩,⟨bzl,bzh⟩⟩:=b;clear hop ha hb h1 h2 h3 hr;unfold CkPost spanV at H1 H2 H3;unfold boxV;dsimp only at H1 H2 H3 ⊢;replace H1:=hZ H1;replace H2:=hZ H2;replace H3:=hZ H3;obtain ⟨qb,W0,hqb,hW0,HF0⟩:=fM (Fr.start1 HKC.out) [(#[axl,axh,ayl,ayh,azl,azh],34),(#[bxl,bxh,byl,byh,bzl,bzh],34),(#[(0:Int),(0:Int),(0:Int),(0:Int),(0:Int),(0:Int)],34)];clear hk;go_enter Tryz.func166,Tryz.ntmps166;go_upto_region 1 with (fail);clear hW0 hqb;obtain ⟨g1,hg1⟩:=eX W0.heap.size;obtain ⟨w1,hw1⟩:=eX (W0.alloc (.cells #[(0:Int),(0:Int),(0:Int),(0:Int),(0:Int),(0:Int)] 34));have HF2:=fE hw1 (HF0.out.alloc hg1.symm 34 #[(0:Int),(0:Int),(0:Int),(0:Int),(0:Int),(0:Int)]);go_wp2_with fail
 clear hw1 hg1;refine wp_loop_rounds 4 ?_
 rw [rounds_succ];go_upto_region 5 with (fail);refine wrf [.p,.p,.p,.p,.p,.p,.p,.p,.c 0,.p,.c 1] [8,10] [] (fun k=>[(cb,153,(if k≤0 then iC [e] else iC [e1]))]) (fun k=>[(qb,34,iC [axl,axh,ayl,ayh,azl,azh]),(qb+1,34,iC [bxl,bxh,byl,byh,bzl,bzh]),(qb+1+1,34,iC [0,0,0,0,0,0]),(g1,34,(if k≤1 then iC [0,0,0,0,0,0] else iC [r1l,r1h,0,0,0,0]))]) (rV [.int .i64 0,.func (.func fid) #[.pointer (some ⟨cb,0,none⟩)] #[],.int .i64 0,.pointer (some ⟨qb,0,none⟩),.agg #[axl,axh],.int .i64 0,.pointer (some ⟨qb+1,0,none⟩),.agg #[bxl,bxh],.agg #[r1l,r1h],.pointer (some ⟨g1,0,none⟩)]) [] HF2.out ?_ ?_
 ·refine ⟨?_,?_,?_,?_,?_,?_,?_,?_,?_,?_,?_,trivial⟩
  all_goals intro a w1 vs dn k K S hpre KE DE kk
  ·have e10:=KE 10;go_simp;exact kk _ _
  ·have e1:=KE 1;go_simp;exact kk _ _
  ·have e10:=KE 10;go_simp;exact kk _ _
  ·have e6:=KE 6;have e16:=dep (DE 2 16);go_simp;exact kk _ _
  ·exact oM (eT (dep (DE 3 17))) (S.fr.left.get 0 rfl) (kk _ _)
  ·have e10:=KE 10;go_simp;exact kk _ _
  ·have e7:=KE 7;have e19:=dep (DE 5 19);go_simp;exact kk _ _
  ·exact oM (eT (dep (DE 6 20))) (S.fr.left.get 1 rfl) (kk _ _)
  ·subst hpre;have e15:=dep (DE 1 15);have e18:=dep (DE 4 18);have e21:=dep (DE 7 21);exact wpo_callM fid #[.pointer (some ⟨cb,0,none⟩)] (.tmp 15) _ _ rfl (by simpa [Act.eval] using e15) #[.agg #[axl,axh],.agg #[bxl,bxh]] (by simp [Act.eval,e18,e21]) hen
    ((H1.out w1 (S.fr.getO 0 rfl)).mono fun e w' ⟨he,hb⟩=>⟨_,he,kk _ _ (by simp) (Fr.stage (S.fr.turnO 0 rfl hb) (by exact trivial)) rfl⟩)
  ·have e9:=KE 9;have e14:=dep (DE 0 14);go_simp;exact kk _ _
  ·subst hpre;exact oS (eT (dep (DE 9 23))) (eT (dep (DE 8 22))) (gI (S.hi 1 10 rfl rfl) (S.fr.left.get 3 rfl)) (iC [r1l,r1h,0,0,0,0]) i_span fun w' hk ho=>kk _ _ (by simp) (Fr.stage (S.fr.only 3 rfl ho hk) (by exact trivial))
 ·intro vs w3 HFr HR;have HF3:=fW HFr;clear HFr HR;simp only [putAll,Act.put,List.setIfInBounds_toArray,List.set_cons_zero,List.set_cons_succ];go_wp2_with fail
  rw [rounds_succ];go_upto_region 5 with (fail);refine wrf [.p,.p,.p,.p,.p,.p,.p,.p,.c 0,.p,.c 1] [8,10] [] (fun k=>[(cb,153,(if k≤0 then iC [e1] else iC [e2]))]) (fun k=>[(qb,34,iC [axl,axh,ayl,ayh,azl,azh]),(qb+1,34,iC [bxl,bxh,byl,byh,bzl,bzh]),(qb+1+1,34,iC [0,0,0,0,0,0]),(g1,34,(if k≤1 then iC [r1l,r1h,0,0,0,0] else iC [r1l,r1h,r2l,r2h,0,0]))]) (rV [.int .i64 1,.func (.func fid) #[.pointer (some ⟨cb,0,none⟩)] #[],.int .i64 1,.pointer (some ⟨qb,2,none⟩),.agg #[ayl,ayh],.int .i64 1,.pointer (some ⟨qb+1,2,none⟩),.agg #[byl,byh],.agg #[r2l,r2h],.pointer (some ⟨g1,2,none⟩)]) [] HF3.out ?_ ?_
  ·refine ⟨?_,?_,?_,?_,?_,?_,?_,?_,?_,?_,?_,trivial⟩
   all_goals intro a w1 vs dn k K S hpre KE DE kk
   ·have e10:=KE 10;go_simp;exact kk _ _
   ·have e1:=KE 1;go_simp;exact kk _ _
   ·have e10:=KE 10;go_simp;exact kk _ _
   ·have e6:=KE 6;have e16:=dep (DE 2 16);go_simp;exact kk _ _
   ·exact oM (eT (dep (DE 3 17))) (S.fr.left.get 0 rfl) (kk _ _)
   ·have e10:=KE 10;go_simp;exact kk _ _
   ·have e7:=KE 7;have e19:=dep (DE 5 19);go_simp;exact kk _ _
   ·exact oM (eT (dep (DE 6 20))) (S.fr.left.get 1 rfl) (kk _ _)
   ·subst hpre;have e15:=dep (DE 1 15);have e18:=dep (DE 4 18);have e21:=dep (DE 7 21);exact wpo_callM fid #[.pointer (some ⟨cb,0,none⟩)] (.tmp 15) _ _ rfl (by simpa [Act.eval] using e15) #[.agg #[ayl,ayh],.agg #[byl,byh]] (by simp [Act.eval,e18,e21]) hen
     ((H2.out w1 (S.fr.getO 0 rfl)).mono fun e w' ⟨he,hb⟩=>⟨_,he,kk _ _ (by simp) (Fr.stage (S.fr.turnO 0 rfl hb) (by exact trivial)) rfl⟩)
   ·have e9:=KE 9;have e14:=dep (DE 0 14);go_simp;exact kk _ _
   ·subst hpre;exact oS (eT (dep (DE 9 23))) (eT (dep (DE 8 22))) (gI (S.hi 1 10 rfl rfl) (S.fr.left.get 3 rfl)) (iC [r1l,r1h,r2l,r2h,0,0]) i_span fun w' hk ho=>kk _ _ (by simp) (Fr.stage (S.fr.only 3 rfl ho hk) (by exact trivial))
  ·intro vs w4 HFr HR;have HF4:=fW HFr;clear HFr HR;simp only [putAll,Act.put,List.setIfInBounds_toArray,List.set_cons_zero,List.set_cons_succ];go_wp2_with fail
   rw [rounds_succ];go_upto_region 5 with (fail);refine wrf [.p,.p,.p,.p,.p,.p,.p,.p,.c 0,.p,.c 1] [8,10] [] (fun k=>[(cb,153,(if k≤0 then iC [e2] else iC [e3]))]) (fun k=>[(qb,34,iC [axl,axh,ayl,ayh,azl,azh]),(qb+1,34,iC [bxl,bxh,byl,byh,bzl,bzh]),(qb+1+1,34,iC [0,0,0,0,0,0]),(g1,34,(if k≤1 then iC [r1l,r1h,r2l,r2h,0,0] else iC [r1l,r1h,r2l,r2h,r3l,r3h]))]) (rV [.int .i64 2,.func (.func fid) #[.pointer (some ⟨cb,0,none⟩)] #[],.int .i64 2,.pointer (some ⟨qb,4,none⟩),.agg #[azl,azh],.int .i64 2,.pointer (some ⟨qb+1,4,none⟩),.agg #[bzl,bzh],.agg #[r3l,r3h],.pointer (some ⟨g1,4,none⟩)]) [] HF4.out ?_ ?_
   ·refine ⟨?_,?_,?_,?_,?_,?_,?_,?_,?_,?_,?_,trivial⟩
    all_goals intro a w1 vs dn k K S hpre KE DE kk
    ·have e10:=KE 10;go_simp;exact kk _ _
    ·have e1:=KE 1;go_simp;exact kk _ _
    ·have e10:=KE 10;go_simp;exact kk _ _
    ·have e6:=KE 6;have e16:=dep (DE 2 16);go_simp;exact kk _ _
    ·exact oM (eT (dep (DE 3 17))) (S.fr.left.get 0 rfl) (kk _ _)
    ·have e10:=KE 10;go_simp;exact kk _ _
    ·have e7:=KE 7;have e19:=dep (DE 5 19);go_simp;exact kk _ _
    ·exact oM (eT (dep (DE 6 20))) (S.fr.left.get 1 rfl) (kk _ _)
    ·subst hpre;have e15:=dep (DE 1 15);have e18:=dep (DE 4 18);have e21:=dep (DE 7 21);exact wpo_callM fid #[.pointer (some ⟨cb,0,none⟩)] (.tmp 15) _ _ rfl (by simpa [Act.eval] using e15) #[.agg #[azl,azh],.agg #[bzl,bzh]] (by simp [Act.eval,e18,e21]) hen
      ((H3.out w1 (S.fr.getO 0 rfl)).mono fun e w' ⟨he,hb⟩=>⟨_,he,kk _ _ (by simp) (Fr.stage (S.fr.turnO 0 rfl hb) (by exact trivial)) rfl⟩)
    ·have e9:=KE 9;have e14:=dep (DE 0 14);go_simp;exact kk _ _
    ·subst hpre;exact oS (eT (dep (DE 9 23))) (eT (dep (DE 8 22))) (gI (S.hi 1 10 rfl rfl) (S.fr.left.get 3 rfl)) (iC [r1l,r1h,r2l,r2h,r3l,r3h]) i_span fun w' hk ho=>kk _ _ (by simp) (Fr.stage (S.fr.only 3 rfl ho hk) (by exact trivial))
   ·intro vs w5 HFr HR;have HF5:=fW HFr;clear HFr HR;simp only [putAll,Act.put,List.setIfInBounds_toArray,List.set_cons_zero,List.set_cons_succ];go_wp2_with fail
    rw [rounds_succ];go_wp2_with (first
      | (refine lF (gN HF5 3) #[r1l,r1h,r2l,r2h,r3l,r3h] u_34 i_34 ?_)
      | (refine sW 2 HF5.out i_34 fun w6 HF7=>?_))
    refine ret_agg rfl rfl rfl (HF7.out.get 2 rfl) u_34 rfl i_34 ?_
    exact HFIN.out _ HF7.out.drop
theorem cby_any (cb:Nat) (e:Int) (fid:Nat) (op:SpanD→SpanD→CM SpanD) (hop:∀ e a b w,WdS a→WdS b→Bk w cb 153 #[.int .i64 e]→Calls Tryz.prog fid #[.pointer (some ⟨cb,0,none⟩),spanV a,spanV b] w (CkPost cb (op a b e) w)) (hen:∀ args w,(callFunc fid args).run Tryz.prog w=.ok (.enter fid args) w)
  (a:SpanD) (b:BoxD) (ha:WdS a) (hb:WdB b) (w:World) (hk:Bk w cb 153 #[.int .i64 e]):Calls Tryz.prog 169 #[.pointer (some ⟨cb,0,none⟩),.func (.func fid) #[.pointer (some ⟨cb,0,none⟩)] #[],spanV a,boxV b] w (CkBox cb (byM op a b e) w):=by
 have HKC:=hZ hk;have H1:=fun w hk=>ceach_any cb e fid op hop hen (allBox a) b ⟨ha,ha,ha⟩ hb w hk;have hr:byM op a b e=eachM op (allBox a) b e:=rfl;rw [hr];obtain ⟨⟨⟨⟨r1l,r1h⟩,⟨r2l,r2h⟩,⟨r3l,r3h⟩⟩,re⟩,h1⟩:∃ z:BoxD × Int,eachM op (allBox a) b e=z:=⟨_,rfl⟩;rw [h1] at H1 ⊢;have HFIN:Hid (∀ w',Fr w [(cb,153,#[.int .i64 re])] [] w'→CkBox cb (⟨⟨r1l,r1h⟩,⟨r2l,r2h⟩,⟨r3l,r3h⟩⟩,re) w (.returned (.agg #[r1l,r1h,r2l,r2h,r3l,r3h])) w'):=hZ fun w' h=>⟨rfl,h⟩;obtain ⟨al,ah⟩:=a;obtain ⟨⟨bxl,bxh⟩,⟨byl,byh⟩,⟨bzl,bzh⟩⟩:=b;clear hop hen ha hb h1 hr;unfold CkBox boxV allBox at H1;unfold boxV spanV;dsimp only at H1 ⊢;replace H1:=hZ H1;obtain ⟨qb,W0,hqb,hW0,HF0⟩:=fM (Fr.start1 HKC.out) [(#[al,ah],31),(#[bxl,bxh,byl,byh,bzl,bzh],34),(#[(0:Int),(0:Int),(0:Int),(0:Int),(0:Int),(0:Int)],34)];clear hk;go_enter Tryz.func169,Tryz.ntmps169;go_upto_region 1 with (fail);clear hW0 hqb;go_wp2_with (first
   | (refine lS (gN HF0 0) al ah ?_)
   | (refine lF (gN HF0 1) #[bxl,bxh,byl,byh,bzl,bzh] u_34 i_34 ?_))
 refine (H1.out _ (HF0.out.getO 0 rfl)).mono ?_
 rintro e w1 ⟨rfl,hw⟩;have HF2:=fN (HF0.out.turnO 0 rfl hw);clear hw;go_wp2_with (refine sW 2 HF2.out i_34 fun w3 HF4=>?_)
 refine ret_agg rfl rfl rfl (HF4.out.get 2 rfl) u_34 rfl i_34 ?_
 exact HFIN.out _ HF4.out.drop

theorem wd_each {op:SpanD→SpanD→CM SpanD} (h:∀ a b e,WdS (op a b e).1) (a b:BoxD) (e:Int):WdB (eachM op a b e).1:=by
 unfold eachM CM.bnd CM.ret;exact ⟨h _ _ _,h _ _ _,h _ _ _⟩
theorem wd_by {op:SpanD→SpanD→CM SpanD} (h:∀ a b e,WdS (op a b e).1) (a:SpanD) (b:BoxD) (e:Int):WdB (byM op a b e).1:=wd_each h _ _ _
theorem wd_addM (a b:SpanD) (e:Int):WdS (addM a b e).1:=wd_do wd_add a b e
theorem wd_subM (a b:SpanD) (e:Int):WdS (subM a b e).1:=wd_do wd_sub a b e
theorem wd_mulM (a b:SpanD) (e:Int):WdS (mulM a b e).1:=wd_do wd_mul a b e
theorem wd_divM (a b:SpanD) (e:Int):WdS (divM a b e).1:=wd_do wd_div a b e
theorem bymul_any (cb:Nat) (e:Int) (a:SpanD) (b:BoxD) (ha:WdS a) (hb:WdB b) (w:World) (hk:Bk w cb 153 #[.int .i64 e]):Calls Tryz.prog 169 #[.pointer (some ⟨cb,0,none⟩),.func (.func 118) #[.pointer (some ⟨cb,0,none⟩)] #[],spanV a,boxV b] w (CkBox cb (byM mulM a b e) w) :=
 cby_any cb e 118 mulM (fun e a b w ha hb hk=>cmul_any cb e a b ha hb w hk) (fun args w=>by kernel_rfl) a b ha hb w hk
theorem eachadd_any (cb:Nat) (e:Int) (a b:BoxD) (ha:WdB a) (hb:WdB b) (w:World) (hk:Bk w cb 153 #[.int .i64 e]):Calls Tryz.prog 166 #[.pointer (some ⟨cb,0,none⟩),.func (.func 116) #[.pointer (some ⟨cb,0,none⟩)] #[],boxV a,boxV b] w (CkBox cb (eachM addM a b e) w) :=
 ceach_any cb e 116 addM (fun e a b w ha hb hk=>cadd_any cb e a b ha hb w hk) (fun args w=>by kernel_rfl) a b ha hb w hk
theorem reached_any (cb:Nat) (e:Int) (x:SixD) (d:SpanD) (v f:BoxD) (hx:WdX x) (hd:WdS d) (hv:WdB v) (hf:WdB f) (w:World) (hk:Bk w cb 153 #[.int .i64 e]) :
  Calls Tryz.prog 163 #[.pointer (some ⟨cb,0,none⟩),sixV x,spanV d,boxV v,boxV f] w (CkSix cb (reachedM x d v f e) w):=by
 have HKC:=hZ hk;have HPL:=fun w=>place_any x w;have HSPD:=fun w=>speed_any x w;have H1:=fun w hk=>bymul_any cb e d v hd hv w hk;have w1:=wd_by wd_mulM d v e;obtain ⟨⟨dv,e1⟩,h1⟩:∃ z:BoxD × Int,byM mulM d v e=z:=⟨_,rfl⟩;rw [h1] at H1 w1;have H2:=fun w hk=>eachadd_any cb e1 x.p dv hx.1 w1 w hk;have w2:=wd_each wd_addM x.p dv e1;obtain ⟨⟨p,e2⟩,h2⟩:∃ z:BoxD × Int,eachM addM x.p dv e1=z:=⟨_,rfl⟩;rw [h2] at H2 w2;have H3:=fun w hk=>bymul_any cb e2 d f hd hf w hk;have w3:=wd_by wd_mulM d f e2;obtain ⟨⟨df,e3⟩,h3⟩:∃ z:BoxD × Int,byM mulM d f e2=z:=⟨_,rfl⟩;rw [h3] at H3 w3;have H4:=fun w hk=>eachadd_any cb e3 x.v df hx.2 w3 w hk;obtain ⟨⟨q,e4⟩,h4⟩:∃ z:BoxD × Int,eachM addM x.v df e3=z:=⟨_,rfl⟩;rw [h4] at H4;have HOF:=fun w=>fof_any p q w;have hr:reachedM x d v f e=(⟨p,q⟩,e4):=by
  unfold reachedM CM.bnd CM.ret;simp only [h1,h2,h3,h4]
 rw [hr];have HFIN:Hid (∀ w' v',v'=sixV ⟨p,q⟩→Fr w [(cb,153,#[.int .i64 e4])] [] w'→CkSix cb (⟨p,q⟩,e4) w (.returned v') w'):=hZ fun w' v' hv h=>⟨by rw [hv],h⟩
 refine pQ fun PQ hPQ=>?_
 rw [hPQ] at HFIN;obtain ⟨⟨⟨axl,axh⟩,⟨ayl,ayh⟩,⟨azl,azh⟩⟩,⟨⟨bxl,bxh⟩,⟨byl,byh⟩,⟨bzl,bzh⟩⟩⟩:=x;obtain ⟨dl,dh⟩:=d;obtain ⟨⟨vxl,vxh⟩,⟨vyl,vyh⟩,⟨vzl,vzh⟩⟩:=v;obtain ⟨⟨fxl,fxh⟩,⟨fyl,fyh⟩,⟨fzl,fzh⟩⟩:=f;obtain ⟨⟨uxl,uxh⟩,⟨uyl,uyh⟩,⟨uzl,uzh⟩⟩:=dv;obtain ⟨⟨pxl,pxh⟩,⟨pyl,pyh⟩,⟨pzl,pzh⟩⟩:=p;obtain ⟨⟨gxl,gxh⟩,⟨gyl,gyh⟩,⟨gzl,gzh⟩⟩:=df;obtain ⟨⟨qxl,qxh⟩,⟨qyl,qyh⟩,⟨qzl,qzh⟩⟩:=q;clear hx hd hv hf h1 h2 h3 h4 hr w1 w2 w3 hPQ;unfold CkBox boxV spanV at H1 H3;unfold CkBox boxV at H2 H4;unfold sixV boxV at HPL HSPD HOF;unfold sixV at HFIN;unfold sixV spanV boxV;dsimp only at H1 H2 H3 H4 HPL HSPD HOF HFIN ⊢;replace H1:=hZ H1;replace H2:=hZ H2;replace H3:=hZ H3;replace H4:=hZ H4;replace HPL:=hZ HPL;replace HSPD:=hZ HSPD;replace HOF:=hZ HOF;obtain ⟨qb,W0,hqb,hW0,HF0⟩:=fM (Fr.start1 HKC.out) [(#[axl,axh,ayl,ayh,azl,azh,bxl,bxh,byl,byh,bzl,bzh],208),(#[dl,dh],31),(#[vxl,vxh,vyl,vyh,vzl,vzh],34),(#[fxl,fxh,fyl,fyh,fzl,fzh],34),(#[(0:Int),(0:Int),(0:Int),(0:Int),(0:Int),(0:Int),(0:Int),(0:Int),(0:Int),(0:Int),(0:Int),(0:Int)],208)];clear hk;go_enter Tryz.func163,Tryz.ntmps163;go_upto_region 1 with (fail);clear hW0 hqb;refine wrf [.p,.p,.p,.p,.p,.p,.p,.p,.p,.p,.c 0,.c 1,.a 0,.c 2] [10,11,13] [(12,34,fun k=>(if k≤2 then iC [0,0,0,0,0,0] else iC [pxl,pxh,pyl,pyh,pzl,pzh]))] (fun k=>[(cb,153,#[(match k with | 0=>.int .i64 e | 1=>.int .i64 e1 | 2=>.int .i64 e2 | _=>.int .i64 e2)])]) (fun _=>_) (fun ix u _=>match ix with
     | 0=>u=.pointer (some ⟨cb,0,none⟩)
     | 1=>u=.pointer (some ⟨cb,0,none⟩)
     | 2=>u=.func (.func 116) #[.pointer (some ⟨cb,0,none⟩)] #[]
     | 3=>u=.agg #[axl,axh,ayl,ayh,azl,azh,bxl,bxh,byl,byh,bzl,bzh]
     | 4=>u=.agg #[axl,axh,ayl,ayh,azl,azh]
     | 5=>u=.pointer (some ⟨cb,0,none⟩)
     | 6=>u=.pointer (some ⟨cb,0,none⟩)
     | 7=>u=.func (.func 118) #[.pointer (some ⟨cb,0,none⟩)] #[]
     | 8=>u=.agg #[dl,dh]
     | 9=>u=.agg #[vxl,vxh,vyl,vyh,vzl,vzh]
     | 10=>u=.agg #[uxl,uxh,uyl,uyh,uzl,uzh]
     | 11=>u=.agg #[pxl,pxh,pyl,pyh,pzl,pzh]
     | 12=>u=.pointer (some ⟨gOf u,0,none⟩)
     | _=>True) [12] HF0.out ?_ ?_
 ·refine ⟨?_,?_,?_,?_,?_,?_,?_,?_,?_,?_,?_,?_,?_,?_,trivial⟩
  all_goals intro a w1 vs dn k K S hpre KE DE kk
  ·have e0:=KE 0;go_simp;exact kk _ _
  ·have e0:=KE 0;go_simp;exact kk _ _
  ·have e13:=dep (DE 1 13);go_simp;exact kk _ _
  ·exact oL (eT (KE 6)) (S.fr.left.get 0 rfl) u_208 (kk _ _) i_208
  ·have e15:=dep (DE 3 15);exact oE rfl (HPL.out w1) (by simp [Act.eval,e15]) @kk
  ·have e0:=KE 0;go_simp;exact kk _ _
  ·have e0:=KE 0;go_simp;exact kk _ _
  ·have e18:=dep (DE 6 18);go_simp;exact kk _ _
  ·exact oM (eT (KE 7)) (S.fr.left.get 1 rfl) (kk _ _)
  ·exact oL (eT (KE 8)) (S.fr.left.get 2 rfl) u_34 (kk _ _) i_34
  ·subst hpre;have e17:=dep (DE 5 17);have e19:=dep (DE 7 19);have e20:=dep (DE 8 20);have e21:=dep (DE 9 21);exact oD rfl (H1.out w1 (S.fr.getO 0 rfl)) (by simp [Act.eval,e17,e19,e20,e21]) fun w' hb=>kk _ _ (by simp) (Fr.stage (S.fr.turnO 0 rfl hb) (by exact ⟨rfl,trivial⟩))
  ·subst hpre;have e12:=dep (DE 0 12);have e14:=dep (DE 2 14);have e16:=dep (DE 4 16);have e22:=dep (DE 10 22);exact oD rfl (H2.out w1 (S.fr.getO 0 rfl)) (by simp [Act.eval,e12,e14,e16,e22]) fun w' hb=>kk _ _ (by simp) (Fr.stage (S.fr.turnO 0 rfl hb) (by exact ⟨rfl,trivial⟩))
  ·go_simp;exact kk _ _ (by simp) (by have h:=S.fr.alloc rfl 34 #[(0:Int),(0:Int),(0:Int),(0:Int),(0:Int),(0:Int)];show Fr _ _ (_ ++ [(_,34,if k≤2 then _ else _)]) _;rw [if_pos (S.hi 2 13 rfl rfl)];exact h) rfl
  ·subst hpre;have e11:=dep (DE 12 11);have e23:=dep (DE 11 23);have HS:=Fr.done S.fr (by exact ⟨S.done 12 rfl,trivial⟩)
   exact oW (eT e11) (eT e23) (HS.get 5 rfl) i_34 fun w' hk ho=>kk _ _ (by simp) (Fr.undone (HS.only 5 rfl ho hk) (by exact ⟨S.done 12 rfl,trivial⟩)) trivial
 ·intro vs wf HFr HR;have HFr':Fr w [(cb,153,iC [e2])] [(qb,208,iC [axl,axh,ayl,ayh,azl,azh,bxl,bxh,byl,byh,bzl,bzh]),(qb+1,31,iC [dl,dh]),(qb+1+1,34,iC [vxl,vxh,vyl,vyh,vzl,vzh]),(qb+1+1+1,34,iC [fxl,fxh,fyl,fyh,fzl,fzh]),(qb+1+1+1+1,208,iC [0,0,0,0,0,0,0,0,0,0,0,0]),((gOf (vs 12)),34,iC [pxl,pxh,pyl,pyh,pzl,pzh])] wf:=HFr;have v12:vs 12=.pointer (some ⟨(gOf (vs 12)),0,none⟩):=HR 12 _ rfl;clear HFr HR;obtain ⟨g1_12,hg1_12⟩:=eX (gOf (vs 12));rw [hg1_12] at HFr';rw [hg1_12] at v12;clear hg1_12;have HF1:=hZ HFr';clear HFr';simp only [putAll,Act.put,List.setIfInBounds_toArray,List.set_cons_zero,List.set_cons_succ];simp only [v12];clear v12;obtain ⟨w1,rfl⟩:∃ u:World,u=wf:=⟨_,rfl⟩;go_upto_region 2 with (fail);refine wrf [.p,.p,.p,.p,.p,.p,.p,.p,.p,.p,.p,.c 0,.c 1,.p,.c 2] [11,12,14] [] (fun k=>[(cb,153,#[(match k with | 0=>.int .i64 e2 | 1=>.int .i64 e3 | 2=>.int .i64 e4 | _=>.int .i64 e4)])]) (fun k=>[(qb,208,iC [axl,axh,ayl,ayh,azl,azh,bxl,bxh,byl,byh,bzl,bzh]),(qb+1,31,iC [dl,dh]),(qb+1+1,34,iC [vxl,vxh,vyl,vyh,vzl,vzh]),(qb+1+1+1,34,iC [fxl,fxh,fyl,fyh,fzl,fzh]),(qb+1+1+1+1,208,(if k≤2 then iC [0,0,0,0,0,0,0,0,0,0,0,0] else iC [pxl,pxh,pyl,pyh,pzl,pzh,qxl,qxh,qyl,qyh,qzl,qzh])),(g1_12,34,iC [pxl,pxh,pyl,pyh,pzl,pzh])]) (rV [.agg #[pxl,pxh,pyl,pyh,pzl,pzh],.pointer (some ⟨cb,0,none⟩),.pointer (some ⟨cb,0,none⟩),.func (.func 116) #[.pointer (some ⟨cb,0,none⟩)] #[],.agg #[axl,axh,ayl,ayh,azl,azh,bxl,bxh,byl,byh,bzl,bzh],.agg #[bxl,bxh,byl,byh,bzl,bzh],.pointer (some ⟨cb,0,none⟩),.pointer (some ⟨cb,0,none⟩),.func (.func 118) #[.pointer (some ⟨cb,0,none⟩)] #[],.agg #[dl,dh],.agg #[fxl,fxh,fyl,fyh,fzl,fzh],.agg #[gxl,gxh,gyl,gyh,gzl,gzh],.agg #[qxl,qxh,qyl,qyh,qzl,qzh],.agg #[pxl,pxh,pyl,pyh,pzl,pzh,qxl,qxh,qyl,qyh,qzl,qzh]]) [] HF1.out ?_ ?_
  ·refine ⟨?_,?_,?_,?_,?_,?_,?_,?_,?_,?_,?_,?_,?_,?_,?_,trivial⟩
   all_goals intro a w1 vs dn k K S hpre KE DE kk
   ·exact oL (eT (KE 11)) (S.fr.left.get 5 rfl) u_34 (kk _ _) i_34
   ·have e0:=KE 0;go_simp;exact kk _ _
   ·have e0:=KE 0;go_simp;exact kk _ _
   ·have e26:=dep (DE 2 26);go_simp;exact kk _ _
   ·exact oL (eT (KE 6)) (S.fr.left.get 0 rfl) u_208 (kk _ _) i_208
   ·have e28:=dep (DE 4 28);exact oE rfl (HSPD.out w1) (by simp [Act.eval,e28]) @kk
   ·have e0:=KE 0;go_simp;exact kk _ _
   ·have e0:=KE 0;go_simp;exact kk _ _
   ·have e31:=dep (DE 7 31);go_simp;exact kk _ _
   ·exact oM (eT (KE 7)) (S.fr.left.get 1 rfl) (kk _ _)
   ·exact oL (eT (KE 9)) (S.fr.left.get 3 rfl) u_34 (kk _ _) i_34
   ·subst hpre;have e30:=dep (DE 6 30);have e32:=dep (DE 8 32);have e33:=dep (DE 9 33);have e34:=dep (DE 10 34);exact oD rfl (H3.out w1 (S.fr.getO 0 rfl)) (by simp [Act.eval,e30,e32,e33,e34]) fun w' hb=>kk _ _ (by simp) (Fr.stage (S.fr.turnO 0 rfl hb) (by exact trivial))
   ·subst hpre;have e25:=dep (DE 1 25);have e27:=dep (DE 3 27);have e29:=dep (DE 5 29);have e35:=dep (DE 11 35);exact oD rfl (H4.out w1 (S.fr.getO 0 rfl)) (by simp [Act.eval,e25,e27,e29,e35]) fun w' hb=>kk _ _ (by simp) (Fr.stage (S.fr.turnO 0 rfl hb) (by exact trivial))
   ·have e24:=dep (DE 0 24);have e36:=dep (DE 12 36);exact oE rfl (HOF.out w1) (by simp [Act.eval,e24,e36]) @kk
   ·subst hpre;exact oW (eT (KE 10)) (eT (dep (DE 13 37))) (gI (S.hi 2 14 rfl rfl) (S.fr.left.get 4 rfl)) i_208 fun w' hk ho=>kk _ _ (by simp) (Fr.stage (S.fr.only 4 rfl ho hk) (by exact trivial))
  ·intro vs w2 HFr HR;have HF2:=fW HFr;clear HFr HR;simp only [putAll,Act.put,List.setIfInBounds_toArray,List.set_cons_zero,List.set_cons_succ];go_wp2_with fail
   refine ret_agg rfl rfl rfl (HF2.out.get 4 rfl) u_208 rfl i_208 ?_
   exact HFIN.out _ _ rfl HF2.out.drop
def modelV (p:PlanetD) (a:ArcD) (A:Option Addr) (n c:Nat):Value:=.agg #[p.mu.lo,p.mu.hi,p.radius.lo,p.radius.hi,p.oblate.lo,p.oblate.hi,p.spin.lo,p.spin.hi,p.pull.x.lo,p.pull.x.hi,p.pull.y.lo,p.pull.y.hi,p.pull.z.lo,p.pull.z.hi,a.time,a.step,a.thrust.lo,a.thrust.hi,a.flow.lo,a.flow.hi,a.dir.x.lo,a.dir.x.hi,a.dir.y.lo,a.dir.y.hi,a.dir.z.lo,a.dir.z.hi,.slice A n c,a.drop.lo,a.drop.hi]
theorem zero0_any (w:World):Calls Tryz.prog 165 #[.agg #[.int .i64 0,.int .i64 0]] w fun e w'=>e=.returned (.bool true)∧Below w.heap.size w w':=zeroS_any zeroS w
theorem force0_any (p:PlanetD) (a:ArcD) (A:Option Addr) (c:Nat) (hmu:p.mu=zeroS) (hsp:p.spin=zeroS) (hth:a.thrust=zeroS) (cb:Nat) (e:Int) (x:SixD) (m:SpanD) (w:World) (hk:Bk w cb 153 #[.int .i64 e]) :
  Calls Tryz.prog 121 #[modelV p a A 0 c,.pointer (some ⟨cb,0,none⟩),sixV x,spanV m] w (CkBox cb (p.pull,e) w):=by
 have HKC:=hZ hk;have HPL:=fun w=>place_any x w;have HSPD:=fun w=>speed_any x w;have HZ:=hZ zero0_any;obtain ⟨⟨mul,muh⟩,⟨rl,rh⟩,⟨ol,oh⟩,⟨sl,sh⟩,⟨⟨pxl,pxh⟩,⟨pyl,pyh⟩,⟨pzl,pzh⟩⟩⟩:=p;obtain ⟨time,step,⟨tl,th⟩,⟨fl,fh⟩,⟨⟨dxl,dxh⟩,⟨dyl,dyh⟩,⟨dzl,dzh⟩⟩,drag,⟨dl,dh⟩⟩:=a;obtain ⟨ml,mh⟩:=m;obtain ⟨⟨⟨axl,axh⟩,⟨ayl,ayh⟩,⟨azl,azh⟩⟩,⟨⟨bxl,bxh⟩,⟨byl,byh⟩,⟨bzl,bzh⟩⟩⟩:=x;unfold zeroS at hmu hsp hth;injection hmu with h1 h2
 injection hsp with h3 h4
 injection hth with h5 h6
 subst h1 h2 h3 h4 h5 h6;have HFIN:Hid (∀ w',Fr w [(cb,153,#[.int .i64 e])] [] w'→CkBox cb (⟨⟨pxl,pxh⟩,⟨pyl,pyh⟩,⟨pzl,pzh⟩⟩,e) w (.returned (.agg #[pxl,pxh,pyl,pyh,pzl,pzh])) w'):=hZ fun w' h=>⟨rfl,h⟩;refine pQ fun PQ hPQ=>?_
 try dsimp only
 rw [hPQ] at HFIN;clear hPQ;unfold sixV boxV at HPL HSPD;unfold modelV sixV spanV;dsimp only at HPL HSPD ⊢;replace HPL:=hZ HPL;replace HSPD:=hZ HSPD;obtain ⟨qb,W0,hqb,hW0,HF0⟩:=fM (Fr.start1 HKC.out) [(#[(0:Int),(0:Int),rl,rh,ol,oh,(0:Int),(0:Int),pxl,pxh,pyl,pyh,pzl,pzh,time,step,(0:Int),(0:Int),fl,fh,dxl,dxh,dyl,dyh,dzl,dzh,.slice A 0 c,dl,dh],160),(#[axl,axh,ayl,ayh,azl,azh,bxl,bxh,byl,byh,bzl,bzh],208),(#[ml,mh],31),(#[(0:Int),(0:Int),(0:Int),(0:Int),(0:Int),(0:Int)],34)];clear hk;go_enter Tryz.func121,Tryz.ntmps121;go_upto_region 1 with (fail);clear hW0 hqb;obtain ⟨g1,hg1⟩:=eX W0.heap.size;obtain ⟨w1,hw1⟩:=eX (W0.alloc (.cells #[(0:Int),(0:Int),(0:Int),(0:Int),(0:Int),(0:Int)] 34));have HF2:=fE hw1 (HF0.out.alloc hg1.symm 34 #[(0:Int),(0:Int),(0:Int),(0:Int),(0:Int),(0:Int)]);go_upto_region 2 with (first
   | (refine lF (gN HF0 0) #[pxl,pxh,pyl,pyh,pzl,pzh] u_34 i_34 ?_)
   | (refine sW 4 HF2.out i_34 fun w3 HF4=>?_;clear hw1 hg1))
 refine wrf [.p,.p,.p,.p,.a 0,.a 1,.c 0,.c 1] [6,7] [(4,34,fun k=>(if k≤0 then iC [0,0,0,0,0,0] else iC [axl,axh,ayl,ayh,azl,azh])),(5,34,fun k=>(if k≤1 then iC [0,0,0,0,0,0] else iC [bxl,bxh,byl,byh,bzl,bzh]))] (fun _=>_) (fun _=>_) (fun ix u _=>match ix with
     | 0=>u=.agg #[axl,axh,ayl,ayh,azl,azh,bxl,bxh,byl,byh,bzl,bzh]
     | 1=>u=.agg #[axl,axh,ayl,ayh,azl,azh]
     | 2=>u=.agg #[axl,axh,ayl,ayh,azl,azh,bxl,bxh,byl,byh,bzl,bzh]
     | 3=>u=.agg #[bxl,bxh,byl,byh,bzl,bzh]
     | 4=>u=.pointer (some ⟨gOf u,0,none⟩)
     | 5=>u=.pointer (some ⟨gOf u,0,none⟩)
     | _=>True) [4,5] HF4.out ?_ ?_
 ·refine ⟨?_,?_,?_,?_,?_,?_,?_,?_,trivial⟩
  all_goals intro a w1 vs dn k K S hpre KE DE kk
  ·exact oL (eT (KE 6)) (S.fr.left.get 1 rfl) u_208 (kk _ _) i_208
  ·have e21:=dep (DE 0 21);exact oE rfl (HPL.out w1) (by simp [Act.eval,e21]) @kk
  ·exact oL (eT (KE 6)) (S.fr.left.get 1 rfl) u_208 (kk _ _) i_208
  ·have e23:=dep (DE 2 23);exact oE rfl (HSPD.out w1) (by simp [Act.eval,e23]) @kk
  ·go_simp;exact kk _ _ (by simp) (by have h:=S.fr.alloc rfl 34 #[(0:Int),(0:Int),(0:Int),(0:Int),(0:Int),(0:Int)];show Fr _ _ (_ ++ [(_,34,if k≤0 then _ else _)]) _;rw [if_pos (S.hi 0 6 rfl rfl)];exact h) rfl
  ·go_simp;exact kk _ _ (by simp) (by have h:=S.fr.alloc rfl 34 #[(0:Int),(0:Int),(0:Int),(0:Int),(0:Int),(0:Int)];show Fr _ _ (_ ++ [(_,34,if k≤1 then _ else _)]) _;rw [if_pos (S.hi 1 7 rfl rfl)];exact h) rfl
  ·subst hpre;have e10:=dep (DE 4 10);have e22:=dep (DE 1 22);have HS:=Fr.done S.fr (by exact ⟨S.done 4 rfl,S.done 5 rfl,trivial⟩)
   exact oW (eT e10) (eT e22) (HS.get 5 rfl) i_34 fun w' hk ho=>kk _ _ (by simp) (Fr.undone (HS.only 5 rfl ho hk) (by exact ⟨S.done 4 rfl,S.done 5 rfl,trivial⟩)) trivial
  ·subst hpre;have e11:=dep (DE 5 11);have e24:=dep (DE 3 24);have HS:=Fr.done S.fr (by exact ⟨S.done 4 rfl,S.done 5 rfl,trivial⟩)
   exact oW (eT e11) (eT e24) (HS.get 6 rfl) i_34 fun w' hk ho=>kk _ _ (by simp) (Fr.undone (HS.only 6 rfl ho hk) (by exact ⟨S.done 4 rfl,S.done 5 rfl,trivial⟩)) trivial
 ·intro vs wf HFr HR;have HFr':Fr w [(cb,153,iC [e])] [(qb,160,#[(0:Int),(0:Int),rl,rh,ol,oh,(0:Int),(0:Int),pxl,pxh,pyl,pyh,pzl,pzh,time,step,(0:Int),(0:Int),fl,fh,dxl,dxh,dyl,dyh,dzl,dzh,.slice A 0 c,dl,dh]),(qb+1,208,iC [axl,axh,ayl,ayh,azl,azh,bxl,bxh,byl,byh,bzl,bzh]),(qb+1+1,31,iC [ml,mh]),(qb+1+1+1,34,iC [0,0,0,0,0,0]),(g1,34,iC [pxl,pxh,pyl,pyh,pzl,pzh]),((gOf (vs 4)),34,iC [axl,axh,ayl,ayh,azl,azh]),((gOf (vs 5)),34,iC [bxl,bxh,byl,byh,bzl,bzh])] wf:=HFr;have v4:vs 4=.pointer (some ⟨(gOf (vs 4)),0,none⟩):=HR 4 _ rfl;have v5:vs 5=.pointer (some ⟨(gOf (vs 5)),0,none⟩):=HR 5 _ rfl;clear HFr HR;obtain ⟨g5_4,hg5_4⟩:=eX (gOf (vs 4));obtain ⟨g5_5,hg5_5⟩:=eX (gOf (vs 5));rw [hg5_4,hg5_5] at HFr';rw [hg5_4] at v4;rw [hg5_5] at v5;clear hg5_4 hg5_5;have HF5:=hZ HFr';clear HFr';simp only [putAll,Act.put,List.setIfInBounds_toArray,List.set_cons_zero,List.set_cons_succ];simp only [v4,v5];clear v4 v5;obtain ⟨w5,rfl⟩:∃ u:World,u=wf:=⟨_,rfl⟩;obtain ⟨g6,w6,hg6,hw6,HF7⟩:=fA HF5.out #[.int .i64 0,.int .i64 0] 31;go_wp2_with (refine lF (gN HF7 0) #[.int .i64 0,.int .i64 0] u_span i_span ?_)
  clear hw6 hg6;refine mB HF7.out (HZ.out _) fun w8 HF9=>?_;have c10:=cA (gN HF9 0) 26;go_wp2_with (refine lF (gN HF9 0) #[.int .i64 0,.int .i64 0] u_span i_span ?_)
  clear c10;refine mB HF9.out (HZ.out _) fun w11 HF12=>?_;obtain ⟨g13,w13,hg13,hw13,HF14⟩:=fA HF12.out #[.int .i64 0,.int .i64 0] 31;go_wp2_with (first
    | (refine lF (gN HF12 0) #[.int .i64 0,.int .i64 0] u_span i_span ?_)
    | (refine lF (gN HF16 8) #[.int .i64 0,.int .i64 0] u_span i_span ?_)
    | (refine sW 8 HF14.out i_span fun w15 HF16=>?_;clear hw13 hg13))
  refine mB HF16.out (HZ.out _) fun w17 HF18=>?_;go_wp2_with (refine lF (gN HF18 0) #[.int .i64 0,.int .i64 0] u_span i_span ?_)
  refine mB HF18.out (HZ.out _) fun w19 HF20=>?_;have c21:=cA (gN HF20 0) 26;go_wp2_with (first
    | (refine lF (gN HF20 4) #[pxl,pxh,pyl,pyh,pzl,pzh] u_34 i_34 ?_)
    | (refine sW 3 HF20.out i_34 fun w22 HF23=>?_;clear c21))
  refine ret_agg rfl rfl rfl (HF23.out.get 3 rfl) u_34 rfl i_34 ?_
  exact HFIN.out _ HF23.out.drop

theorem spans_any (w:World) (A:Option Addr) (n c:Nat) (v:Nat→SpanD) (h:SpansAt w w.heap.size A n v) (hn:n≤4096) :
  Calls Tryz.prog 91 #[.slice A n c] w fun e w'=>e=.returned (.bool (allN n fun i=>chkB (v i)))∧Below w.heap.size w w':=by
 have HL:=hZ h;obtain ⟨R,hR⟩:∃ R,(allN n fun i=>chkB (v i))=R:=⟨_,rfl⟩;have HR:=hZ hR;rw [hR];clear h hR;go_enter Tryz.func91,Tryz.ntmps91;go_wp2_with fail
 go_loopw [7] (fun iv wr=>∃ k:Nat,k≤n∧iv=.int .i64 k∧Hid (Below w.heap.size w wr∧∀ j,j<k→chkB (v j)=true)) (fun iv _=>n - (intOf iv).toNat)
 case atStart=>exact ⟨0,Nat.zero_le _,rfl,hZ ⟨Below.refl _ _,fun j hj=>absurd hj (Nat.not_lt_zero j)⟩⟩
 case round =>
  obtain ⟨wo,rfl⟩:∃ wo:World,wo=wr:=⟨_,rfl⟩;obtain ⟨k,hk,rfl,hs⟩:=hrel;have HB:=hZ hs.out.1;have HNO:=hZ hs.out.2;clear hs;have h0k:(0:Int)≤(k:Int):=by omega
  by_cases hlt:k<n
  ·have hki:(k:Int)<(n:Int):=by omega
   obtain ⟨b,off,rfl,hbl,d0,d1⟩:=(HL.out.below HB.out).at2 hlt;obtain ⟨x,hx⟩:=eX (v k);simp only [hx] at d0 d1;have H1:=hZ (fun w=>check_any x w);unfold spanV at H1;obtain ⟨er,her⟩:=eX (errC x);rw [her] at H1;have HX:=hZ hx;obtain ⟨xl,hxl⟩:=eX x.lo;obtain ⟨xh,hxh⟩:=eX x.hi;rw [hxl] at d0 H1;rw [hxh] at d1 H1;have HE:=hZ her;have HS2:Hid (∀ j u,(#[Value.int .i64 xl,.int .i64 xh])[j]?=some u→wo.cell? ⟨b,off+k * 2+j,none⟩=some u):=hZ fun j u hj=>by
    match j,hj with
    | 0,hj=>simp at hj;subst hj;exact d0
    | 1,hj=>simp at hj;subst hj;exact d1
    | j+2,hj=>simp at hj
   have HBL:Hid (b<wo.heap.size):=hZ (Nat.lt_of_lt_of_le hbl HB.out.size);obtain ⟨gx,hgx⟩:=eX wo.heap.size;obtain ⟨w1,hw1⟩:=eX (wo.alloc (.cells #[.int .i64 0,.int .i64 0] 31));have HF1:Hid (Fr wo [] [(gx,31,#[.int .i64 0,.int .i64 0])] w1):=hZ (by rw [← hw1];exact (Fr.start wo).alloc hgx.symm 31 #[.int .i64 0,.int .i64 0])
   clear hx hxl hxh her d0 d1 hbl;go_wp2_with (first
    | (refine wpLoadAt rfl 31 _ rfl b (off+k * 2) rfl #[xl,xh] _ HS2.out u_span rfl i_span ?_)
    | (refine wpStoreF rfl rfl 31 _ _ rfl gx 0 rfl #[xl,xh] rfl 31 #[.int .i64 0,.int .i64 0] #[xl,xh] (HF1.out.get 0 rfl) rfl (by show 0+2≤2;omega) (one_all rfl) i_span ?_;intro w2 hk2 ho;have HF2:=fN (HF1.out.only 0 rfl ho hk2);clear ho hk2)
    | (refine lS (gN HF2 0) xl xh ?_))
   clear hw1 hgx;refine (H1.out _).mono ?_
   rintro e w3 ⟨rfl,hw⟩;have HF3:=hZ (HF2.out.below hw);have HB1:Hid (Below w.heap.size w w3):=hZ (HB.out.trans (HF3.out.toBelow.mono HB.out.size));clear hw;by_cases he:er=0
   ·subst he;go_wp2_with fail
    go_roundw
    case rel=>exact ⟨k+1,by omega,by go_num,hZ ⟨HB1.out,fun j hj=>by
     by_cases ej:j=k
     ·subst ej;rw [HX.out];have:=HE.out;unfold errC at this;cases hc:chkB x with
      | true=>rfl
      | false=>rw [hc] at this;exact absurd this (by decide)
     ·exact HNO.out j (by omega)⟩⟩
    case measure=>simp [intOf];omega
   ·have hee:er=2:=by rw [← HE.out] at he ⊢;unfold errC at he ⊢;split at he <;> simp_all
    subst hee;have HF:Hid (R=false):=hZ (by rw [← HR.out,allErr hlt (by rw [HX.out,HE.out];decide)])
    clear he;go_wp2_with fail
    go_ret
    exact ⟨ret_bool HF.out.symm,HB1.out⟩
  ·obtain rfl:k=n:=by omega
   have hki:¬ (k:Int)<(k:Int):=by omega
   have HF:Hid (R=true):=hZ (by rw [← HR.out,allN_iff];exact HNO.out)
   go_wp2_with fail
   go_ret
   exact ⟨ret_bool HF.out.symm,HB.out⟩
theorem spans3_any (a0 a1 a2:SpanD) (w:World) (g:Nat) (t:TypeId) (hk:Bk w g t #[a0.lo,a0.hi,a1.lo,a1.hi,a2.lo,a2.hi]):Calls Tryz.prog 91 #[.slice (some ⟨g,0,none⟩) 3 3] w fun e w'=>e=.returned (.bool (chkB a0 && (chkB a1 && chkB a2)))∧Below w.heap.size w w':=by
 have h:=spans_any w (some ⟨g,0,none⟩) 3 3 (fun i=>match i with | 0=>a0 | 1=>a1 | _=>a2) ⟨by omega,fun _=>⟨g,0,rfl,hk.lt,fun i hi j hj=>by
  match i,j,hi,hj with
  | 0,0,_,_=>exact hk.cell 0
  | 0,1,_,_=>exact hk.cell 1
  | 1,0,_,_=>exact hk.cell 2
  | 1,1,_,_=>exact hk.cell 3
  | 2,0,_,_=>exact hk.cell 4
  | 2,1,_,_=>exact hk.cell 5⟩⟩ (by omega)
 have e:(allN 3 fun i=>chkB ((fun i=>match i with | 0=>a0 | 1=>a1 | _=>a2) i))=(chkB a0 && (chkB a1 && chkB a2)):=by
  show (chkB a0 && (chkB a1 && (chkB a2 && true)))=_
  rw [Bool.and_true]
 rw [e] at h;exact h
theorem spans4_any (a0 a1 a2 a3:SpanD) (w:World) (g:Nat) (t:TypeId) (hk:Bk w g t #[a0.lo,a0.hi,a1.lo,a1.hi,a2.lo,a2.hi,a3.lo,a3.hi]):Calls Tryz.prog 91 #[.slice (some ⟨g,0,none⟩) 4 4] w fun e w'=>e=.returned (.bool (chkB a0 && (chkB a1 && (chkB a2 && chkB a3))))∧Below w.heap.size w w':=by
 have h:=spans_any w (some ⟨g,0,none⟩) 4 4 (fun i=>match i with | 0=>a0 | 1=>a1 | 2=>a2 | _=>a3) ⟨by omega,fun _=>⟨g,0,rfl,hk.lt,fun i hi j hj=>by
  match i,j,hi,hj with
  | 0,0,_,_=>exact hk.cell 0
  | 0,1,_,_=>exact hk.cell 1
  | 1,0,_,_=>exact hk.cell 2
  | 1,1,_,_=>exact hk.cell 3
  | 2,0,_,_=>exact hk.cell 4
  | 2,1,_,_=>exact hk.cell 5
  | 3,0,_,_=>exact hk.cell 6
  | 3,1,_,_=>exact hk.cell 7⟩⟩ (by omega)
 have e:(allN 4 fun i=>chkB ((fun i=>match i with | 0=>a0 | 1=>a1 | 2=>a2 | _=>a3) i))=(chkB a0 && (chkB a1 && (chkB a2 && chkB a3))):=by
  show (chkB a0 && (chkB a1 && (chkB a2 && (chkB a3 && true))))=_
  rw [Bool.and_true]
 rw [e] at h;exact h
theorem spans1_any (a0:SpanD) (w:World) (g:Nat) (t:TypeId) (hk:Bk w g t #[.int .i64 a0.lo,.int .i64 a0.hi]):Calls Tryz.prog 91 #[.slice (some ⟨g,0,none⟩) 1 1] w fun e w'=>e=.returned (.bool (chkB a0))∧Below w.heap.size w w':=by
 have h:=spans_any w (some ⟨g,0,none⟩) 1 1 (fun _=>a0) ⟨by omega,fun _=>⟨g,0,rfl,hk.lt,fun i hi j hj=>by
  match i,j,hi,hj with
  | 0,0,_,_=>exact hk.cell 0
  | 0,1,_,_=>exact hk.cell 1⟩⟩ (by omega)
 have e:(allN 1 fun _=>chkB a0)=chkB a0:=by
  show (chkB a0 && true)=_
  rw [Bool.and_true]
 rw [e] at h;exact h
def chkBox (b:BoxD):Bool:=chkB b.x && (chkB b.y && chkB b.z)
theorem boxes1_any (a:BoxD) (w:World) (g:Nat) (t:TypeId) (hk:Bk w g t #[a.x.lo,a.x.hi,a.y.lo,a.y.hi,a.z.lo,a.z.hi]):Calls Tryz.prog 56 #[.slice (some ⟨g,0,none⟩) 1 1] w fun e w'=>e=.returned (.bool (chkBox a))∧Below w.heap.size w w':=by
 have HK:=hZ hk;have HCa:=hZ (fun w g hk=>spans3_any a.x a.y a.z w g 34 hk);have hca:(chkB a.x && (chkB a.y && chkB a.z))=chkBox a:=rfl;rw [hca] at HCa;obtain ⟨ra,hra⟩:=eX (chkBox a);rw [hra] at HCa ⊢;have HFIN:Hid (∀ w',Fr w [] [] w'→Below w.heap.size w w'):=hZ fun w' h=>h.toBelow;obtain ⟨⟨axl,axh⟩,⟨ayl,ayh⟩,⟨azl,azh⟩⟩:=a;dsimp only at HK HCa;clear hk hca hra;have HF0:Hid (Fr w [] [] w):=hZ (Fr.start w);obtain ⟨HKB,hHKB⟩:∃ x:Unit,x=():=⟨(),rfl⟩;clear hHKB HKB;go_enter Tryz.func56,Tryz.ntmps56;go_wp2_with fail
 refine wp_loop_rounds 2 ?_
 rw [rounds_succ];obtain ⟨g1,w1,hg1,hw1,HF2⟩:=fA HF0.out #[(0:Int),(0:Int),(0:Int),(0:Int),(0:Int),(0:Int)] 34;go_wp2_with (first
   | (refine lF HK.out #[axl,axh,ayl,ayh,azl,azh] u_34 i_34 ?_)
   | (refine sW 0 HF2.out i_34 fun w3 HF4=>?_;clear hw1 hg1))
 refine mB HF4.out (HCa.out _ g1 (HF4.out.get 0 rfl)) fun w5 HF6=>?_;cases ra with
 | false =>
  go_wp2_with fail
  go_ret
  exact ⟨by simp,HFIN.out _ HF6.out.drop⟩
 | true =>
  go_wp2_with fail
  rw [rounds_succ];go_wp2_with fail
  go_ret
  exact ⟨rfl,HFIN.out _ HF6.out.drop⟩
theorem boxes2_any (a b:BoxD) (w:World) (g:Nat) (t:TypeId) (hk:Bk w g t #[a.x.lo,a.x.hi,a.y.lo,a.y.hi,a.z.lo,a.z.hi,b.x.lo,b.x.hi,b.y.lo,b.y.hi,b.z.lo,b.z.hi]):Calls Tryz.prog 56 #[.slice (some ⟨g,0,none⟩) 2 2] w fun e w'=>e=.returned (.bool (chkBox a && chkBox b))∧Below w.heap.size w w':=by
 have HK:=hZ hk;have HCa:=hZ (fun w g hk=>spans3_any a.x a.y a.z w g 34 hk);have hca:(chkB a.x && (chkB a.y && chkB a.z))=chkBox a:=rfl;rw [hca] at HCa;have HCb:=hZ (fun w g hk=>spans3_any b.x b.y b.z w g 34 hk);have hcb:(chkB b.x && (chkB b.y && chkB b.z))=chkBox b:=rfl;rw [hcb] at HCb;obtain ⟨ra,hra⟩:=eX (chkBox a);rw [hra] at HCa ⊢;obtain ⟨rb,hrb⟩:=eX (chkBox b);rw [hrb] at HCb ⊢;have HFIN:Hid (∀ w',Fr w [] [] w'→Below w.heap.size w w'):=hZ fun w' h=>h.toBelow;obtain ⟨⟨axl,axh⟩,⟨ayl,ayh⟩,⟨azl,azh⟩⟩:=a;obtain ⟨⟨bxl,bxh⟩,⟨byl,byh⟩,⟨bzl,bzh⟩⟩:=b;dsimp only at HK HCa HCb;clear hk hca hra hcb hrb;have HF0:Hid (Fr w [] [] w):=hZ (Fr.start w);obtain ⟨HKB,hHKB⟩:∃ x:Unit,x=():=⟨(),rfl⟩;clear hHKB HKB;go_enter Tryz.func56,Tryz.ntmps56;go_wp2_with fail
 refine wp_loop_rounds 3 ?_
 rw [rounds_succ];obtain ⟨g1,w1,hg1,hw1,HF2⟩:=fA HF0.out #[(0:Int),(0:Int),(0:Int),(0:Int),(0:Int),(0:Int)] 34;go_wp2_with (first
   | (refine lF HK.out #[axl,axh,ayl,ayh,azl,azh] u_34 i_34 ?_)
   | (refine sW 0 HF2.out i_34 fun w3 HF4=>?_;clear hw1 hg1))
 refine mB HF4.out (HCa.out _ g1 (HF4.out.get 0 rfl)) fun w5 HF6=>?_;cases ra with
 | false =>
  go_wp2_with fail
  go_ret
  exact ⟨by simp,HFIN.out _ HF6.out.drop⟩
 | true =>
  go_wp2_with fail
  rw [rounds_succ];have HK1:=hZ (HK.out.below HF6.out.toBelow HK.out.lt);obtain ⟨g7,w7,hg7,hw7,HF8⟩:=fA HF6.out #[(0:Int),(0:Int),(0:Int),(0:Int),(0:Int),(0:Int)] 34;go_wp2_with (first
    | (refine lF HK1.out #[bxl,bxh,byl,byh,bzl,bzh] u_34 i_34 ?_)
    | (refine sW 1 HF8.out i_34 fun w9 HF10=>?_;clear hw7 hg7))
  refine mB HF10.out (HCb.out _ g7 (HF10.out.get 1 rfl)) fun w11 HF12=>?_;cases rb with
  | false =>
   go_wp2_with fail
   go_ret
   exact ⟨by simp,HFIN.out _ HF12.out.drop⟩
  | true =>
   go_wp2_with fail
   rw [rounds_succ];go_wp2_with fail
   go_ret
   exact ⟨rfl,HFIN.out _ HF12.out.drop⟩
def planetB (p:PlanetD):Bool:=chkBox p.pull && (chkB p.mu && (chkB p.radius && (chkB p.oblate && chkB p.spin))) && !(decide (p.mu.lo<0)) && !(decide (p.radius.lo<0))
theorem checkPlanet_any (p:PlanetD) (w:World):Calls Tryz.prog 43 #[planetV p] w fun e w'=>e=.returned (.int .i64 (if planetB p=true then 0 else 2))∧Below w.heap.size w w':=by
 have HB:=hZ (fun w g hk=>boxes1_any p.pull w g 34 hk);have HS:=hZ (fun w g hk=>spans4_any p.mu p.radius p.oblate p.spin w g 31 hk);have HFIN:Hid (∀ w' r,r=(if planetB p=true then (0:Int) else 2)→Fr w [] [] w'→(Ending.returned (.int .i64 r)=.returned (.int .i64 (if planetB p=true then 0 else 2))∧Below w.heap.size w w')):=hZ fun w' r hr h=>⟨by rw [hr],h.toBelow⟩
 refine pQ fun PQ hPQ=>?_
 replace HFIN:Hid (∀ w' r,r=(if planetB p=true then (0:Int) else 2)→Fr w [] [] w'→PQ (.returned (.int .i64 r)) w'):=hZ fun w' r hr h=>by rw [← hPQ];exact HFIN.out w' r hr h
 clear hPQ;unfold planetB at HFIN;obtain ⟨rb,hrb⟩:=eX (chkBox p.pull);obtain ⟨rs,hrs⟩:=eX (chkB p.mu && (chkB p.radius && (chkB p.oblate && chkB p.spin)));rw [hrb] at HB HFIN;rw [hrs] at HS HFIN;obtain ⟨⟨mul,muh⟩,⟨rl,rh⟩,⟨ol,oh⟩,⟨sl,sh⟩,⟨⟨pxl,pxh⟩,⟨pyl,pyh⟩,⟨pzl,pzh⟩⟩⟩:=p;dsimp only at HB HS HFIN;unfold planetV;dsimp only;clear hrb hrs;obtain ⟨qb,W0,hqb,hW0,HF0⟩:=fM (Fr.start w) [(#[mul,muh,rl,rh,ol,oh,sl,sh,pxl,pxh,pyl,pyh,pzl,pzh],36)];go_enter Tryz.func43,Tryz.ntmps43;go_upto_region 1 with (fail);clear hW0 hqb;obtain ⟨g1,hg1⟩:=eX W0.heap.size;obtain ⟨w1,hw1⟩:=eX (W0.alloc (.cells #[pxl,pxh,pyl,pyh,pzl,pzh] 34));have HF2:=fE hw1 (HF0.out.alloc hg1.symm 34 #[pxl,pxh,pyl,pyh,pzl,pzh]);go_wp2_with (refine lF (gN HF0 0) #[pxl,pxh,pyl,pyh,pzl,pzh] u_34 i_34 ?_)
 clear hw1 hg1;refine mB HF2.out (HB.out _ g1 (HF2.out.get 1 rfl)) fun w3 HF4=>?_;cases rb with
 | false =>
  go_wp2_with fail
  exact HFIN.out _ _ (by simp) HF4.out.drop
 | true =>
  obtain ⟨g5,w5,hg5,hw5,HF6⟩:=fA HF4.out #[mul,muh,rl,rh,ol,oh,sl,sh] 31;go_wp2_with (first
    | (refine wpLoadFG rfl 31 _ rfl qb 0 rfl _ _ (HF4.out.get 0 rfl) #[mul,muh] rfl _ u_span rfl i_span ?_)
    | (refine wpLoadFG rfl 31 _ rfl qb 2 rfl _ _ (HF4.out.get 0 rfl) #[rl,rh] rfl _ u_span rfl i_span ?_)
    | (refine wpLoadFG rfl 31 _ rfl qb 4 rfl _ _ (HF4.out.get 0 rfl) #[ol,oh] rfl _ u_span rfl i_span ?_)
    | (refine wpLoadFG rfl 31 _ rfl qb 6 rfl _ _ (HF4.out.get 0 rfl) #[sl,sh] rfl _ u_span rfl i_span ?_))
  clear hw5 hg5;refine mB HF6.out (HS.out _ g5 (HF6.out.get 2 rfl)) fun w7 HF8=>?_;cases rs with
  | false =>
   go_wp2_with fail
   exact HFIN.out _ _ (by simp) HF8.out.drop
  | true =>
   by_cases hm:mul<0
   ·have g1:decide (mul<0)=true:=decide_eq_true hm;have HM:=hZ hm;clear hm;have c9:=cA (gN HF8 0) 0;go_wp2_with fail
    clear c9;exact HFIN.out _ _ (by simp [HM.out]) HF8.out.drop
   ·have g1:decide (mul<0)=false:=decide_eq_false hm;have HM:=hZ hm;clear hm;by_cases hm:rl<0
    ·have g2:decide (rl<0)=true:=decide_eq_true hm;have HR:=hZ hm;clear hm;have c9:=cA (gN HF8 0) 0;have c10:=cA (gN HF8 0) 2;go_wp2_with fail
     clear c9 c10;exact HFIN.out _ _ (by simp [HR.out]) HF8.out.drop
    ·have g2:decide (rl<0)=false:=decide_eq_false hm;have HR:=hZ hm;clear hm;have c9:=cA (gN HF8 0) 0;have c10:=cA (gN HF8 0) 2;go_wp2_with fail
     clear c9 c10;exact HFIN.out _ _ (by simp [HM.out,HR.out]) HF8.out.drop
def stateB (s:StateD):Bool:=numB s.t && (chkBox s.p && chkBox s.v) && chkB s.m && !(decide (s.m.lo≤0))
theorem checkState_any (s:StateD) (w:World):Calls Tryz.prog 60 #[stateV s] w fun e w'=>e=.returned (.int .i64 (if stateB s=true then 0 else 2))∧Below w.heap.size w w':=by
 have HV:=hZ (fun w=>fvalid_any s.t w);have HB:=hZ (fun w g hk=>boxes2_any s.p s.v w g 34 hk);have HS:=hZ (fun w g hk=>spans1_any s.m w g 31 hk);refine pQ fun PQ hPQ=>?_
 have HFIN:Hid (∀ w' r,r=(if stateB s=true then (0:Int) else 2)→Fr w [] [] w'→PQ (.returned (.int .i64 r)) w'):=hZ fun w' r hr h=>by rw [← hPQ];exact ⟨by rw [hr],h.toBelow⟩
 clear hPQ;unfold stateB at HFIN;obtain ⟨rv,hrv⟩:=eX (numB s.t);obtain ⟨rb,hrb⟩:=eX (chkBox s.p && chkBox s.v);obtain ⟨rs,hrs⟩:=eX (chkB s.m);rw [hrv] at HV HFIN;rw [hrb] at HB HFIN;rw [hrs] at HS HFIN;obtain ⟨st,⟨⟨pxl,pxh⟩,⟨pyl,pyh⟩,⟨pzl,pzh⟩⟩,⟨⟨vxl,vxh⟩,⟨vyl,vyh⟩,⟨vzl,vzh⟩⟩,⟨ml,mh⟩⟩:=s;dsimp only at HB HS HV HFIN;unfold stateV;dsimp only;clear hrv hrb hrs;obtain ⟨qb,W0,hqb,hW0,HF0⟩:=fM (Fr.start w) [(#[st,pxl,pxh,pyl,pyh,pzl,pzh,vxl,vxh,vyl,vyh,vzl,vzh,ml,mh],38)];go_enter Tryz.func60,Tryz.ntmps60;go_upto_region 1 with (fail);clear hW0 hqb;have c1:W0.cell? ⟨qb,0,none⟩=some (.int .i64 st):=(HF0.out.get 0 rfl).cell 0;go_wp2_with fail
 clear c1;refine (HV.out _).mono ?_
 rintro e w2 ⟨rfl,hw⟩;rw [hw];clear hw w2;cases rv with
 | false =>
  go_wp2_with fail
  exact HFIN.out _ _ (by simp) HF0.out.drop
 | true =>
  obtain ⟨g3,hg3⟩:=eX W0.heap.size;obtain ⟨w3,hw3⟩:=eX (W0.alloc (.cells #[pxl,pxh,pyl,pyh,pzl,pzh,vxl,vxh,vyl,vyh,vzl,vzh] 34));have HF4:=fE hw3 (HF0.out.alloc hg3.symm 34 #[pxl,pxh,pyl,pyh,pzl,pzh,vxl,vxh,vyl,vyh,vzl,vzh]);go_wp2_with (first
    | (refine wpLoadFG rfl 34 _ rfl qb 1 rfl _ _ (HF0.out.get 0 rfl) #[pxl,pxh,pyl,pyh,pzl,pzh] rfl _ u_34 rfl i_34 ?_)
    | (refine wpLoadFG rfl 34 _ rfl qb 7 rfl _ _ (HF0.out.get 0 rfl) #[vxl,vxh,vyl,vyh,vzl,vzh] rfl _ u_34 rfl i_34 ?_))
  clear hw3 hg3;refine mB HF4.out (HB.out _ g3 (HF4.out.get 1 rfl)) fun w5 HF6=>?_;cases rb with
  | false =>
   go_wp2_with fail
   exact HFIN.out _ _ (by simp) HF6.out.drop
  | true =>
   obtain ⟨g7,w7,hg7,hw7,HF8⟩:=fA HF6.out #[ml,mh] 31;go_wp2_with (refine wpLoadFG rfl 31 _ rfl qb 13 rfl _ _ (HF6.out.get 0 rfl) #[ml,mh] rfl _ u_span rfl i_span ?_)
   clear hw7 hg7;refine mB HF8.out (HS.out _ g7 (HF8.out.get 2 rfl)) fun w9 HF10=>?_;cases rs with
   | false =>
    go_wp2_with fail
    exact HFIN.out _ _ (by simp) HF10.out.drop
   | true =>
    by_cases hm:ml≤0
    ·have g2:decide (ml≤0)=true:=decide_eq_true hm;have HR:=hZ hm;clear hm;have c11:=cA (gN HF10 0) 13;go_wp2_with fail
     clear c11;exact HFIN.out _ _ (by simp [HR.out]) HF10.out.drop
    ·have g2:decide (ml≤0)=false:=decide_eq_false hm;have HR:=hZ hm;clear hm;have c11:=cA (gN HF10 0) 13;go_wp2_with fail
     clear c11;exact HFIN.out _ _ (by simp [HR.out]) HF10.out.drop

theorem und34a:Tryz.prog.underlying 34=some (.array 3 31):=by kernel_rfl
theorem index34 (a b c d e f:Value) (w:World):(Instr.index 34 (.agg #[a,b,c,d,e,f]) (.int .i64 0)).run Tryz.prog w=.ok (.agg #[a,b]) w∧(Instr.index 34 (.agg #[a,b,c,d,e,f]) (.int .i64 1)).run Tryz.prog w=.ok (.agg #[c,d]) w∧(Instr.index 34 (.agg #[a,b,c,d,e,f]) (.int .i64 2)).run Tryz.prog w=.ok (.agg #[e,f]) w:=by
 obtain ⟨i,hi,hs⟩:=Option.map_eq_some_iff.1 i_span

 refine ⟨?_,?_,?_⟩ <;> simp [Instr.index,run_underlying und34a,asIntOf,sizeOf,typeInfo,hi,hs,part]
def unitS:SpanD:=⟨-4294967296,4294967296⟩
def posB (a:SpanD):Bool:=chkB a && !(decide (a.lo<0))
def arcB (a:ArcD):Bool:=withinB a.dir.x unitS && (withinB a.dir.y unitS && (withinB a.dir.z unitS && (posB a.thrust && (posB a.flow && (posB a.drop && (!(decide (a.time≤0)) && !(decide (a.step≤0))))))))
theorem checkArc0_any (a:ArcD) (A:Option Addr) (c:Nat) (hd:WdB a.dir) (w:World):Calls Tryz.prog 59 #[arcV a A 0 c] w fun e w'=>e=.returned (.int .i64 (if arcB a=true then 0 else 2))∧Below w.heap.size w w':=by
 have hwu:WdS unitS:=by unfold WdS unitS;decide
 have HWx:=fun w=>within_any a.dir.x unitS hd.1 hwu w;have HWy:=fun w=>within_any a.dir.y unitS hd.2.1 hwu w;have HWz:=fun w=>within_any a.dir.z unitS hd.2.2 hwu w;have HSt:=hZ (fun w g hk=>spans1_any a.thrust w g 31 hk);have HSf:=hZ (fun w g hk=>spans1_any a.flow w g 31 hk);have HSd:=hZ (fun w g hk=>spans1_any a.drop w g 31 hk);have HI0:=fun a b c d e f w=>(index34 a b c d e f w).1;have HI1:=fun a b c d e f w=>(index34 a b c d e f w).2.1;have HI2:=fun a b c d e f w=>(index34 a b c d e f w).2.2;refine pQ fun PQ hPQ=>?_
 have HFIN:Hid (∀ w' r,r=(if arcB a=true then (0:Int) else 2)→Fr w [] [] w'→PQ (.returned (.int .i64 r)) w'):=hZ fun w' r hr h=>by rw [← hPQ];exact ⟨by rw [hr],h.toBelow⟩
 clear hPQ;unfold arcB posB at HFIN;obtain ⟨bx,hbx⟩:=eX (withinB a.dir.x unitS);obtain ⟨by',hby⟩:=eX (withinB a.dir.y unitS)
 obtain ⟨bz,hbz⟩:=eX (withinB a.dir.z unitS);obtain ⟨bt,hbt⟩:=eX (chkB a.thrust);obtain ⟨bf,hbf⟩:=eX (chkB a.flow);obtain ⟨bd,hbd⟩:=eX (chkB a.drop);rw [hbx] at HWx HFIN;rw [hby] at HWy HFIN;rw [hbz] at HWz HFIN;rw [hbt] at HSt HFIN;rw [hbf] at HSf HFIN;rw [hbd] at HSd HFIN;obtain ⟨time,step,⟨tl,th⟩,⟨fl,fh⟩,⟨⟨dxl,dxh⟩,⟨dyl,dyh⟩,⟨dzl,dzh⟩⟩,drag,⟨dl,dh⟩⟩:=a;unfold spanV unitS at HWx HWy HWz;unfold arcV;dsimp only at HWx HWy HWz HSt HSf HSd HFIN ⊢;replace HWx:=hZ HWx;replace HWy:=hZ HWy;replace HWz:=hZ HWz;clear hd hwu hbx hby hbz hbt hbf hbd;obtain ⟨qb,W0,hqb,hW0,HF0⟩:=fM (Fr.start w) [(#[time,step,tl,th,fl,fh,dxl,dxh,dyl,dyh,dzl,dzh,.slice A 0 c,dl,dh],46)];go_enter Tryz.func59,Tryz.ntmps59;go_upto_region 1 with (fail);clear hW0 hqb;obtain ⟨g1,hg1⟩:=eX W0.heap.size;obtain ⟨w1,hw1⟩:=eX (W0.alloc (.cells #[.int .i64 0,.int .i64 0] 31));have HF2:=fE hw1 (HF0.out.alloc hg1.symm 31 #[.int .i64 0,.int .i64 0]);go_wp2_with (first
   | (refine lF (gN HF4 0) #[dxl,dxh,dyl,dyh,dzl,dzh] u_34 i_34 ?_)
   | (refine sW 1 HF2.out i_span fun w3 HF4=>?_;clear hw1 hg1))
 refine wp_loop_rounds 4 ?_
 rw [rounds_succ];obtain ⟨g5,w5,hg5,hw5,HF6⟩:=fA HF4.out #[.int .i64 0,.int .i64 0] 31;go_wp2_with (first
   | (refine lS (gN HF8 2) dxl dxh ?_)
   | (refine lF (gN HF8 1) #[.int .i64 (-4294967296),.int .i64 4294967296] u_span i_span ?_)
   | (refine sW 2 HF6.out i_span fun w7 HF8=>?_;clear hw5 hg5))
 refine mB HF8.out (HWx.out _) fun w9 HF10=>?_;cases bx with
 | false =>
  go_wp2_with fail
  exact HFIN.out _ _ (by simp) HF10.out.drop
 | true =>
  go_wp2_with fail
  rw [rounds_succ];obtain ⟨g11,w11,hg11,hw11,HF12⟩:=fA HF10.out #[.int .i64 0,.int .i64 0] 31;go_wp2_with (first
    | (refine lS (gN HF14 3) dyl dyh ?_)
    | (refine lF (gN HF14 1) #[.int .i64 (-4294967296),.int .i64 4294967296] u_span i_span ?_)
    | (refine sW 3 HF12.out i_span fun w13 HF14=>?_;clear hw11 hg11))
  refine mB HF14.out (HWy.out _) fun w15 HF16=>?_;cases by' with
  | false =>
   go_wp2_with fail
   exact HFIN.out _ _ (by simp) HF16.out.drop
  | true =>
   go_wp2_with fail
   rw [rounds_succ];obtain ⟨g17,w17,hg17,hw17,HF18⟩:=fA HF16.out #[.int .i64 0,.int .i64 0] 31;go_wp2_with (first
     | (refine lS (gN HF20 4) dzl dzh ?_)
     | (refine lF (gN HF20 1) #[.int .i64 (-4294967296),.int .i64 4294967296] u_span i_span ?_)
     | (refine sW 4 HF18.out i_span fun w19 HF20=>?_;clear hw17 hg17))
   refine mB HF20.out (HWz.out _) fun w21 HF22=>?_;cases bz with
   | false =>
    go_wp2_with fail
    exact HFIN.out _ _ (by simp) HF22.out.drop
   | true =>
    go_wp2_with fail
    rw [rounds_succ];obtain ⟨g23,w23,hg23,hw23,HF24⟩:=fA HF22.out #[tl,th,fl,fh,dl,dh] 31;go_wp2_with (first
      | (refine lS (gN HF22 0) tl th ?_)
      | (refine lS (gN HF22 0) fl fh ?_)
      | (refine lS (gN HF22 0) dl dh ?_))
    clear hw23 hg23;refine wp_loop_rounds 4 ?_
    rw [rounds_succ];obtain ⟨g25,w25,hg25,hw25,HF26⟩:=fA HF24.out #[.int .i64 0,.int .i64 0] 31;go_wp2_with (first
      | (refine lS (gN HF24 5) tl th ?_)
      | (refine lS (gN HF28 6) tl th ?_)
      | (refine sW 6 HF26.out i_span fun w27 HF28=>?_;clear hw25 hg25;obtain ⟨g29,w29,hg29,hw29,HF30⟩:=fA HF28.out #[tl,th] 31))
    clear hw29 hg29;refine mB HF30.out (HSt.out _ g29 (HF30.out.get 7 rfl)) fun w31 HF32=>?_;cases bt with
    | false =>
     go_wp2_with fail
     exact HFIN.out _ _ (by simp) HF32.out.drop
    | true =>
     by_cases hm0:tl<0
     ·have g1:decide (tl<0)=true:=decide_eq_true hm0;have HM0:=hZ hm0;clear hm0;have c33:=cA (gN HF32 6) 0;go_wp2_with fail
      clear c33;exact HFIN.out _ _ (by simp [HM0.out]) HF32.out.drop
     ·have g2:decide (tl<0)=false:=decide_eq_false hm0;have HM0:=hZ hm0;clear hm0;have c33:=cA (gN HF32 6) 0;go_wp2_with fail
      clear c33;rw [rounds_succ];obtain ⟨g34,w34,hg34,hw34,HF35⟩:=fA HF32.out #[.int .i64 0,.int .i64 0] 31;go_wp2_with (first
        | (refine lS (gN HF32 5) fl fh ?_)
        | (refine lS (gN HF37 8) fl fh ?_)
        | (refine sW 8 HF35.out i_span fun w36 HF37=>?_;clear hw34 hg34;obtain ⟨g38,w38,hg38,hw38,HF39⟩:=fA HF37.out #[fl,fh] 31))
      clear hw38 hg38;refine mB HF39.out (HSf.out _ g38 (HF39.out.get 9 rfl)) fun w40 HF41=>?_;cases bf with
      | false =>
       go_wp2_with fail
       exact HFIN.out _ _ (by simp) HF41.out.drop
      | true =>
       by_cases hm1:fl<0
       ·have g1:decide (fl<0)=true:=decide_eq_true hm1;have HM1:=hZ hm1;clear hm1;have c42:=cA (gN HF41 8) 0;go_wp2_with fail
        clear c42;exact HFIN.out _ _ (by simp [HM1.out]) HF41.out.drop
       ·have g3:decide (fl<0)=false:=decide_eq_false hm1;have HM1:=hZ hm1;clear hm1;have c42:=cA (gN HF41 8) 0;go_wp2_with fail
        clear c42;rw [rounds_succ];obtain ⟨g43,w43,hg43,hw43,HF44⟩:=fA HF41.out #[.int .i64 0,.int .i64 0] 31;go_wp2_with (first
          | (refine lS (gN HF41 5) dl dh ?_)
          | (refine lS (gN HF46 10) dl dh ?_)
          | (refine sW 10 HF44.out i_span fun w45 HF46=>?_;clear hw43 hg43;obtain ⟨g47,w47,hg47,hw47,HF48⟩:=fA HF46.out #[dl,dh] 31))
        clear hw47 hg47;refine mB HF48.out (HSd.out _ g47 (HF48.out.get 11 rfl)) fun w49 HF50=>?_;cases bd with
        | false =>
         go_wp2_with fail
         exact HFIN.out _ _ (by simp) HF50.out.drop
        | true =>
         by_cases hm2:dl<0
         ·have g1:decide (dl<0)=true:=decide_eq_true hm2;have HM2:=hZ hm2;clear hm2;have c51:=cA (gN HF50 10) 0;go_wp2_with fail
          clear c51;exact HFIN.out _ _ (by simp [HM2.out]) HF50.out.drop
         ·have g4:decide (dl<0)=false:=decide_eq_false hm2;have HM2:=hZ hm2;clear hm2;have c51:=cA (gN HF50 10) 0;go_wp2_with fail
          clear c51;rw [rounds_succ];by_cases hm3:time≤0
          ·have g6:decide (time≤0)=true:=decide_eq_true hm3;have HM3:=hZ hm3;clear hm3;have c52:=cA (gN HF50 0) 0;go_wp2_with fail
           clear c52;exact HFIN.out _ _ (by simp [HM3.out]) HF50.out.drop
          ·have g6:decide (time≤0)=false:=decide_eq_false hm3;have HM3:=hZ hm3;clear hm3;by_cases hm4:step≤0
           ·have g7:decide (step≤0)=true:=decide_eq_true hm4;have HM4:=hZ hm4;clear hm4;have c52:=cA (gN HF50 0) 0;have c53:=cA (gN HF50 0) 1;go_wp2_with fail
            clear c52 c53;exact HFIN.out _ _ (by simp [HM4.out]) HF50.out.drop
           ·have g7:decide (step≤0)=false:=decide_eq_false hm4;have HM4:=hZ hm4;clear hm4;have c52:=cA (gN HF50 0) 0;have c53:=cA (gN HF50 0) 1;have c54:=cA (gN HF50 0) 12;go_wp2_with fail
            clear c52 c53 c54;exact HFIN.out _ _ (by simp [HM0.out,HM1.out,HM2.out,HM3.out,HM4.out]) HF50.out.drop
def stepsI (a:ArcD):Int:=(a.time - 1) / a.step+1
def stepsB (a:ArcD):Int × Int:=if arcB a=true then (if 4096<stepsI a then (0,3) else (stepsI a,0)) else (0,2)
theorem arcB_pos {a:ArcD} (h:arcB a=true):0<a.time∧0<a.step:=by
 unfold arcB at h;simp only [Bool.and_eq_true,Bool.not_eq_true',decide_eq_false_iff_not] at h;omega
theorem steps0_any (a:ArcD) (A:Option Addr) (c:Nat) (hd:WdB a.dir) (ht:I64 a.time) (hs:I64 a.step) (w:World):Calls Tryz.prog 20 #[arcV a A 0 c] w fun e w'=>e=.returned (.tuple #[.int .i64 (stepsB a).1,.int .i64 (stepsB a).2])∧Below w.heap.size w w':=by
 have HCK:=hZ (fun w=>checkArc0_any a A c hd w);refine pQ fun PQ hPQ=>?_
 have HFIN:Hid (∀ w' r s,stepsB a=(r,s)→Fr w [] [] w'→PQ (.returned (.tuple #[.int .i64 r,.int .i64 s])) w'):=hZ fun w' r s hr h=>by rw [← hPQ];exact ⟨by rw [hr],h.toBelow⟩
 have hp:=@arcB_pos a;have hsi:stepsI a=(a.time - 1) / a.step+1:=rfl;unfold stepsB at HFIN;obtain ⟨n,hn⟩:=eX (stepsI a);rw [hn] at hsi HFIN;obtain ⟨b,hb⟩:=eX (arcB a);rw [hb] at HCK hp HFIN;obtain ⟨time,step,⟨tl,th⟩,⟨fl,fh⟩,⟨⟨dxl,dxh⟩,⟨dyl,dyh⟩,⟨dzl,dzh⟩⟩,drag,⟨dl,dh⟩⟩:=a;unfold I64 at ht hs;dsimp only at hp hsi ht hs;unfold arcV at HCK ⊢;dsimp only at HCK HFIN ⊢;clear hPQ hn hb hd;cases b with
 | false =>
  clear hp hsi ht hs;obtain ⟨qb,W0,hqb,hW0,HF0⟩:=fM (Fr.start w) [(#[time,step,tl,th,fl,fh,dxl,dxh,dyl,dyh,dzl,dzh,.slice A 0 c,dl,dh],46)];go_enter Tryz.func20,Tryz.ntmps20;go_upto_region 1 with (fail);clear hW0 hqb;go_wp2_with (refine lF (gN HF0 0) #[time,step,tl,th,fl,fh,dxl,dxh,dyl,dyh,dzl,dzh,.slice A 0 c,dl,dh] u_46 i_46 ?_)
  refine mB HF0.out (HCK.out _) fun w1 HF2=>?_;go_wp2_with fail
  exact HFIN.out _ _ _ (by simp) HF2.out.drop
 | true =>
  obtain ⟨p1,p2⟩:=hp rfl;clear hp;have m1:IntKind.i64.wrap (time - 1)=time - 1:=IntWalk.i64_in _ (by omega)
  have m1':wrap64 (time - 1)=time - 1:=w64_in (by omega) (by omega)
  obtain ⟨q,hq⟩:=eX ((time - 1) / step);have hq0:0≤q:=by rw [← hq];exact Int.ediv_nonneg (by omega) (by omega)
  have hq1:q≤time - 1:=by rw [← hq];exact Int.ediv_le_self _ (by omega)
  have d1:(time - 1).tdiv step=q:=by rw [Int.tdiv_eq_ediv_of_nonneg (by omega)];exact hq
  have d3:(step == 0)=false:=by simp;omega
  have d4:¬ step=0:=by omega
  rw [hq] at hsi;have m2:IntKind.i64.wrap q=q:=IntWalk.i64_in _ (by omega)
  have m2':wrap64 q=q:=w64_in (by omega) (by omega)
  have m3:IntKind.i64.wrap (q+1)=n:=by rw [hsi];exact IntWalk.i64_in _ (by omega)
  have m3':wrap64 (q+1)=n:=by rw [hsi];exact w64_in (by omega) (by omega)
  clear hq hq0 hq1 ht hs hsi;by_cases h:4096<n
  ·have g:decide (4096<n)=true:=decide_eq_true h;have HH:=hZ h;clear h p1 p2;obtain ⟨qb,W0,hqb,hW0,HF0⟩:=fM (Fr.start w) [(#[time,step,tl,th,fl,fh,dxl,dxh,dyl,dyh,dzl,dzh,.slice A 0 c,dl,dh],46)];go_enter Tryz.func20,Tryz.ntmps20;go_upto_region 1 with (fail);clear hW0 hqb;go_wp2_with (refine lF (gN HF0 0) #[time,step,tl,th,fl,fh,dxl,dxh,dyl,dyh,dzl,dzh,.slice A 0 c,dl,dh] u_46 i_46 ?_)
   refine mB HF0.out (HCK.out _) fun w1 HF2=>?_;have c3:=cA (gN HF2 0) 0;have c4:=cA (gN HF2 0) 1;go_wp2_with fail
   clear c3 c4;exact HFIN.out _ _ _ (by simp [HH.out]) HF2.out.drop
  ·have g:decide (4096<n)=false:=decide_eq_false h;have HH:=hZ h;clear h p1 p2;obtain ⟨qb,W0,hqb,hW0,HF0⟩:=fM (Fr.start w) [(#[time,step,tl,th,fl,fh,dxl,dxh,dyl,dyh,dzl,dzh,.slice A 0 c,dl,dh],46)];go_enter Tryz.func20,Tryz.ntmps20;go_upto_region 1 with (fail);clear hW0 hqb;go_wp2_with (refine lF (gN HF0 0) #[time,step,tl,th,fl,fh,dxl,dxh,dyl,dyh,dzl,dzh,.slice A 0 c,dl,dh] u_46 i_46 ?_)
   refine mB HF0.out (HCK.out _) fun w1 HF2=>?_;have c3:=cA (gN HF2 0) 0;have c4:=cA (gN HF2 0) 1;go_wp2_with fail
   clear c3 c4;exact HFIN.out _ _ _ (by simp [HH.out]) HF2.out.drop
end Go.Proofs.YtmkoegljnebdiaaGreat
