/- What is proved: the texts Of Mq Mr, one behind the other; each says at its head what it proves, and under which conditions. -/
import Derived.Test.YtmkoegljnebdiaaGreatdPAborts15
namespace Go.Proofs.YtmkoegljnebdiaaGreat
open Go.RowKit Go.Shelf
set_option maxRecDepth 100000
set_option maxHeartbeats 16000000
attribute [local go_sem] Oper.semAt_some

theorem u_83:Tryz.prog.underlying 83=some (.slice 87):=by kernel_rfl
theorem i_87b:(Tryz.prog.info? 87).map (fun i=>(i.zero,i.size,i.bytes))=some (some (.agg (iC [0,0,0,0,0])),5,40):=by kernel_rfl
def phA (f:Nat→Int) (t:Nat→TubeD) (r:Nat × Nat):Array Value:=iC [f r.1,(r.1:Int),(r.2:Int),(t r.1).frm,(t r.2).to]
def phsC (f:Nat→Int) (t:Nat→TubeD) (l:List (Nat × Nat)):List Value:=l.flatMap fun r=>(phA f t r).toList
def PhasesPost (f:Nat→Int) (t:Nat→TubeD) (n:Nat) (w:World) (e:Ending) (w':World):Prop:=∃ u cur,e=.returned (.tuple #[u,.int .i64 0])∧LstAt 5 u cur (runN f n) (phsC f t ((List.range (runN f n)).map (runP f n)))∧Fr w [] (lstE 87 u cur) w'
theorem phases_any (B c gt cap n:Nat) (f:Nat→Int) (ct:Array Value) (t:Nat→TubeD) (hn:n≤4096) (h1n:0<n) (hfr:∀ k,k<n→-1≤f k∧f k<16) (hFT:FlownTo t n) (w:World) (hI:IntAt w B n f) (hT:TbAt w gt n ct t) :
  Calls Tryz.prog 17 #[.slice (some ⟨B,0,none⟩) n c,.slice (some ⟨gt,0,none⟩) n cap] w (PhasesPost f t n w):=by
 refine pQ fun PQ hPQ=>?_
 have HFIN:Hid (∀ w' u cur,LstAt 5 u cur (runN f n) (phsC f t ((List.range (runN f n)).map (runP f n)))→Fr w [] (lstE 87 u cur) w'→PQ (.returned (.tuple #[u,.int .i64 0])) w'):=hZ fun w' u cur h1 h2=>by rw [← hPQ];exact ⟨u,cur,rfl,h1,h2⟩
 have HFL:Hid (∀ w1,Below w.heap.size w w1→Calls Tryz.prog 45 #[.slice (some ⟨gt,0,none⟩) n cap] w1 fun e w'=>e=.returned (.bool true)∧Below w1.heap.size w1 w'):=hZ fun w1 hb=>(flown_any gt n cap ct t w1 (hT.to hb)).mono fun e w' h=>by
  obtain ⟨⟨b,h1,h2⟩,h3⟩:=h;rw [h2.2 hFT] at h1;exact ⟨h1,h3⟩
 have HEV:Hid (∀ w1,Below w.heap.size w w1→Calls Tryz.prog 51 #[.slice (some ⟨B,0,none⟩) n c,.func (.func 52) #[] #[]] w1 fun e w'=>e=.returned (.bool true)∧Below w1.heap.size w1 w'):=hZ fun w1 hb=>every_all 52 B n c f hn (fun _ _=>rfl) w1 (hI.to hb) fun k hk w2=>plan52_any (f k) (hfr k hk).1 (hfr k hk).2 w2;have HRU:=hZ (fun w=>runs53_any (.slice (some ⟨B,0,none⟩) n c) rfl w);have HSTP:=hZ (fun g w hg hI=>runs107_stops g B n c f hn w hg hI);have HI:=hZ hI;have HT:=hZ hT;have HEL:=hZ (fun x (hx:x<runN f n)=>runP_el hx);have HNL:Hid (runN f n≤4096+1):=hZ (by
  have h1:=runN_le f n h1n;have h2:=chg_nonneg f n;omega)
 have hni:(n:Int)≤4096:=by omega
 have HB0:Hid (B<w.heap.size):=hZ hI.lt;obtain ⟨N,hN⟩:=eX (runN f n);rw [hN] at HFIN HSTP HEL HNL;obtain ⟨rp,hrp⟩:=eX (runP f n);rw [hrp] at HFIN HSTP HEL;obtain ⟨XS,hXS⟩:∃ XS:List (Fin N)→List Value,(fun pre=>phsC f t (pre.map fun x=>rp x.val))=XS:=⟨_,rfl⟩;have HX0:Hid (XS []=[]):=hZ (by rw [← hXS];rfl)
 have HXS:Hid (∀ pre x,XS (pre ++ [x])=XS pre ++ (phA f t (rp x.val)).toList):=hZ fun pre x=>by rw [← hXS];simp [phsC]
 have HXE:Hid (∀ ys,Fin.vals ys=List.range N→XS ys=phsC f t ((List.range N).map rp)∧ys.length=N):=hZ fun ys h=>by
  rw [← hXS,← h];refine ⟨?_,?_⟩
  ·unfold Fin.vals;dsimp only;rw [List.map_map];rfl
  ·have:=congrArg List.length h;rw [List.length_range] at this;unfold Fin.vals at this;rwa [List.length_map] at this
 have HXL:Hid (∀ pre:List (Fin N),pre.length<N→pre.length≤65536):=hZ fun pre h=>by have:=HNL.out;omega
 clear hPQ hI hT hfr hFT hN hrp hXS;refine (callsIn_wide (n:=6)).1 ?_
 refine callsIn_of_wp_marks Tryz.func17 rfl trivial ?_ rfl
 simp only [Tryz.ntmps17,List.size_toArray,List.length_cons,List.length_nil,Nat.reduceAdd,Nat.reduceSub,Array.replicate_succ,Array.replicate_zero,List.push_toArray,List.append_toArray,List.nil_append,List.cons_append];refine wpIn_wide.2 ?_
 obtain ⟨qb,W0,hqb,hW0,HF0⟩:=fM (Fr.start w) [(#[.slice (some ⟨B,0,none⟩) n c],77),(#[.slice (some ⟨gt,0,none⟩) n cap],40)];have hn1:¬ (4096:Int)<(n:Int):=by omega
 go_upto_region 1 with (fail);clear hW0 hqb;have c1:W0.cell? ⟨qb,0,none⟩=some (.slice (some ⟨B,0,none⟩) n c):=(HF0.out.get 0 rfl).cell 0;have c2:W0.cell? ⟨qb+1,0,none⟩=some (.slice (some ⟨gt,0,none⟩) n cap):=(HF0.out.get 1 rfl).cell 0;have c3:W0.cell? ⟨qb+1,0,none⟩=some (.slice (some ⟨gt,0,none⟩) n cap):=(HF0.out.get 1 rfl).cell 0;go_wp2_with fail
 clear c1 c2 c3;refine mB HF0.out (HFL.out _ HF0.out.drop.toBelow) fun w4 HF5=>?_;have c6:=cA (gN HF5 0) 0;have c7:=cA (gN HF5 1) 0;have c8:=cA (gN HF5 0) 0;go_wp2_with fail
 clear c6 c7 c8;refine mB HF5.out (HEV.out _ HF5.out.drop.toBelow) fun w9 HF10=>?_;obtain ⟨g11,w11,hg11,hw11,HF12⟩:=fA HF10.out #[.slice none 0 0] 83;have c13:=cA (gN HF12 0) 0;go_wp2_with fail
 clear hw11 hg11 c13;refine (HRU.out _).mono ?_
 rintro e w14 ⟨gr,rfl,hw⟩;have HF15:=hZ (HF12.out.more hw);clear hw;have hws:w.heap.size≤w14.heap.size:=HF15.out.size;have HKB:Hid (∀ x,x ∈ [gr,B]→x<w14.heap.size):=hZ fun x hx=>by
  simp only [List.mem_cons,List.not_mem_nil,or_false] at hx;rcases hx with rfl | rfl
  ·exact (HF15.out.get 3 rfl).lt
  ·exact Nat.lt_of_lt_of_le HB0.out hws
 have HSTOP:=hZ (HSTP.out gr w14 (HF15.out.get 3 rfl) (HI.out.to HF15.out.drop.toBelow));obtain ⟨IB,hIB⟩:∃ I:List (Fin N)→World→Prop,(fun pre W=>∃ u cur,LstAt 5 u cur pre.length (XS pre)∧Fr w [] ([(qb,77,#[.slice (some ⟨B,0,none⟩) n c]),(qb+1,40,#[.slice (some ⟨gt,0,none⟩) n cap]),(g11,83,#[u]),(gr,77,#[.slice (some ⟨B,0,none⟩) n c])] ++ lstE 87 u cur) W)=I:=⟨_,rfl⟩;have HIB:Hid (∀ pre W,IB pre W ↔ (∃ u cur,LstAt 5 u cur pre.length (XS pre)∧Fr w [] ([(qb,77,#[.slice (some ⟨B,0,none⟩) n c]),(qb+1,40,#[.slice (some ⟨gt,0,none⟩) n cap]),(g11,83,#[u]),(gr,77,#[.slice (some ⟨B,0,none⟩) n c])] ++ lstE 87 u cur) W)):=hZ fun pre W=>by rw [← hIB]
 have HOI:Hid (OwnFrom w14.heap.size IB):=hZ (by
  rw [← hIB];rintro pre A B row ⟨u,cur,h2,h3⟩ hgr hr;exact ⟨u,cur,h2,h3.turned hws hgr hr⟩)
 obtain ⟨Ix,hIx⟩:∃ Ix:Code→List (Fin N)→World→Prop,(fun _ _ _=>False)=Ix:=⟨_,rfl⟩;have HIX:Hid (∀ cd pre W,¬ Ix cd pre W):=hZ fun cd pre W=>by rw [← hIx];exact fun h=>h
 have HOX:Hid (∀ cd,OwnFrom w14.heap.size (Ix cd)):=hZ fun cd=>by
  rw [← hIx];rintro pre A B row h hgr hr;exact h
 have H0I:Hid (IB [] w14):=hZ ((HIB.out _ _).2 ⟨.slice none 0 0,#[],by rw [HX0.out];exact LstAt.nil 5,HF15.out⟩)
 clear hIB hIx;go_wp2_with fail
 refine (wpIn_wide (n:=6)).1 ?_
 apply wpIn_rangeFunc_ownF (n:=6) rfl (by decide) (gf:=107) rfl trivial (enters_of Tryz.func107 (by kernel_rfl) rfl) HSTOP.out KeepL.trans (keepL_b HKB.out) (Below.refl _ _) (fun _=>rfl) IB Ix HOI.out HOX.out H0I.out
 case hassign =>
  intro l x W K hK;have HK:=hZ hK;clear hK;gi_wp2_with fail
  exact HK.out
 case hbody =>
  intro l pre x W hIW hpl;obtain ⟨u,cur,hl,h2⟩:=(HIB.out _ _).1 hIW;obtain ⟨PB,hPB⟩:=eX (ownPostK (KeepL [gr,B]) IB Ix (pre ++ [x]) W);have hsub:List.Sublist (α:=Ent) (([(qb,77,#[.slice (some ⟨B,0,none⟩) n c]),(qb+1,40,#[.slice (some ⟨gt,0,none⟩) n cap]),(g11,83,#[u])]:List Ent) ++ lstE 87 u cur) ((([(qb,77,#[.slice (some ⟨B,0,none⟩) n c]),(qb+1,40,#[.slice (some ⟨gt,0,none⟩) n cap]),(g11,83,#[u]),(gr,77,#[.slice (some ⟨B,0,none⟩) n c])]:List Ent) ++ lstE 87 u cur)):=.cons_cons _ (.cons_cons _ (.cons_cons _ (.cons _ (List.Sublist.refl _))));have hBlt:∀ x ∈ ([(qb,77,#[.slice (some ⟨B,0,none⟩) n c]),(qb+1,40,#[.slice (some ⟨gt,0,none⟩) n cap]),(g11,83,#[u]),(gr,77,#[.slice (some ⟨B,0,none⟩) n c])] ++ lstE 87 u cur),w.heap.size≤x.1:=fun x hx=>(h2.new x hx).1;have hB:∀ b,b ∈ [gr,B]→b ∉ (([(qb,77,#[.slice (some ⟨B,0,none⟩) n c]),(qb+1,40,#[.slice (some ⟨gt,0,none⟩) n cap]),(g11,83,#[u])]:List Ent) ++ lstE 87 u cur).map (·.1):=fun b hb=>by
   simp only [List.mem_cons,List.not_mem_nil,or_false] at hb;rcases hb with hb | hb <;> rw [hb]
   ·have hn2:=h2.ndN;rw [show ([(qb,77,#[.slice (some ⟨B,0,none⟩) n c]),(qb+1,40,#[.slice (some ⟨gt,0,none⟩) n cap]),(g11,83,#[u]),(gr,77,#[.slice (some ⟨B,0,none⟩) n c])] ++ lstE 87 u cur)=([(qb,77,#[.slice (some ⟨B,0,none⟩) n c]),(qb+1,40,#[.slice (some ⟨gt,0,none⟩) n cap]),(g11,83,#[u])]:List Ent) ++ ((gr,77,#[.slice (some ⟨B,0,none⟩) n c]) :: lstE 87 u cur) from rfl,(List.perm_middle.map _).nodup_iff,List.map_cons] at hn2
    exact (List.nodup_cons.1 hn2).1
   ·intro hm;obtain ⟨z,hz,hzy⟩:=List.mem_map.1 hm;have h3:=hBlt z (hsub.subset hz);have h4:=HB0.out;have h5:z.1=B:=hzy;omega
  have hBW:∀ b,b ∈ [gr,B]→b<W.heap.size:=fun b hb=>by
   simp only [List.mem_cons,List.not_mem_nil,or_false] at hb;rcases hb with rfl | rfl
   ·exact (h2.get 3 rfl).lt
   ·exact Nat.lt_of_lt_of_le HB0.out h2.size
  have hall:∀ O':List Ent,O'.map (·.1)=(([(qb,77,#[.slice (some ⟨B,0,none⟩) n c]),(qb+1,40,#[.slice (some ⟨gt,0,none⟩) n cap]),(g11,83,#[u])]:List Ent) ++ lstE 87 u cur).map (·.1)→∀ y ∈ O',∃ t cs,Bk W y.1 t cs:=fun O' ho y hy=>by
   have hm:y.1 ∈ (([(qb,77,#[.slice (some ⟨B,0,none⟩) n c]),(qb+1,40,#[.slice (some ⟨gt,0,none⟩) n cap]),(g11,83,#[u])]:List Ent) ++ lstE 87 u cur).map (·.1):=by rw [← ho];exact List.mem_map.2 ⟨y,hy,rfl⟩
   obtain ⟨z,hz,hzy⟩:=List.mem_map.1 hm;exact ⟨z.2.1,z.2.2,by rw [← hzy];exact (h2.new z (hsub.subset hz)).2⟩
  have HBB:Hid (∀ O' N' w',O'.map (·.1)=(([(qb,77,#[.slice (some ⟨B,0,none⟩) n c]),(qb+1,40,#[.slice (some ⟨gt,0,none⟩) n cap]),(g11,83,#[u])]:List Ent) ++ lstE 87 u cur).map (·.1)→Fr W O' N' w'→Below w.heap.size w w'):=hZ fun O' N' w' ho hf=>h2.toBelow.trans (hf.belowAt (fun y hy=>by
   have hm:y.1 ∈ (([(qb,77,#[.slice (some ⟨B,0,none⟩) n c]),(qb+1,40,#[.slice (some ⟨gt,0,none⟩) n cap]),(g11,83,#[u])]:List Ent) ++ lstE 87 u cur).map (·.1):=by rw [← ho];exact List.mem_map.2 ⟨y,hy,rfl⟩
   obtain ⟨z,hz,hzy⟩:=List.mem_map.1 hm;rw [← hzy];exact (h2.new z (hsub.subset hz)).1) h2.size)
  have hgt:∀ g:Nat,W.heap.size≤g→g ∉ (([(qb,77,#[.slice (some ⟨B,0,none⟩) n c]),(qb+1,40,#[.slice (some ⟨gt,0,none⟩) n cap]),(g11,83,#[u]),(gr,77,#[.slice (some ⟨B,0,none⟩) n c])]:List Ent)).map (·.1):=fun g hg hm=>by
   obtain ⟨x,hx,hxg⟩:=List.mem_map.1 hm;have:=(h2.new x (List.mem_append_left _ hx)).2.lt
   have hxg':x.1=g:=hxg;omega
  have HEN:Hid (∀ a W' u' O2 N2,LG 87 5 u u' cur (pre.length+1) (XS pre ++ (phA f t (rp x.val)).toList) O2 N2→Fr W (([(qb,77,#[.slice (some ⟨B,0,none⟩) n c]),(qb+1,40,#[.slice (some ⟨gt,0,none⟩) n cap]),(g11,83,#[u'])]:List Ent) ++ O2) N2 W'→PB .normal a W'):=hZ fun a W' u' O2 N2 hg2 hf=>by
   rw [← hPB];obtain ⟨g,m,c2,cur',hu',hl',hc⟩:=hg2;have hkeq:(([(qb,77,#[.slice (some ⟨B,0,none⟩) n c]),(qb+1,40,#[.slice (some ⟨gt,0,none⟩) n cap]),(g11,83,#[u'])]:List Ent) ++ O2).map (·.1)=(([(qb,77,#[.slice (some ⟨B,0,none⟩) n c]),(qb+1,40,#[.slice (some ⟨gt,0,none⟩) n cap]),(g11,83,#[u])]:List Ent) ++ lstE 87 u cur).map (·.1):=by
    rcases hc with ⟨m2,c3,hu,hO,_⟩ | ⟨hO,_⟩
    ·rw [hO,hu];rfl
    ·rw [hO];rfl
   refine ⟨hf.keepsOthers (hall _ hkeq),hf.keepL fun b hb=>⟨hBW b hb,by rw [hkeq];exact hB b hb⟩,(HIB.out _ _).2 ⟨u',cur',?_,?_⟩⟩
   ·rw [HXS.out,List.length_append];exact hl'
   ·rcases hc with ⟨m2,c3,hu,rfl,rfl⟩ | ⟨rfl,rfl⟩
    ·subst hu hu';exact h2.turns [true,true,true,false,true] hf ⟨rfl,rfl,rfl,rfl,trivial⟩
    ·have e9:lstE 87 u' cur'=[(g,87,cur')]:=by rw [hu'];rfl
     rw [e9];have hgn:=hf.new (g,87,cur') (by simp)
     have hgW:W.heap.size≤g:=hgn.1;have hgw:w.heap.size≤g:=Nat.le_trans h2.size hgW;rcases hl.2 with ⟨rfl,_⟩ | ⟨g0,cap0,rfl,_⟩
     ·have h5:Fr w [] (([(qb,77,#[.slice (some ⟨B,0,none⟩) n c]),(qb+1,40,#[.slice (some ⟨gt,0,none⟩) n cap]),(g11,83,#[u']),(gr,77,#[.slice (some ⟨B,0,none⟩) n c])]:List Ent) ++ []) W':=h2.turns [true,true,true,false] hf ⟨rfl,rfl,rfl,trivial⟩;rw [List.append_nil] at h5;exact h5.addN hgn.2 hgw (hgt g hgW)
     ·have h5:Fr w [] (([(qb,77,#[.slice (some ⟨B,0,none⟩) n c]),(qb+1,40,#[.slice (some ⟨gt,0,none⟩) n cap]),(g11,83,#[u']),(gr,77,#[.slice (some ⟨B,0,none⟩) n c])]:List Ent) ++ [(g0,87,cur)]) W':=h2.turns [true,true,true,false,true] hf ⟨rfl,rfl,rfl,rfl,trivial⟩;exact (h5.sub (List.sublist_append_left _ _)).addN hgn.2 hgw (hgt g hgW)
  have HNT:Hid (pre.length≤65536):=hZ (HXL.out pre hpl);have HLS:=hZ hl;have HFB:Hid (Fr W (([(qb,77,#[.slice (some ⟨B,0,none⟩) n c]),(qb+1,40,#[.slice (some ⟨gt,0,none⟩) n cap]),(g11,83,#[u])]:List Ent) ++ lstE 87 u cur) [] W):=hZ (Fr.startL (O:=([(qb,77,#[.slice (some ⟨B,0,none⟩) n c]),(qb+1,40,#[.slice (some ⟨gt,0,none⟩) n cap]),(g11,83,#[u])]:List Ent) ++ lstE 87 u cur) (fun y hy=>(h2.new y (hsub.subset hy)).2) (h2.ndN.sublist (hsub.map _)));obtain ⟨hx1,hx2⟩:=HEL.out x.val x.isLt;rw [hPB];obtain ⟨⟨ia,ib⟩,hab⟩:=eX (rp x.val);rw [hab] at hx1 hx2 HEN;rw [hab];dsimp only at hx1 hx2 ⊢;obtain ⟨fa,hfa⟩:=eX (f ia);obtain ⟨fz,hfz⟩:=eX ((t ia).frm);obtain ⟨tz,htz⟩:=eX ((t ib).to);have han:ia<n:=by omega
  have HFA:Hid (∀ w',Below w.heap.size w w'→w'.cell? ⟨B,ia,none⟩=some (.int .i64 fa)):=hZ fun w' hb=>by rw [← hfa];exact (HI.out.to hb).cell ia han
  have HFZ:Hid (∀ w',Below w.heap.size w w'→w'.cell? ⟨gt,ia * 16,none⟩=some (.int .i64 fz)):=hZ fun w' hb=>by
   have h1:=(HT.out.to hb).cell (k:=ia) han 0 (by omega)
   rw [show ia * 16=ia * 16+0 from rfl,h1,← hfz];rfl
  have HTZ:Hid (∀ w',Below w.heap.size w w'→w'.cell? ⟨gt,ib * 16+1,none⟩=some (.int .i64 tz)):=hZ fun w' hb=>by
   have h1:=(HT.out.to hb).cell (k:=ib) hx2 1 (by omega)
   rw [h1,← htz];rfl
  have HPA:Hid (phA f t (ia,ib)=iC [fa,(ia:Int),(ib:Int),fz,tz]):=hZ (by rw [← hfa,← hfz,← htz];rfl)
  rw [HPA.out] at HEN;have hai:(ia:Int)<(n:Int):=by omega
  have hbi:(ib:Int)<(n:Int):=by omega
  have h0a:(0:Int)≤(ia:Int):=by omega
  have h0b:(0:Int)≤(ib:Int):=by omega
  clear hgt hIW hpl hPB hl h2 hsub hB hBW hall hBlt hab hfa hfz htz HPA;have HKY:Hid (∀ (k:Nat) (v:Value) (O2 N2:List Ent),(k=0→O2=lstE 87 u cur∧N2=[])→(0<k→LG 87 5 u v cur (pre.length+1) (XS pre ++ (iC [fa,(ia:Int),(ib:Int),fz,tz]).toList) O2 N2)→O2.map (·.1)=(lstE 87 u cur).map (·.1)):=hZ fun k v O2 N2 h0 h1=>by
   rcases Nat.eq_zero_or_pos k with hk | hk
   ·rw [(h0 hk).1]
   ·obtain ⟨g,m,c2,cur',_,_,hc⟩:=h1 hk;rcases hc with ⟨m2,c3,hu,hO,_⟩ | ⟨hO,_⟩
    ·rw [hO,hu];rfl
    ·rw [hO]
  gi_wp2_with fail
  refine wpIn_region_ft _ _ (by kernel_rfl) [.p,.p,.p,.p,.p,.p,.p,.p,.p,.p,.p,.p,.p,.p,.p,.p,.p,.p,.a 0,.c 0,.c 1] [19,20] [(18,87,fun _=>iC [fa,(ia:Int),(ib:Int),fz,tz])] W
   (fun k vs O N=>∃ O2 N2,O=[(qb,77,#[.slice (some ⟨B,0,none⟩) n c]),(qb+1,40,#[.slice (some ⟨gt,0,none⟩) n cap]),(g11,83,if k≤1 then #[u] else #[vs 19])] ++ O2∧N=([]:List Ent) ++ N2∧(k=0→O2=lstE 87 u cur∧N2=[])∧(0<k→LG 87 5 u (vs 19) cur (pre.length+1) (XS pre ++ (iC [fa,(ia:Int),(ib:Int),fz,tz]).toList) O2 N2))
   (fun ix v d=>match ix with
    | 0=>v=u
    | 1=>v=.slice (some ⟨B,0,none⟩) n c
    | 2=>v=.int .i64 (ia:Int)
    | 3=>v=.pointer (some ⟨B,ia,none⟩)
    | 4=>v=.int .i64 fa
    | 5=>v=.int .i64 (ia:Int)
    | 6=>v=.int .i64 (ib:Int)
    | 7=>v=.slice (some ⟨gt,0,none⟩) n cap
    | 8=>v=.int .i64 (ia:Int)
    | 9=>v=.pointer (some ⟨gt,ia * 16,none⟩)
    | 10=>v=.pointer (some ⟨gt,ia * 16,none⟩)
    | 11=>v=.int .i64 fz
    | 12=>v=.slice (some ⟨gt,0,none⟩) n cap
    | 13=>v=.int .i64 (ib:Int)
    | 14=>v=.pointer (some ⟨gt,ib * 16,none⟩)
    | 15=>v=.pointer (some ⟨gt,ib * 16+1,none⟩)
    | 16=>v=.int .i64 tz
    | 17=>v=.agg #[fa,(ia:Int),(ib:Int),fz,tz]
    | 18=>v=.slice (some ⟨gOf v,0,none⟩) 1 1
    | _=>True)
   (by kernel_rfl) (by kernel_rfl) (by kernel_rfl) [18] rfl (by decide) (by kernel_rfl) (by kernel_rfl) ?_ HFB.out ?_ ?_ ?_
  ·rintro k vs vs' O N hv ⟨O2,N2,h1,h2,h3,h4⟩;have e4:=hv 19 (by simp)
   refine ⟨O2,N2,?_,h2,h3,?_⟩
   ·rw [e4];exact h1
   ·rw [e4];exact h4
  ·intro vs;exact ⟨lstE 87 u cur,[],rfl,rfl,fun _=>⟨rfl,rfl⟩,fun h=>absurd h (by decide)⟩
  ·refine ⟨?_,?_,?_,?_,?_,?_,?_,?_,?_,?_,?_,?_,?_,?_,?_,?_,?_,?_,?_,?_,?_,trivial⟩
   ·intro a w1 vs dn k O N K S hpre KE DE kk;obtain ⟨O2,N2,rfl,rfl,h0,h1⟩:=S.t;have e6:=KE 6 (by decide)
    have hk0:=S.hi 0 19 rfl rfl;have ca:=(S.fr.getO 2 rfl).cell 0;rw [if_pos (by omega)] at ca
    replace ca:w1.cell? ⟨g11,0,none⟩=some u:=ca;go_simp;exact kk _ _ (by simp) bR rfl
   ·intro a w1 vs dn k O N K S hpre KE DE kk;obtain ⟨O2,N2,rfl,rfl,h0,h1⟩:=S.t;have e2:=KE 2 (by decide)
    have ca:w1.cell? ⟨qb,0,none⟩=some (.slice (some ⟨B,0,none⟩) n c):=(S.fr.getO 0 rfl).cell 0;go_simp;exact kk _ _ (by simp) bR rfl
   ·intro a w1 vs dn k O N K S hpre KE DE kk;obtain ⟨O2,N2,rfl,rfl,h0,h1⟩:=S.t;have e7:=KE 7 (by decide)
    go_simp;exact kk _ _ (by simp) bR rfl
   ·intro a w1 vs dn k O N K S hpre KE DE kk;obtain ⟨O2,N2,rfl,rfl,h0,h1⟩:=S.t;have e37:=dep (DE 1 _ 37 rfl rfl rfl);have e38:=dep (DE 2 _ 38 rfl rfl rfl);go_simp;exact kk _ _ (by simp) bR rfl
   ·intro a w1 vs dn k O N K S hpre KE DE kk;obtain ⟨O2,N2,rfl,rfl,h0,h1⟩:=S.t;have e39:=dep (DE 3 _ 39 rfl rfl rfl);have hkk:=HKY.out k (vs 19) O2 _ h0 h1;have hbb:=HBB.out _ _ _ (by rw [List.map_append,hkk,List.map_append];rfl) S.fr
    have ca:=HFA.out _ hbb;go_simp;exact kk _ _ (by simp) bR rfl
   ·intro a w1 vs dn k O N K S hpre KE DE kk;obtain ⟨O2,N2,rfl,rfl,h0,h1⟩:=S.t;have e7:=KE 7 (by decide)
    go_simp;exact kk _ _ (by simp) bR rfl
   ·intro a w1 vs dn k O N K S hpre KE DE kk;obtain ⟨O2,N2,rfl,rfl,h0,h1⟩:=S.t;have e8:=KE 8 (by decide)
    go_simp;exact kk _ _ (by simp) bR rfl
   ·intro a w1 vs dn k O N K S hpre KE DE kk;obtain ⟨O2,N2,rfl,rfl,h0,h1⟩:=S.t;have e3:=KE 3 (by decide)
    have ca:w1.cell? ⟨qb+1,0,none⟩=some (.slice (some ⟨gt,0,none⟩) n cap):=(S.fr.getO 1 rfl).cell 0;go_simp;exact kk _ _ (by simp) bR rfl
   ·intro a w1 vs dn k O N K S hpre KE DE kk;obtain ⟨O2,N2,rfl,rfl,h0,h1⟩:=S.t;have e7:=KE 7 (by decide)
    go_simp;exact kk _ _ (by simp) bR rfl
   ·intro a w1 vs dn k O N K S hpre KE DE kk;obtain ⟨O2,N2,rfl,rfl,h0,h1⟩:=S.t;have e43:=dep (DE 7 _ 43 rfl rfl rfl);have e44:=dep (DE 8 _ 44 rfl rfl rfl);go_simp;exact kk _ _ (by simp) bR rfl
   ·intro a w1 vs dn k O N K S hpre KE DE kk;obtain ⟨O2,N2,rfl,rfl,h0,h1⟩:=S.t;have e45:=dep (DE 9 _ 45 rfl rfl rfl);go_simp;exact kk _ _ (by simp) bR rfl
   ·intro a w1 vs dn k O N K S hpre KE DE kk;obtain ⟨O2,N2,rfl,rfl,h0,h1⟩:=S.t;have e46:=dep (DE 10 _ 46 rfl rfl rfl);have hkk:=HKY.out k (vs 19) O2 _ h0 h1;have hbb:=HBB.out _ _ _ (by rw [List.map_append,hkk,List.map_append];rfl) S.fr
    have ca:=HFZ.out _ hbb;go_simp;exact kk _ _ (by simp) bR rfl
   ·intro a w1 vs dn k O N K S hpre KE DE kk;obtain ⟨O2,N2,rfl,rfl,h0,h1⟩:=S.t;have e3:=KE 3 (by decide)
    have ca:w1.cell? ⟨qb+1,0,none⟩=some (.slice (some ⟨gt,0,none⟩) n cap):=(S.fr.getO 1 rfl).cell 0;go_simp;exact kk _ _ (by simp) bR rfl
   ·intro a w1 vs dn k O N K S hpre KE DE kk;obtain ⟨O2,N2,rfl,rfl,h0,h1⟩:=S.t;have e8:=KE 8 (by decide)
    go_simp;exact kk _ _ (by simp) bR rfl
   ·intro a w1 vs dn k O N K S hpre KE DE kk;obtain ⟨O2,N2,rfl,rfl,h0,h1⟩:=S.t;have e48:=dep (DE 12 _ 48 rfl rfl rfl);have e49:=dep (DE 13 _ 49 rfl rfl rfl);go_simp;exact kk _ _ (by simp) bR rfl
   ·intro a w1 vs dn k O N K S hpre KE DE kk;obtain ⟨O2,N2,rfl,rfl,h0,h1⟩:=S.t;have e50:=dep (DE 14 _ 50 rfl rfl rfl);go_simp;exact kk _ _ (by simp) bR rfl
   ·intro a w1 vs dn k O N K S hpre KE DE kk;obtain ⟨O2,N2,rfl,rfl,h0,h1⟩:=S.t;have e51:=dep (DE 15 _ 51 rfl rfl rfl);have hkk:=HKY.out k (vs 19) O2 _ h0 h1;have hbb:=HBB.out _ _ _ (by rw [List.map_append,hkk,List.map_append];rfl) S.fr
    have ca:=HTZ.out _ hbb;go_simp;exact kk _ _ (by simp) bR rfl
   ·intro a w1 vs dn k O N K S hpre KE DE kk;obtain ⟨O2,N2,rfl,rfl,h0,h1⟩:=S.t;have e40:=dep (DE 4 _ 40 rfl rfl rfl);have e41:=dep (DE 5 _ 41 rfl rfl rfl);have e42:=dep (DE 6 _ 42 rfl rfl rfl);have e47:=dep (DE 11 _ 47 rfl rfl rfl);have e52:=dep (DE 16 _ 52 rfl rfl rfl);go_simp;exact kk _ _ (by simp) bR rfl
   ·intro a w1 vs dn k O N K S hpre KE DE kk;obtain ⟨O2,N2,rfl,rfl,h0,h1⟩:=S.t;have e53:=dep (DE 17 _ 53 rfl rfl rfl);go_simp;exact kk _ _ (by simp) (S.fr.alloc rfl _ _) rfl
   ·intro a w1 vs dn k O N K S hpre KE DE kk;subst hpre;obtain ⟨O2,N2,rfl,rfl,h0,h1⟩:=S.t;have e36:=dep (DE 0 _ 36 rfl rfl rfl);have e54:=dep (DE 18 _ 54 rfl rfl rfl);obtain ⟨rfl,rfl⟩:=h0 rfl;have hbk:=(S.fr.new (gOf (vs 18),87,iC [fa,(ia:Int),(ib:Int),fz,tz]) (List.mem_append_right _ (by unfold aTab;exact List.mem_map.2 ⟨(18,87,fun _=>iC [fa,(ia:Int),(ib:Int),fz,tz]),List.mem_filter.2 ⟨by simp,S.done 18 rfl⟩,rfl⟩))).2
    refine wpo_pushO (.tmp 36) (.tmp 54) 83 rfl S.fr HLS.out u_83 i_87b rfl (by decide) (by decide) HNT.out (gOf (vs 18)) 1 (iC [fa,(ia:Int),(ib:Int),fz,tz]) 87 (by simpa [Act.eval] using e36) (by simpa [Act.eval] using e54) hbk rfl rfl ?_
    intro v' w' O2 N2 hlg hf;refine kk _ _ (by simp) ⟨_,_,⟨O2,N2,rfl,rfl,fun h=>absurd h (by decide),fun _=>?_⟩,?_⟩ trivial
    ·exact hlg
    ·refine Fr.stage (hf.perm ?_) (by exact ⟨rfl,trivial⟩)
     simp only [List.nil_append];exact List.perm_append_comm
   ·intro a w1 vs dn k O N K S hpre KE DE kk;subst hpre;obtain ⟨O2,N2,rfl,rfl,h0,h1⟩:=S.t;have e6:=KE 6 (by decide)
    have e55:=(DE 19 _ 55 rfl rfl rfl).1;exact wpo_storeCell 83 (.tmp 6) (.tmp 55) rfl rfl g11 0 (by simpa [Act.eval] using e6) (vs 19) (by simpa [Act.eval] using e55) _ _ (S.fr.getO 2 rfl) (by show 0<1;omega) (by obtain ⟨g,m,c,cur',hv,_⟩:=h1 (by decide);rw [hv];rfl) (by kernel_rfl) fun w' hk ho=>kk _ _ (by simp) ⟨_,_,⟨O2,_,rfl,rfl,fun h=>absurd h (by decide),fun _=>h1 (by decide)⟩,Fr.stage (S.fr.onlyO 2 rfl ho hk) (by exact ⟨rfl,trivial⟩)⟩ trivial
  ·intro vs wf O N hT hf hR;obtain ⟨O2,N2,rfl,rfl,_,hlg⟩:=hT;have hf2:=hf.sub (List.sublist_append_left _ _);exact HEN.out _ _ _ _ _ (hlg (by decide)) hf2
 case hdone =>
  intro D ys W hD hys hIW hK;obtain ⟨u,cur,hl,h2⟩:=(HIB.out _ _).1 hIW;obtain ⟨hxe,hle⟩:=HXE.out ys hys;rw [hxe,hle] at hl;obtain ⟨uq,um,uc,rfl⟩:=lst_slice hl;have hsub:List.Sublist (α:=Ent) ([(g11,83,#[.slice uq um uc])]) ((([(qb,77,#[.slice (some ⟨B,0,none⟩) n c]),(qb+1,40,#[.slice (some ⟨gt,0,none⟩) n cap]),(g11,83,#[(.slice uq um uc)]),(gr,77,#[.slice (some ⟨B,0,none⟩) n c])]:List Ent) ++ lstE 87 (.slice uq um uc) cur)):=.cons _ (.cons _ (.cons_cons _ (List.nil_sublist _)));have HFB:Hid (Fr W [(g11,83,#[.slice uq um uc])] [] W):=hZ (Fr.startL (fun y hy=>(h2.new y (hsub.subset hy)).2) (h2.ndN.sublist (hsub.map _)));have h6:=h2.putObj (.deferred none) (by omega) hK rfl
  have HP:=hZ (HFIN.out _ _ _ hl (h6.sub (.cons _ (.cons _ (.cons _ (.cons _ (List.Sublist.refl _)))))));have HKD:=hZ hK;clear hsub hD hys hIW hK hl h2 hxe hle h6;have c101:W.cell? ⟨g11,0,none⟩=some (.slice uq um uc):=(HFB.out.getO 0 rfl).cell 0;go_wp2_with fail
  clear c101;refine ⟨by simp,.inl ⟨_,_,rfl,run_takeDeferred HKD.out,?_⟩⟩
  exact ⟨_,results_tmp2 (t:=4) (u:=5) rfl _ _ _,HP.out⟩
 case hstop =>
  intro D cd pre W hD hSp hIx;exact absurd hIx (HIX.out _ _ _)
end Go.Proofs.YtmkoegljnebdiaaGreat
namespace Go.Proofs.YtmkoegljnebdiaaGreat
open Go.RowKit Go.Shelf
set_option maxRecDepth 100000
set_option maxHeartbeats 16000000

def AnyB (w:World) (e:Ending) (w':World):Prop:=∃ b,e=.returned (.bool b)∧Below w.heap.size w w'
def AnyI (w:World) (e:Ending) (w':World):Prop:=∃ r:Int,e=.returned (.int .i64 r)∧Below w.heap.size w w'
theorem number192_any (n:Int) (w:World):Calls Tryz.prog 192 #[.int .i64 n] w fun e w'=>e=.returned (.bool (numB n))∧w'=w:=by
 have HR:Hid (numB n=decide (-9223372036854775807≤n)):=hZ rfl;go_enter Tryz.func192,Tryz.ntmps192;go_wp2_with fail
 go_ret
 exact ⟨ret_bool HR.out.symm,rfl⟩
theorem small183_any (n:Int) (w:World):Calls Tryz.prog 183 #[.int .i64 n] w fun e w'=>∃ b,e=.returned (.bool b)∧w'=w:=by
 refine pQ fun PQ hPQ=>?_
 have HFIN:Hid (∀ b,PQ (.returned (.bool b)) w):=hZ fun b=>by rw [← hPQ];exact ⟨b,rfl,rfl⟩
 clear hPQ;by_cases h1:-2305843009213693952≤n
 ·go_enter Tryz.func183,Tryz.ntmps183;go_wp2_with fail
  exact HFIN.out _
 ·go_enter Tryz.func183,Tryz.ntmps183;go_wp2_with fail
  exact HFIN.out _
theorem check182_any (a:SpanD) (w:World):Calls Tryz.prog 182 #[spanV a] w fun e w'=>e=.returned (.int .i64 (errC a))∧Below w.heap.size w w':=by
 refine pQ fun PQ hPQ=>?_
 have HFIN:Hid (∀ w' r,r=errC a→Fr w [] [] w'→PQ (.returned (.int .i64 r)) w'):=hZ fun w' r hr h=>by rw [← hPQ,hr];exact ⟨rfl,h.toBelow⟩
 clear hPQ;obtain ⟨al,ah⟩:=a;unfold spanV;dsimp only;have HN1:=hZ (number192_any al);have HN2:=hZ (number192_any ah);obtain ⟨b1,h1⟩:=eX (numB al);obtain ⟨b2,h2⟩:=eX (numB ah);rw [h1] at HN1;rw [h2] at HN2;have HE:Hid (errC ⟨al,ah⟩=if (b1 && b2 && decide (al≤ah))=true then 0 else 2):=hZ (by rw [← h1,← h2];rfl)
 clear h1 h2;obtain ⟨qb,W0,hqb,hW0,HF0⟩:=fM (Fr.start w) [(#[al,ah],31)];go_enter Tryz.func182,Tryz.ntmps182;go_upto_region 1 with (fail);clear hW0 hqb;have c1:W0.cell? ⟨qb,0,none⟩=some (.int .i64 al):=(HF0.out.get 0 rfl).cell 0;go_wp2_with fail
 clear c1;refine (HN1.out _).mono ?_
 rintro e w2 ⟨rfl,hw⟩;rw [hw];clear hw w2;have c3:W0.cell? ⟨qb,1,none⟩=some (.int .i64 ah):=(HF0.out.get 0 rfl).cell 1;go_wp2_with fail
 clear c3;refine (HN2.out _).mono ?_
 rintro e w4 ⟨rfl,hw⟩;rw [hw];clear hw w4;go_upto_region 3 with (fail);cases b1 with
 | false =>
  go_wp2_with fail
  exact HFIN.out _ _ (by rw [HE.out];simp) HF0.out.drop
 | true =>
  cases b2 with
  | false =>
   go_wp2_with fail
   exact HFIN.out _ _ (by rw [HE.out];simp) HF0.out.drop
  | true =>
   by_cases hgt:ah<al
   ·skip
    have c5:W0.cell? ⟨qb,0,none⟩=some (.int .i64 al):=(HF0.out.get 0 rfl).cell 0;have c6:W0.cell? ⟨qb,1,none⟩=some (.int .i64 ah):=(HF0.out.get 0 rfl).cell 1;have HG:=hZ hgt;go_wp2_with fail
    clear c5 c6;exact HFIN.out _ _ (by rw [HE.out];have:=HG.out;first | simp;done | (simp;omega) | (rw [if_pos (by simp;omega)]) | (rw [if_neg (by simp;omega)])) HF0.out.drop
   ·skip
    have c5:W0.cell? ⟨qb,0,none⟩=some (.int .i64 al):=(HF0.out.get 0 rfl).cell 0;have c6:W0.cell? ⟨qb,1,none⟩=some (.int .i64 ah):=(HF0.out.get 0 rfl).cell 1;have HG:=hZ hgt;go_wp2_with fail
    clear c5 c6;exact HFIN.out _ _ (by rw [HE.out];have:=HG.out;first | simp;done | (simp;omega) | (rw [if_pos (by simp;omega)]) | (rw [if_neg (by simp;omega)])) HF0.out.drop
theorem both181_any (a b:SpanD) (w:World):Calls Tryz.prog 181 #[spanV a,spanV b] w (AnyI w):=by
 have HA:=hZ (check182_any a);have HB:=hZ (check182_any b);refine pQ fun PQ hPQ=>?_
 have HFIN:Hid (∀ w' r,Fr w [] [] w'→PQ (.returned (.int .i64 r)) w'):=hZ fun w' r h=>by rw [← hPQ];exact ⟨r,rfl,h.toBelow⟩
 clear hPQ;obtain ⟨al,ah⟩:=a;obtain ⟨bl,bh⟩:=b;unfold spanV at HA HB ⊢;dsimp only at HA HB ⊢;obtain ⟨ra,hra⟩:=eX (errC ⟨al,ah⟩);obtain ⟨rb,hrb⟩:=eX (errC ⟨bl,bh⟩);rw [hra] at HA;rw [hrb] at HB;clear hra hrb;obtain ⟨qb,W0,hqb,hW0,HF0⟩:=fM (Fr.start w) [(#[al,ah],31),(#[bl,bh],31)];go_enter Tryz.func181,Tryz.ntmps181;go_upto_region 1 with (fail);clear hW0 hqb;refine wr0 (rV [.agg #[al,ah],.int .i64 ra,.agg #[bl,bh],.int .i64 rb,.int .i64 (max ra rb),.int .i64 (max ra rb)]) HF0.out ?_ ?_
 ·refine ⟨?_,?_,?_,?_,?_,?_,trivial⟩
  all_goals intro a w1 vs dn k K S hpre KE DE kk
  ·exact oM (eT (KE 2)) (S.fr.left.get 0 rfl) (kk _ _)
  ·have e5:=dep (DE 0 5);exact oE rfl (HA.out w1) (by simp [Act.eval,e5]) @kk
  ·exact oM (eT (KE 3)) (S.fr.left.get 1 rfl) (kk _ _)
  ·have e7:=dep (DE 2 7);exact oE rfl (HB.out w1) (by simp [Act.eval,e7]) @kk
  ·have e6:=dep (DE 1 6);have e8:=dep (DE 3 8);go_simp;exact kk _ _
  ·have e9:=dep (DE 4 9);go_simp;exact kk _ _
 ·intro vs w1 HFr HR;have v5:vs 5=.int .i64 (max ra rb):=HR 5 _ rfl;have HF1:=hZ HFr;clear HFr HR;simp only [putAll,Act.put,List.setIfInBounds_toArray,List.set_cons_zero,List.set_cons_succ,v5];clear v5;go_wp2_with fail
  exact HFIN.out _ _ HF1.out.drop
theorem least149_any (a:SpanD) (n:Int) (w:World):Calls Tryz.prog 149 #[spanV a,.int .i64 n] w (AnyB w):=by
 have HA:=hZ (check182_any a);refine pQ fun PQ hPQ=>?_
 have HFIN:Hid (∀ w' r,Fr w [] [] w'→PQ (.returned (.bool r)) w'):=hZ fun w' r h=>by rw [← hPQ];exact ⟨r,rfl,h.toBelow⟩
 clear hPQ;obtain ⟨al,ah⟩:=a;unfold spanV at HA ⊢;dsimp only at HA ⊢;obtain ⟨ra,hra⟩:=eX (errC ⟨al,ah⟩);rw [hra] at HA;clear hra;by_cases h0:ra=0
 ·have hz:(ra == 0)=true:=by simpa using h0
  clear h0;obtain ⟨qb,W0,hqb,hW0,HF0⟩:=fM (Fr.start w) [(#[al,ah],31)];go_enter Tryz.func149,Tryz.ntmps149;go_upto_region 1 with (fail);clear hW0 hqb;go_wp2_with (refine lS (gN HF0 0) al ah ?_)
  refine mB HF0.out (HA.out _) fun w1 HF2=>?_;have c3:=cA (gN HF2 0) 0;go_wp2_with fail
  clear c3;exact HFIN.out _ _ HF2.out.drop
 ·have hz:(ra == 0)=false:=by simpa using h0
  clear h0;obtain ⟨qb,W0,hqb,hW0,HF0⟩:=fM (Fr.start w) [(#[al,ah],31)];go_enter Tryz.func149,Tryz.ntmps149;go_upto_region 1 with (fail);clear hW0 hqb;go_wp2_with (refine lS (gN HF0 0) al ah ?_)
  refine mB HF0.out (HA.out _) fun w1 HF2=>?_;go_wp2_with fail
  exact HFIN.out _ _ HF2.out.drop
theorem within148_any (a b:SpanD) (w:World):Calls Tryz.prog 148 #[spanV a,spanV b] w (AnyB w):=by
 have HA:=hZ (both181_any a b);refine pQ fun PQ hPQ=>?_
 have HFIN:Hid (∀ w' r,Fr w [] [] w'→PQ (.returned (.bool r)) w'):=hZ fun w' r h=>by rw [← hPQ];exact ⟨r,rfl,h.toBelow⟩
 clear hPQ;obtain ⟨al,ah⟩:=a;obtain ⟨bl,bh⟩:=b;unfold spanV at HA ⊢;unfold AnyI at HA;dsimp only at HA ⊢;obtain ⟨qb,W0,hqb,hW0,HF0⟩:=fM (Fr.start w) [(#[al,ah],31),(#[bl,bh],31)];go_enter Tryz.func148,Tryz.ntmps148;go_upto_region 1 with (fail);clear hW0 hqb;go_wp2_with (first
   | (refine lS (gN HF0 0) al ah ?_)
   | (refine lS (gN HF0 1) bl bh ?_))
 refine (HA.out _).mono ?_
 rintro e wz ⟨r,rfl,hw⟩;have HF1:=hZ (HF0.out.below hw);clear hw;by_cases h0:r=0
 rotate_left
 ·have hz:(r == 0)=false:=by simpa using h0
  clear h0;go_wp2_with fail
  exact HFIN.out _ _ HF1.out.drop
 ·have hz:(r == 0)=true:=by simpa using h0
  clear h0;by_cases h1:bl≤al
  ·have hz2:decide (bl≤al)=true:=by simpa using h1
   clear h1;have c2:=cA (gN HF1 0) 0;have c3:=cA (gN HF1 1) 0;have c4:=cA (gN HF1 0) 1;have c5:=cA (gN HF1 1) 1;go_wp2_with fail
   clear c2 c3 c4 c5;exact HFIN.out _ _ HF1.out.drop
  ·have hz2:decide (bl≤al)=false:=by simpa using h1
   clear h1;have c2:=cA (gN HF1 0) 0;have c3:=cA (gN HF1 1) 0;go_wp2_with fail
   clear c2 c3;exact HFIN.out _ _ HF1.out.drop

theorem table150_any (w:World) (A:Option Addr) (n c:Nat) (v:Nat→PointD) (h:PtsAt w w.heap.size A n v) (h0:0<n) (h64:n≤64):Calls Tryz.prog 150 #[.slice A n c] w (AnyI w):=by
 refine pQ fun PQ hPQ=>?_
 have HFIN:Hid (∀ w' r,Fr w [] [] w'→PQ (.returned (.int .i64 r)) w'):=hZ fun w' r h=>by rw [← hPQ];exact ⟨r,rfl,h.toBelow⟩
 obtain ⟨b,off,rfl,-,-⟩:=h.2 h0;have HC:=hZ fun (k:Nat) (hk:k<n) w' (hb:Below w.heap.size w w')=>h.cells rfl hk (Fr.ofBelow hb);have HS:=hZ fun x w=>small183_any x w;have HK:=hZ fun a w=>check182_any a w;clear hPQ h;have hni:¬ ((n:Int)=0):=by omega
 have hnb:((n:Int) == 0)=false:=by simpa using hni
 have h64i:¬ (64<(n:Int)):=by omega
 go_enter Tryz.func150,Tryz.ntmps150;go_wp2_with fail
 go_loopw [3] (fun iv wr=>∃ k:Nat,k≤n∧iv=.int .i64 (k:Int)∧Hid (Fr w [] [] wr)) (fun iv _=>n - (intOf iv).toNat)
 case atStart=>exact ⟨0,Nat.zero_le _,rfl,hZ (Fr.start w)⟩
 case round =>
  obtain ⟨wo,rfl⟩:∃ wo:World,wo=wr:=⟨_,rfl⟩;obtain ⟨ki,hk,rfl,HF⟩:=hrel;have h0k:(0:Int)≤(ki:Int):=by omega
  by_cases hlt:ki<n
  rotate_left
  ·obtain rfl:n=ki:=by omega
   have hneg:¬ (n:Int)<(n:Int):=by omega
   go_wp2_with fail
   exact HFIN.out _ _ HF.out
  ·have hki:(ki:Int)<(n:Int):=by omega
   have HLT:=hZ hlt;have HCK:=hZ fun w' hb=>HC.out ki hlt w' hb;obtain ⟨⟨x,⟨xl,xh⟩⟩,hx⟩:=eX (v ki);rw [hx] at HCK;dsimp only at HCK;have HVX:=hZ hx;have hck:=HCK.out wo HF.out.toBelow;have d0:=hck.1;have d1:wo.cell? ⟨b,off+ki * 3+1,none⟩=some (.int .i64 xl):=hck.2.1 1 _ rfl;have d2:wo.cell? ⟨b,off+ki * 3+2,none⟩=some (.int .i64 xh):=hck.2.1 2 _ rfl;clear hck hx;go_wp2_with fail
   refine (HS.out _ _).mono ?_
   rintro e wz ⟨b4,rfl,hw⟩;rw [hw];clear hw wz;go_wp2_with fail
   refine (HS.out _ _).mono ?_
   rintro e wz ⟨b5,rfl,hw⟩;rw [hw];clear hw wz;go_wp2_with fail
   refine (HS.out _ _).mono ?_
   rintro e wz ⟨b6,rfl,hw⟩;rw [hw];clear hw wz;go_upto_region 9 with (fail);clear d0 d1 d2;obtain ⟨ec,hec⟩:=eX (errC ⟨xl,xh⟩);have HK2:=hZ (HK.out ⟨xl,xh⟩);rw [hec] at HK2;unfold spanV at HK2;dsimp only at HK2;clear hec;cases b4 with
   | false =>
    refine wr0 (rM [(0,.bool false),(1,.bool true),(2,.bool true),(5,.bool true),(6,.bool true),(9,.bool true),(10,.bool true),(18,.bool true),(19,.bool true),(22,undef),(36,.bool true)]) HF.out ?_ ?_
    ·refine ⟨?_,?_,?_,?_,?_,?_,?_,?_,?_,?_,?_,?_,?_,?_,?_,?_,?_,?_,?_,?_,?_,?_,?_,?_,?_,?_,?_,?_,?_,?_,?_,?_,?_,?_,?_,?_,?_,trivial⟩
     all_goals intro a w1 vs dn k K S hpre KE DE kk
     ·have e4:=KE 4;go_simp;exact kk _ _
     ·have e41:=dep (DE 0 41);go_simp;exact kk _ _
     ·have e42:=dep (DE 1 42);go_simp;exact kk _ _
     iterate 2 exact wN 2 false (dep (DE 2 43)) (kk undef _)
     ·have e43:=dep (DE 2 43);go_simp;exact kk _ _
     ·have e46:=dep (DE 5 46);go_simp;exact kk _ _
     iterate 2 exact wN 6 false (dep (DE 6 47)) (kk undef _)
     ·have e47:=dep (DE 6 47);go_simp;exact kk _ _
     ·have e50:=dep (DE 9 50);go_simp;exact kk _ _
     iterate 7 exact wN 10 false (dep (DE 10 51)) (kk undef _)
     ·have e51:=dep (DE 10 51);go_simp;exact kk _ _
     ·have e59:=dep (DE 18 59);go_simp;exact kk _ _
     iterate 3 exact wN 19 false (dep (DE 19 60)) (kk undef _)
     iterate 12 exact wU 22 true (dep (DE 22 63)) (kk undef _)
     ·have e63:=dep (DE 22 63);exact wN 19 false (dep (DE 19 60)) (kk undef _)
     ·have e60:=dep (DE 19 60);go_simp;exact kk _ _
    ·intro vs w1 HFr HR;have v36:vs 36=.bool true:=HR 36 _ rfl;have HF1:=hZ HFr;clear HFr HR;simp only [putAll,Act.put,List.setIfInBounds_toArray,List.set_cons_zero,List.set_cons_succ,v36];clear v36;go_wp2_with fail
     exact HFIN.out _ _ HF1.out
   | true =>
    cases b5 with
    | false =>
     refine wr0 (rM [(0,.bool true),(1,.bool false),(2,.bool false),(3,.bool false),(4,.bool true),(5,.bool true),(6,.bool true),(9,.bool true),(10,.bool true),(18,.bool true),(19,.bool true),(22,undef),(36,.bool true)]) HF.out ?_ ?_
     ·refine ⟨?_,?_,?_,?_,?_,?_,?_,?_,?_,?_,?_,?_,?_,?_,?_,?_,?_,?_,?_,?_,?_,?_,?_,?_,?_,?_,?_,?_,?_,?_,?_,?_,?_,?_,?_,?_,?_,trivial⟩
      all_goals intro a w1 vs dn k K S hpre KE DE kk
      ·have e4:=KE 4;go_simp;exact kk _ _
      ·have e41:=dep (DE 0 41);go_simp;exact kk _ _
      ·have e42:=dep (DE 1 42);go_simp;exact kk _ _
      ·have e5:=KE 5;refine wY 2 false (dep (DE 2 43)) ?_
       go_simp;exact kk _ _
      ·have e44:=dep (DE 3 44);refine wY 2 false (dep (DE 2 43)) ?_
       go_simp;exact kk _ _
      ·have e43:=dep (DE 2 43);have e45:=dep (DE 4 45);go_simp;exact kk _ _
      ·have e46:=dep (DE 5 46);go_simp;exact kk _ _
      iterate 2 exact wN 6 false (dep (DE 6 47)) (kk undef _)
      ·have e47:=dep (DE 6 47);go_simp;exact kk _ _
      ·have e50:=dep (DE 9 50);go_simp;exact kk _ _
      iterate 7 exact wN 10 false (dep (DE 10 51)) (kk undef _)
      ·have e51:=dep (DE 10 51);go_simp;exact kk _ _
      ·have e59:=dep (DE 18 59);go_simp;exact kk _ _
      iterate 3 exact wN 19 false (dep (DE 19 60)) (kk undef _)
      iterate 12 exact wU 22 true (dep (DE 22 63)) (kk undef _)
      ·have e63:=dep (DE 22 63);exact wN 19 false (dep (DE 19 60)) (kk undef _)
      ·have e60:=dep (DE 19 60);go_simp;exact kk _ _
     ·intro vs w1 HFr HR;have v36:vs 36=.bool true:=HR 36 _ rfl;have HF1:=hZ HFr;clear HFr HR;simp only [putAll,Act.put,List.setIfInBounds_toArray,List.set_cons_zero,List.set_cons_succ,v36];clear v36;go_wp2_with fail
      exact HFIN.out _ _ HF1.out
    | true =>
     cases b6 with
     | false =>
      refine wr0 (rM [(0,.bool true),(1,.bool false),(2,.bool false),(3,.bool true),(4,.bool false),(5,.bool false),(6,.bool false),(7,.bool false),(8,.bool true),(9,.bool true),(10,.bool true),(18,.bool true),(19,.bool true),(22,undef),(36,.bool true)]) HF.out ?_ ?_
      ·refine ⟨?_,?_,?_,?_,?_,?_,?_,?_,?_,?_,?_,?_,?_,?_,?_,?_,?_,?_,?_,?_,?_,?_,?_,?_,?_,?_,?_,?_,?_,?_,?_,?_,?_,?_,?_,?_,?_,trivial⟩
       all_goals intro a w1 vs dn k K S hpre KE DE kk
       ·have e4:=KE 4;go_simp;exact kk _ _
       ·have e41:=dep (DE 0 41);go_simp;exact kk _ _
       ·have e42:=dep (DE 1 42);go_simp;exact kk _ _
       ·have e5:=KE 5;refine wY 2 false (dep (DE 2 43)) ?_
        go_simp;exact kk _ _
       ·have e44:=dep (DE 3 44);refine wY 2 false (dep (DE 2 43)) ?_
        go_simp;exact kk _ _
       ·have e43:=dep (DE 2 43);have e45:=dep (DE 4 45);go_simp;exact kk _ _
       ·have e46:=dep (DE 5 46);go_simp;exact kk _ _
       ·have e6:=KE 6;refine wY 6 false (dep (DE 6 47)) ?_
        go_simp;exact kk _ _
       ·have e48:=dep (DE 7 48);refine wY 6 false (dep (DE 6 47)) ?_
        go_simp;exact kk _ _
       ·have e47:=dep (DE 6 47);have e49:=dep (DE 8 49);go_simp;exact kk _ _
       ·have e50:=dep (DE 9 50);go_simp;exact kk _ _
       iterate 7 exact wN 10 false (dep (DE 10 51)) (kk undef _)
       ·have e51:=dep (DE 10 51);go_simp;exact kk _ _
       ·have e59:=dep (DE 18 59);go_simp;exact kk _ _
       iterate 3 exact wN 19 false (dep (DE 19 60)) (kk undef _)
       iterate 12 exact wU 22 true (dep (DE 22 63)) (kk undef _)
       ·have e63:=dep (DE 22 63);exact wN 19 false (dep (DE 19 60)) (kk undef _)
       ·have e60:=dep (DE 19 60);go_simp;exact kk _ _
      ·intro vs w1 HFr HR;have v36:vs 36=.bool true:=HR 36 _ rfl;have HF1:=hZ HFr;clear HFr HR;simp only [putAll,Act.put,List.setIfInBounds_toArray,List.set_cons_zero,List.set_cons_succ,v36];clear v36;go_wp2_with fail
       exact HFIN.out _ _ HF1.out
     | true =>
      by_cases he:ec=0
      rotate_left
      ·have heb:(ec != 0)=true:=by simpa using he
       clear he;refine wr0 (rM [(0,.bool true),(1,.bool false),(2,.bool false),(3,.bool true),(4,.bool false),(5,.bool false),(6,.bool false),(7,.bool true),(8,.bool false),(9,.bool false),(10,.bool false),(11,.slice (some ⟨b,off,none⟩) n c),(12,.int .i64 (ki:Int)),(13,.pointer (some ⟨b,off+ki * 3,none⟩)),(14,.pointer (some ⟨b,off+ki * 3+1,none⟩)),(15,.agg #[xl,xh]),(16,.int .i64 ec),(17,.bool true),(18,.bool true),(19,.bool true),(22,undef),(36,.bool true)]) HF.out ?_ ?_
       ·refine ⟨?_,?_,?_,?_,?_,?_,?_,?_,?_,?_,?_,?_,?_,?_,?_,?_,?_,?_,?_,?_,?_,?_,?_,?_,?_,?_,?_,?_,?_,?_,?_,?_,?_,?_,?_,?_,?_,trivial⟩
        all_goals intro a w1 vs dn k K S hpre KE DE kk
        ·have e4:=KE 4;go_simp;exact kk _ _
        ·have e41:=dep (DE 0 41);go_simp;exact kk _ _
        ·have e42:=dep (DE 1 42);go_simp;exact kk _ _
        ·have e5:=KE 5;refine wY 2 false (dep (DE 2 43)) ?_
         go_simp;exact kk _ _
        ·have e44:=dep (DE 3 44);refine wY 2 false (dep (DE 2 43)) ?_
         go_simp;exact kk _ _
        ·have e43:=dep (DE 2 43);have e45:=dep (DE 4 45);go_simp;exact kk _ _
        ·have e46:=dep (DE 5 46);go_simp;exact kk _ _
        ·have e6:=KE 6;refine wY 6 false (dep (DE 6 47)) ?_
         go_simp;exact kk _ _
        ·have e48:=dep (DE 7 48);refine wY 6 false (dep (DE 6 47)) ?_
         go_simp;exact kk _ _
        ·have e47:=dep (DE 6 47);have e49:=dep (DE 8 49);go_simp;exact kk _ _
        ·have e50:=dep (DE 9 50);go_simp;exact kk _ _
        ·have e0:=KE 0;refine wY 10 false (dep (DE 10 51)) ?_
         go_simp;exact kk _ _
        ·have e3:=KE 3;refine wY 10 false (dep (DE 10 51)) ?_
         go_simp;exact kk _ _
        ·have e52:=dep (DE 11 52);have e53:=dep (DE 12 53);refine wY 10 false (dep (DE 10 51)) ?_
         go_simp;exact kk _ _
        ·have e54:=dep (DE 13 54);refine wY 10 false (dep (DE 10 51)) ?_
         go_simp;exact kk _ _
        ·have e55:=dep (DE 14 55);rw [if_pos (wanted_yes 10 false rfl rfl rfl (dep (DE 10 51)))];exact wpo_loadS 31 (.tmp 55) rfl b (off+ki * 3+1) (by simpa [Act.eval] using e55) #[xl,xh] _ (HCK.out w1 S.fr.toBelow).2.2 u_span rfl i_span (kk _ _)
        ·have e56:=dep (DE 15 56);refine wY 10 false (dep (DE 10 51)) ?_
         exact oE rfl (HK2.out w1) (by simp [Act.eval,e56]) @kk
        ·have e57:=dep (DE 16 57);refine wY 10 false (dep (DE 10 51)) ?_
         go_simp;exact kk _ _
        ·have e51:=dep (DE 10 51);have e58:=dep (DE 17 58);go_simp;exact kk _ _
        ·have e59:=dep (DE 18 59);go_simp;exact kk _ _
        iterate 3 exact wN 19 false (dep (DE 19 60)) (kk undef _)
        iterate 12 exact wU 22 true (dep (DE 22 63)) (kk undef _)
        ·have e63:=dep (DE 22 63);exact wN 19 false (dep (DE 19 60)) (kk undef _)
        ·have e60:=dep (DE 19 60);go_simp;exact kk _ _
       ·intro vs w1 HFr HR;have v36:vs 36=.bool true:=HR 36 _ rfl;have HF1:=hZ HFr;clear HFr HR;simp only [putAll,Act.put,List.setIfInBounds_toArray,List.set_cons_zero,List.set_cons_succ,v36];clear v36;go_wp2_with fail
        exact HFIN.out _ _ HF1.out
      ·subst he;by_cases hk0:ki=0
       ·have hk0i:¬ (0:Int)<(ki:Int):=by omega
        have hk0n:¬ 0<ki:=by omega
        clear hk0;refine wr0 (rM [(0,.bool true),(1,.bool false),(2,.bool false),(3,.bool true),(4,.bool false),(5,.bool false),(6,.bool false),(7,.bool true),(8,.bool false),(9,.bool false),(10,.bool false),(11,.slice (some ⟨b,off,none⟩) n c),(12,.int .i64 (ki:Int)),(13,.pointer (some ⟨b,off+ki * 3,none⟩)),(14,.pointer (some ⟨b,off+ki * 3+1,none⟩)),(15,.agg #[xl,xh]),(16,.int .i64 0),(17,.bool false),(18,.bool false),(19,.bool false),(20,.int .i64 (ki:Int)),(21,.bool false),(22,.bool false),(35,.bool false),(36,.bool false)]) HF.out ?_ ?_
        ·refine ⟨?_,?_,?_,?_,?_,?_,?_,?_,?_,?_,?_,?_,?_,?_,?_,?_,?_,?_,?_,?_,?_,?_,?_,?_,?_,?_,?_,?_,?_,?_,?_,?_,?_,?_,?_,?_,?_,trivial⟩
         all_goals intro a w1 vs dn k K S hpre KE DE kk
         ·have e4:=KE 4;go_simp;exact kk _ _
         ·have e41:=dep (DE 0 41);go_simp;exact kk _ _
         ·have e42:=dep (DE 1 42);go_simp;exact kk _ _
         ·have e5:=KE 5;refine wY 2 false (dep (DE 2 43)) ?_
          go_simp;exact kk _ _
         ·have e44:=dep (DE 3 44);refine wY 2 false (dep (DE 2 43)) ?_
          go_simp;exact kk _ _
         ·have e43:=dep (DE 2 43);have e45:=dep (DE 4 45);go_simp;exact kk _ _
         ·have e46:=dep (DE 5 46);go_simp;exact kk _ _
         ·have e6:=KE 6;refine wY 6 false (dep (DE 6 47)) ?_
          go_simp;exact kk _ _
         ·have e48:=dep (DE 7 48);refine wY 6 false (dep (DE 6 47)) ?_
          go_simp;exact kk _ _
         ·have e47:=dep (DE 6 47);have e49:=dep (DE 8 49);go_simp;exact kk _ _
         ·have e50:=dep (DE 9 50);go_simp;exact kk _ _
         ·have e0:=KE 0;refine wY 10 false (dep (DE 10 51)) ?_
          go_simp;exact kk _ _
         ·have e3:=KE 3;refine wY 10 false (dep (DE 10 51)) ?_
          go_simp;exact kk _ _
         ·have e52:=dep (DE 11 52);have e53:=dep (DE 12 53);refine wY 10 false (dep (DE 10 51)) ?_
          go_simp;exact kk _ _
         ·have e54:=dep (DE 13 54);refine wY 10 false (dep (DE 10 51)) ?_
          go_simp;exact kk _ _
         ·have e55:=dep (DE 14 55);rw [if_pos (wanted_yes 10 false rfl rfl rfl (dep (DE 10 51)))];exact wpo_loadS 31 (.tmp 55) rfl b (off+ki * 3+1) (by simpa [Act.eval] using e55) #[xl,xh] _ (HCK.out w1 S.fr.toBelow).2.2 u_span rfl i_span (kk _ _)
         ·have e56:=dep (DE 15 56);refine wY 10 false (dep (DE 10 51)) ?_
          exact oE rfl (HK2.out w1) (by simp [Act.eval,e56]) @kk
         ·have e57:=dep (DE 16 57);refine wY 10 false (dep (DE 10 51)) ?_
          go_simp;exact kk _ _
         ·have e51:=dep (DE 10 51);have e58:=dep (DE 17 58);go_simp;exact kk _ _
         ·have e59:=dep (DE 18 59);go_simp;exact kk _ _
         ·have e3:=KE 3;refine wY 19 false (dep (DE 19 60)) ?_
          go_simp;exact kk _ _
         ·have e61:=dep (DE 20 61);refine wY 19 false (dep (DE 19 60)) ?_
          go_simp;exact kk _ _
         ·have e62:=dep (DE 21 62);refine wY 19 false (dep (DE 19 60)) ?_
          go_simp;exact kk _ _
         iterate 12 exact wN 22 true (dep (DE 22 63)) (kk undef _)
         ·have e63:=dep (DE 22 63);refine wY 19 false (dep (DE 19 60)) ?_
          go_simp;exact kk _ _
         ·have e60:=dep (DE 19 60);have e76:=dep (DE 35 76);go_simp;exact kk _ _
        ·intro vs w1 HFr HR;have v36:vs 36=.bool false:=HR 36 _ rfl;have HF1:=hZ HFr;clear HFr HR;simp only [putAll,Act.put,List.setIfInBounds_toArray,List.set_cons_zero,List.set_cons_succ,v36];clear v36;go_wp2_with fail
         go_roundw
         case rel=>exact ⟨ki+1,by have:=HLT.out;omega,by go_num,hZ HF1.out⟩
         case measure=>simp [intOf] <;> omega
       ·obtain ⟨j,hkj⟩:∃ j,ki=j+1:=⟨ki - 1,by omega⟩
        have hjn:j<n:=by omega
        have hposn:0<ki:=by omega
        have hpos:(0:Int)<(ki:Int):=by omega
        have hsub:wrap64 ((ki:Int) - 1)=(j:Int):=by rw [w64_in (by omega) (by omega)];omega
        have hwj:IntKind.i64.wrap ((ki:Int) - 1)=(j:Int):=by rw [IntWalk.i64_in _ (by omega)];omega
        have hj1:(j:Int)<(n:Int):=by omega
        have h0j:(0:Int)≤(j:Int):=by omega
        obtain ⟨y,hy⟩:=eX ((v j).at_);have HCJ:Hid (∀ w',Below w.heap.size w w'→w'.cell? ⟨b,off+j * 3,none⟩=some (.int .i64 y)):=hZ fun w' hb=>by rw [← hy];exact (HC.out j hjn w' hb).1
        obtain ⟨x2,hx2⟩:∃ z:Bool,decide (x≤y)=z:=⟨_,rfl⟩;clear hy hkj hk0;cases x2 with
        | true =>
         refine wr0 (rV [.bool true,.bool false,.bool false,.bool true,.bool false,.bool false,.bool false,.bool true,.bool false,.bool false,.bool false,.slice (some ⟨b,off,none⟩) n c,.int .i64 (ki:Int),.pointer (some ⟨b,off+ki * 3,none⟩),.pointer (some ⟨b,off+ki * 3+1,none⟩),.agg #[xl,xh],.int .i64 0,.bool false,.bool false,.bool false,.int .i64 (ki:Int),.bool true,.bool true,.slice (some ⟨b,off,none⟩) n c,.int .i64 (ki:Int),.int .i64 (j:Int),.pointer (some ⟨b,off+j * 3,none⟩),.pointer (some ⟨b,off+j * 3,none⟩),.int .i64 y,.slice (some ⟨b,off,none⟩) n c,.int .i64 (ki:Int),.pointer (some ⟨b,off+ki * 3,none⟩),.pointer (some ⟨b,off+ki * 3,none⟩),.int .i64 x,.bool true,.bool true,.bool true]) HF.out ?_ ?_
         ·refine ⟨?_,?_,?_,?_,?_,?_,?_,?_,?_,?_,?_,?_,?_,?_,?_,?_,?_,?_,?_,?_,?_,?_,?_,?_,?_,?_,?_,?_,?_,?_,?_,?_,?_,?_,?_,?_,?_,trivial⟩
          all_goals intro a w1 vs dn k K S hpre KE DE kk
          ·have e4:=KE 4;go_simp;exact kk _ _
          ·have e41:=dep (DE 0 41);go_simp;exact kk _ _
          ·have e42:=dep (DE 1 42);go_simp;exact kk _ _
          ·have e5:=KE 5;refine wY 2 false (dep (DE 2 43)) ?_
           go_simp;exact kk _ _
          ·have e44:=dep (DE 3 44);refine wY 2 false (dep (DE 2 43)) ?_
           go_simp;exact kk _ _
          ·have e43:=dep (DE 2 43);have e45:=dep (DE 4 45);go_simp;exact kk _ _
          ·have e46:=dep (DE 5 46);go_simp;exact kk _ _
          ·have e6:=KE 6;refine wY 6 false (dep (DE 6 47)) ?_
           go_simp;exact kk _ _
          ·have e48:=dep (DE 7 48);refine wY 6 false (dep (DE 6 47)) ?_
           go_simp;exact kk _ _
          ·have e47:=dep (DE 6 47);have e49:=dep (DE 8 49);go_simp;exact kk _ _
          ·have e50:=dep (DE 9 50);go_simp;exact kk _ _
          ·have e0:=KE 0;refine wY 10 false (dep (DE 10 51)) ?_
           go_simp;exact kk _ _
          ·have e3:=KE 3;refine wY 10 false (dep (DE 10 51)) ?_
           go_simp;exact kk _ _
          ·have e52:=dep (DE 11 52);have e53:=dep (DE 12 53);refine wY 10 false (dep (DE 10 51)) ?_
           go_simp;exact kk _ _
          ·have e54:=dep (DE 13 54);refine wY 10 false (dep (DE 10 51)) ?_
           go_simp;exact kk _ _
          ·have e55:=dep (DE 14 55);rw [if_pos (wanted_yes 10 false rfl rfl rfl (dep (DE 10 51)))];exact wpo_loadS 31 (.tmp 55) rfl b (off+ki * 3+1) (by simpa [Act.eval] using e55) #[xl,xh] _ (HCK.out w1 S.fr.toBelow).2.2 u_span rfl i_span (kk _ _)
          ·have e56:=dep (DE 15 56);refine wY 10 false (dep (DE 10 51)) ?_
           exact oE rfl (HK2.out w1) (by simp [Act.eval,e56]) @kk
          ·have e57:=dep (DE 16 57);refine wY 10 false (dep (DE 10 51)) ?_
           go_simp;exact kk _ _
          ·have e51:=dep (DE 10 51);have e58:=dep (DE 17 58);go_simp;exact kk _ _
          ·have e59:=dep (DE 18 59);go_simp;exact kk _ _
          ·have e3:=KE 3;refine wY 19 false (dep (DE 19 60)) ?_
           go_simp;exact kk _ _
          ·have e61:=dep (DE 20 61);refine wY 19 false (dep (DE 19 60)) ?_
           go_simp;exact kk _ _
          ·have e62:=dep (DE 21 62);refine wY 19 false (dep (DE 19 60)) ?_
           go_simp;exact kk _ _
          ·have e0:=KE 0;refine wY 22 true (dep (DE 22 63)) ?_
           go_simp;exact kk _ _
          ·have e3:=KE 3;refine wY 22 true (dep (DE 22 63)) ?_
           go_simp;exact kk _ _
          ·have e65:=dep (DE 24 65);refine wY 22 true (dep (DE 22 63)) ?_
           go_simp;exact kk _ _
          ·have e64:=dep (DE 23 64);have e66:=dep (DE 25 66);refine wY 22 true (dep (DE 22 63)) ?_
           go_simp;exact kk _ _
          ·have e67:=dep (DE 26 67);refine wY 22 true (dep (DE 22 63)) ?_
           go_simp;exact kk _ _
          ·have e68:=dep (DE 27 68);rw [if_pos (wanted_yes 22 true rfl rfl rfl (dep (DE 22 63)))];have ca:=HCJ.out w1 S.fr.toBelow;go_simp;exact kk _ _
          ·have e0:=KE 0;refine wY 22 true (dep (DE 22 63)) ?_
           go_simp;exact kk _ _
          ·have e3:=KE 3;refine wY 22 true (dep (DE 22 63)) ?_
           go_simp;exact kk _ _
          ·have e70:=dep (DE 29 70);have e71:=dep (DE 30 71);refine wY 22 true (dep (DE 22 63)) ?_
           go_simp;exact kk _ _
          ·have e72:=dep (DE 31 72);refine wY 22 true (dep (DE 22 63)) ?_
           go_simp;exact kk _ _
          ·have e73:=dep (DE 32 73);rw [if_pos (wanted_yes 22 true rfl rfl rfl (dep (DE 22 63)))];have ca:=(HCK.out w1 S.fr.toBelow).1;go_simp;exact kk _ _
          ·have e69:=dep (DE 28 69);have e74:=dep (DE 33 74);refine wY 22 true (dep (DE 22 63)) ?_
           go_simp;exact kk _ _
          ·have e63:=dep (DE 22 63);have e75:=dep (DE 34 75);refine wY 19 false (dep (DE 19 60)) ?_
           go_simp;exact kk _ _
          ·have e60:=dep (DE 19 60);have e76:=dep (DE 35 76);go_simp;exact kk _ _
         ·intro vs w1 HFr HR;have v36:vs 36=.bool true:=HR 36 _ rfl;have HF1:=hZ HFr;clear HFr HR;simp only [putAll,Act.put,List.setIfInBounds_toArray,List.set_cons_zero,List.set_cons_succ,v36];clear v36;go_wp2_with fail
          exact HFIN.out _ _ HF1.out
        | false =>
         refine wr0 (rV [.bool true,.bool false,.bool false,.bool true,.bool false,.bool false,.bool false,.bool true,.bool false,.bool false,.bool false,.slice (some ⟨b,off,none⟩) n c,.int .i64 (ki:Int),.pointer (some ⟨b,off+ki * 3,none⟩),.pointer (some ⟨b,off+ki * 3+1,none⟩),.agg #[xl,xh],.int .i64 0,.bool false,.bool false,.bool false,.int .i64 (ki:Int),.bool true,.bool true,.slice (some ⟨b,off,none⟩) n c,.int .i64 (ki:Int),.int .i64 (j:Int),.pointer (some ⟨b,off+j * 3,none⟩),.pointer (some ⟨b,off+j * 3,none⟩),.int .i64 y,.slice (some ⟨b,off,none⟩) n c,.int .i64 (ki:Int),.pointer (some ⟨b,off+ki * 3,none⟩),.pointer (some ⟨b,off+ki * 3,none⟩),.int .i64 x,.bool false,.bool false,.bool false]) HF.out ?_ ?_
         ·refine ⟨?_,?_,?_,?_,?_,?_,?_,?_,?_,?_,?_,?_,?_,?_,?_,?_,?_,?_,?_,?_,?_,?_,?_,?_,?_,?_,?_,?_,?_,?_,?_,?_,?_,?_,?_,?_,?_,trivial⟩
          all_goals intro a w1 vs dn k K S hpre KE DE kk
          ·have e4:=KE 4;go_simp;exact kk _ _
          ·have e41:=dep (DE 0 41);go_simp;exact kk _ _
          ·have e42:=dep (DE 1 42);go_simp;exact kk _ _
          ·have e5:=KE 5;refine wY 2 false (dep (DE 2 43)) ?_
           go_simp;exact kk _ _
          ·have e44:=dep (DE 3 44);refine wY 2 false (dep (DE 2 43)) ?_
           go_simp;exact kk _ _
          ·have e43:=dep (DE 2 43);have e45:=dep (DE 4 45);go_simp;exact kk _ _
          ·have e46:=dep (DE 5 46);go_simp;exact kk _ _
          ·have e6:=KE 6;refine wY 6 false (dep (DE 6 47)) ?_
           go_simp;exact kk _ _
          ·have e48:=dep (DE 7 48);refine wY 6 false (dep (DE 6 47)) ?_
           go_simp;exact kk _ _
          ·have e47:=dep (DE 6 47);have e49:=dep (DE 8 49);go_simp;exact kk _ _
          ·have e50:=dep (DE 9 50);go_simp;exact kk _ _
          ·have e0:=KE 0;refine wY 10 false (dep (DE 10 51)) ?_
           go_simp;exact kk _ _
          ·have e3:=KE 3;refine wY 10 false (dep (DE 10 51)) ?_
           go_simp;exact kk _ _
          ·have e52:=dep (DE 11 52);have e53:=dep (DE 12 53);refine wY 10 false (dep (DE 10 51)) ?_
           go_simp;exact kk _ _
          ·have e54:=dep (DE 13 54);refine wY 10 false (dep (DE 10 51)) ?_
           go_simp;exact kk _ _
          ·have e55:=dep (DE 14 55);rw [if_pos (wanted_yes 10 false rfl rfl rfl (dep (DE 10 51)))];exact wpo_loadS 31 (.tmp 55) rfl b (off+ki * 3+1) (by simpa [Act.eval] using e55) #[xl,xh] _ (HCK.out w1 S.fr.toBelow).2.2 u_span rfl i_span (kk _ _)
          ·have e56:=dep (DE 15 56);refine wY 10 false (dep (DE 10 51)) ?_
           exact oE rfl (HK2.out w1) (by simp [Act.eval,e56]) @kk
          ·have e57:=dep (DE 16 57);refine wY 10 false (dep (DE 10 51)) ?_
           go_simp;exact kk _ _
          ·have e51:=dep (DE 10 51);have e58:=dep (DE 17 58);go_simp;exact kk _ _
          ·have e59:=dep (DE 18 59);go_simp;exact kk _ _
          ·have e3:=KE 3;refine wY 19 false (dep (DE 19 60)) ?_
           go_simp;exact kk _ _
          ·have e61:=dep (DE 20 61);refine wY 19 false (dep (DE 19 60)) ?_
           go_simp;exact kk _ _
          ·have e62:=dep (DE 21 62);refine wY 19 false (dep (DE 19 60)) ?_
           go_simp;exact kk _ _
          ·have e0:=KE 0;refine wY 22 true (dep (DE 22 63)) ?_
           go_simp;exact kk _ _
          ·have e3:=KE 3;refine wY 22 true (dep (DE 22 63)) ?_
           go_simp;exact kk _ _
          ·have e65:=dep (DE 24 65);refine wY 22 true (dep (DE 22 63)) ?_
           go_simp;exact kk _ _
          ·have e64:=dep (DE 23 64);have e66:=dep (DE 25 66);refine wY 22 true (dep (DE 22 63)) ?_
           go_simp;exact kk _ _
          ·have e67:=dep (DE 26 67);refine wY 22 true (dep (DE 22 63)) ?_
           go_simp;exact kk _ _
          ·have e68:=dep (DE 27 68);rw [if_pos (wanted_yes 22 true rfl rfl rfl (dep (DE 22 63)))];have ca:=HCJ.out w1 S.fr.toBelow;go_simp;exact kk _ _
          ·have e0:=KE 0;refine wY 22 true (dep (DE 22 63)) ?_
           go_simp;exact kk _ _
          ·have e3:=KE 3;refine wY 22 true (dep (DE 22 63)) ?_
           go_simp;exact kk _ _
          ·have e70:=dep (DE 29 70);have e71:=dep (DE 30 71);refine wY 22 true (dep (DE 22 63)) ?_
           go_simp;exact kk _ _
          ·have e72:=dep (DE 31 72);refine wY 22 true (dep (DE 22 63)) ?_
           go_simp;exact kk _ _
          ·have e73:=dep (DE 32 73);rw [if_pos (wanted_yes 22 true rfl rfl rfl (dep (DE 22 63)))];have ca:=(HCK.out w1 S.fr.toBelow).1;go_simp;exact kk _ _
          ·have e69:=dep (DE 28 69);have e74:=dep (DE 33 74);refine wY 22 true (dep (DE 22 63)) ?_
           go_simp;exact kk _ _
          ·have e63:=dep (DE 22 63);have e75:=dep (DE 34 75);refine wY 19 false (dep (DE 19 60)) ?_
           go_simp;exact kk _ _
          ·have e60:=dep (DE 19 60);have e76:=dep (DE 35 76);go_simp;exact kk _ _
         ·intro vs w1 HFr HR;have v36:vs 36=.bool false:=HR 36 _ rfl;have HF1:=hZ HFr;clear HFr HR;simp only [putAll,Act.put,List.setIfInBounds_toArray,List.set_cons_zero,List.set_cons_succ,v36];clear v36;go_wp2_with fail
          go_roundw
          case rel=>exact ⟨ki+1,by have:=HLT.out;omega,by go_num,hZ HF1.out⟩
          case measure=>simp [intOf] <;> omega
end Go.Proofs.YtmkoegljnebdiaaGreat
