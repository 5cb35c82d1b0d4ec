/- What is proved: the texts Fj Fm Fn La Lb Ja Jb, one behind the other; each says at its head what it proves, and under which conditions. -/
import Derived.Test.YtmkoegljnebdiaaGreatdPAborts6
namespace Go.Proofs.YtmkoegljnebdiaaGreat
open Go.RowKit Go.Shelf
set_option maxRecDepth 100000
set_option maxHeartbeats 16000000
attribute [local go_sem] Oper.semAt_some

theorem wpIn_region_ft {P:Program} {l:List Oper} {Q:Exit→Act→World→Prop} {a0:Act} (l₀ n:Nat) (hd:l.all noDefer=true) {id:Nat} {w0:World} (ks:List Kind) (C:List Nat) (A:List AEnt) (W:World) (T:Nat→(Nat→Value)→List Ent→List Ent→Prop) (R:Nat→Value→(Nat→Value)→Prop) (hm:P.follows .mixedOrders=true) (hB:regB l a0.tmps.size=true) (hch:chainOk l C=true) (AL:List Nat) (hAL:A.map (·.1)=AL) (hAn:AL.Nodup) (hAr:(AL.all fun i=>decide (i<l.length))=true)
  (hk:kindOk l C AL ks 0=true) (hT:∀ k vs vs' O N,(∀ i ∈ C,vs' i=vs i)→T k vs O N→T k vs' O N) {O0 N0:List Ent} (h0:Fr W O0 N0 w0) (hT0:∀ vs,T 0 vs O0 N0) (hs:StepsT P l Q a0 W T A C R ks l 0)
  (hend:∀ (vs:Nat→Value) (w:World) (O N:List Ent),T C.length vs O N→Fr W O (N ++ aAll A vs C.length) w→(∀ i o,l[i]?=some o→R i (vs i) (maskV o vs))→Q .normal (putAll l vs 0 a0) w) :
  (Code.region id l.toArray true).wpIn (Fence.wide.inRound l₀) n P Q a0 w0 :=
 wpIn_region_any hm ((any_ft ks C A W T R hB hch AL hAL hAn hAr hk hT h0 hT0 hs hend).inR l₀ n fun i o ho=>by
  rw [List.all_eq_true] at hd;exact hd o (List.mem_of_getElem? (by simpa using ho)))
theorem lengths_any (a:ArcD) (A:Option Addr) (n c:Nat) (b:Bool) (w:World) :
  Calls Tryz.prog 63 #[arcV a A n c,.bool b] w fun e w'=>e=.returned (.func (.func 126) #[] #[.pointer (some ⟨w.heap.size,0,none⟩),.pointer (some ⟨w.heap.size+1,0,none⟩)])∧Fr w [] [(w.heap.size,46,(arcV a A n c).cells),(w.heap.size+1,4,#[.bool b])] w':=by
 obtain ⟨cs,hcs⟩:∃ cs,arcV a A n c=.agg cs:=⟨_,rfl⟩;rw [hcs];go_enter Tryz.func63,Tryz.ntmps63;go_wp2_with fail
 go_ret
 refine ⟨by simp,?_⟩
 exact ((Fr.start w).alloc rfl 46 cs).alloc (by simp) 4 #[.bool b]
end Go.Proofs.YtmkoegljnebdiaaGreat
namespace Go.Proofs.YtmkoegljnebdiaaGreat
open Go.RowKit
set_option maxRecDepth 100000
set_option maxHeartbeats 16000000

theorem run_pushR {P:Program} {w:World} {e:TypeId} {sz bytes:Nat} {v z:Value} {cur:Array Value} {n:Nat} {xs:List Value} (hb:∀ g m c,v=.slice (some ⟨g,0,none⟩) m c→Bk w g e cur) (hl:LstAt sz v cur n xs)
  (t ty:TypeId) (ht:P.underlying t=some (.slice e)) (hinf:(P.info? e).map (fun i=>(i.zero,i.size,i.bytes))=some (some z,sz,bytes)) (hzs:z.cells.size=sz) (hsz:0<sz) (hby:bytes≤4096) (hn:n≤65536)
  (ad:Addr) (c:Nat) (news:List Value) (hnl:news.length=sz) (hnews:∀ j u,news[j]?=some u→w.cell? (ad.add j)=some u) (h1:∀ u ∈ news,u.oneCell'=true) :
  ∃ v' w' cur',(Builtin.append_ #[t,t] ty #[v,.slice (some ad) 1 c]).run P w=.ok v' w'∧LstAt sz v' cur' (n+1) (xs ++ news)∧∃ g m c,v'=.slice (some ⟨g,0,none⟩) m c∧Bk w' g e cur'∧((∃ m c,v=.slice (some ⟨g,0,none⟩) m c∧w.grownBy w' (some g)) ∨ (w.heap.size≤g∧w.grownBy w' none)):=by
 obtain ⟨i,hi,hz,hk,hbb⟩:=info_parts hinf;have hmul:(n+1) * bytes≤140737488355328:=Nat.le_trans (Nat.mul_le_mul (show n+1≤65537 by omega) hby) (by decide)
 rcases hl.2 with ⟨rfl,rfl⟩ | ⟨g0,cap0,rfl,q2,q3,q4,q5⟩
 ·have hx:xs=[]:=List.eq_nil_of_length_eq_zero (by simpa using hl.1)
  subst hx;obtain ⟨v',w',hr,a1,a2,a3⟩:=run_append_own (P:=P) w w.heap.size t ty e i z sz bytes ht hi hz hk hbb hzs hsz _ 0 [] (World.ownsRow_nil w _ e sz) ad 1 c news (by omega) hnews h1 (by unfold maxLen;omega) hmul (Nat.le_refl _)
  rcases a1.2 with ⟨_,h0⟩ | ⟨g,cap,cur',rfl,hge,hg,h2,h3,h4,h5⟩
  ·omega
  ·exact ⟨_,w',cur',hr,⟨a1.1,.inr ⟨g,cap,rfl,h2,h3,h4,h5⟩⟩,g,_,_,rfl,hg,.inr ⟨hge,a2⟩⟩
 ·have hbk:=hb g0 n cap0 rfl;have hown:w.ownsRow 0 e sz (.slice (some ⟨g0,0,none⟩) n cap0) n xs:=⟨hl.1,.inr ⟨g0,cap0,cur,rfl,Nat.zero_le _,hbk,q2,q3,q4,q5⟩⟩;by_cases hroom:n+1≤cap0
  ·obtain ⟨w',hr,a1,a2⟩:=run_append_fits (P:=P) w 0 t ty e i sz ht hi hk g0 n cap0 xs hown ad 1 c news (by omega) hnews h1 hroom
   rcases a1.2 with ⟨h0,_⟩ | ⟨g,cap,cur',h0,_,hg,h2,h3,h4,h5⟩
   ·cases h0
   ·injection h0 with e1 e2 e3
    injection e1 with e1
    injection e1 with e1
    subst e1 e3;exact ⟨_,w',cur',hr,⟨a1.1,.inr ⟨g0,cap0,rfl,h2,h3,h4,h5⟩⟩,g0,_,_,rfl,hg,.inl ⟨_,_,rfl,a2⟩⟩
  ·subst hk hbb;have hr:=run_append_grow (P:=P) w t ty e i z ht hi hz ⟨g0,0,none⟩ n cap0 xs hl.1 (hown.cells (g:=g0) rfl) ad 1 c news (by omega) hnews (by omega) (by omega) (growslice_fits (by omega) hmul)
   refine ⟨_,_,_,hr,?_,w.heap.size,_,_,rfl,Bk.new w.drew _ _,.inr ⟨Nat.le_refl _,⟨rfl,rfl,rfl,by simp,fun k hk _=>by show (w.heap.push _)[k]?=_;rw [Array.getElem?_push_lt hk,Array.getElem?_eq_getElem hk]⟩⟩⟩
   have hge:=grownCap_ge w (n+1) cap0 e;have hlen:(xs ++ news).length=(n+1) * i.size:=by rw [List.length_append,hl.1,hnl,Nat.add_mul];omega
   refine ⟨hlen,.inr ⟨_,_,rfl,hge,grownCap_le_maxLen w (n+1) cap0 e (by unfold maxLen;omega),?_,?_⟩⟩
   ·simp only [Array.size_append,List.size_toArray,size_zeroCells,hzs,hl.1,hnl];have:n * i.size+i.size=(n+1) * i.size:=by rw [Nat.add_mul];omega
    rw [this,← Nat.add_mul];congr 1
    omega
   ·simp only [Array.toList_append,List.append_assoc];rw [← List.append_assoc,← hlen];exact List.take_left
section
variable {W w w':World} {O N:List Ent} {g:Nat} {e:TypeId} {cur cur':Array Value}
theorem Fr.grownA (h:Fr W O N w) (hg:w.grownBy w' none):Fr W O N w':=h.turned (Nat.le_refl _) hg fun r e=>by cases e
theorem Fr.addN (h:Fr W O N w) (hb:Bk w g e cur) (hg:W.heap.size≤g) (hn:g ∉ N.map (·.1)):Fr W O (N ++ [(g,e,cur)]) w :=
 ⟨h.os,h.tape,h.output,h.size,h.far,h.old,fun x hx=>by
  rcases List.mem_append.1 hx with hx | hx
  ·exact h.new x hx
  ·obtain rfl:=List.mem_singleton.1 hx;exact ⟨hg,hb⟩,h.ndO,by
  rw [List.map_append,List.nodup_append];refine ⟨h.ndN,by simp,fun a ha b hb e2=>?_⟩
  subst e2;obtain rfl:a=g:=by simpa using hb
  exact hn ha⟩
theorem Fr.addG (h:Fr W O N w) (hg:w.grownBy w' none) (hb:Bk w' g e cur) (hge:w.heap.size≤g):Fr W O (N ++ [(g,e,cur)]) w' :=
 (h.grownA hg).addN hb (Nat.le_trans h.size hge) fun hm=>by
  obtain ⟨x,hx,rfl⟩:=List.mem_map.1 hm;have:=(h.new x hx).2.lt
  omega
theorem Fr.grownB (h:Fr W (O ++ [(g,e,cur)]) N w) (hg:w.grownBy w' (some g)) (hb:Bk w' g e cur'):Fr W (O ++ [(g,e,cur')]) N w':=by
 have hkey:∀ c:Array Value,((O ++ [(g,e,c)]).map (·.1))=O.map (·.1) ++ [g]:=fun c=>by rw [List.map_append];rfl
 have hgO:g ∉ O.map (·.1):=fun hm=>by
  have:=h.ndO
  rw [hkey,List.nodup_append] at this;exact this.2.2 g hm g (by simp) rfl
 have hgm:g<W.heap.size:=(h.old (g,e,cur) (by simp)).1
 refine ⟨hg.os.trans h.os,hg.tape.trans h.tape,hg.output.trans h.output,Nat.le_trans h.size hg.size,fun c hc hx=>?_,fun x hx=>?_,fun x hx=>⟨(h.new x hx).1,?_⟩,by rw [hkey];have:=h.ndO;rwa [hkey] at this,h.ndN⟩
 ·rw [hkey] at hx;refine (hg.block c (Nat.lt_of_lt_of_le hc h.size) fun e2=>hx ?_).trans (h.far c hc (by rw [hkey];exact hx))
  injection e2 with e2
  simp [e2]
 ·rcases List.mem_append.1 hx with hx | hx
  ·refine ⟨(h.old x (List.mem_append_left _ hx)).1,(hg.block x.1 (h.old x (List.mem_append_left _ hx)).2.lt fun e2=>?_).trans (h.old x (List.mem_append_left _ hx)).2⟩
   injection e2 with e2
   exact hgO (List.mem_map.2 ⟨x,hx,e2⟩)
  ·obtain rfl:=List.mem_singleton.1 hx;exact ⟨hgm,hb⟩
 ·refine (hg.block x.1 (h.new x hx).2.lt fun e2=>?_).trans (h.new x hx).2
  injection e2 with e2
  have:=(h.new x hx).1
  omega
end
def LG (e:TypeId) (sz:Nat) (v v':Value) (cur:Array Value) (n:Nat) (xs:List Value) (O2 N2:List Ent):Prop :=
 ∃ g m c cur',v'=.slice (some ⟨g,0,none⟩) m c∧LstAt sz v' cur' n xs∧((∃ m c,v=.slice (some ⟨g,0,none⟩) m c∧O2=[(g,e,cur')]∧N2=[]) ∨ (O2=lstE e v cur∧N2=[(g,e,cur')]))
theorem wpo_pushO {P:Program} {W w:World} {O N:List Ent} {e:TypeId} {sz bytes:Nat} {v z:Value} {cur:Array Value} {n:Nat} {xs:List Value} {o:Oper} {a:Act} {K:Act→World→Prop} {Q:Exit→Act→World→Prop} (s x:Operand) (t:TypeId) (ho:o.op=.call { callee:=.builtin .append,args:=#[s,x],argTypes:=#[t,t] })
  (hf:Fr W (O ++ lstE e v cur) N w) (hl:LstAt sz v cur n xs) (ht:P.underlying t=some (.slice e)) (hinf:(P.info? e).map (fun i=>(i.zero,i.size,i.bytes))=some (some z,sz,bytes)) (hzs:z.cells.size=sz) (hsz:0<sz) (hby:bytes≤4096) (hn:n≤65536)
  (g:Nat) (c:Nat) (cs:Array Value) (t':TypeId) (hs:a.eval s=v) (hx:a.eval x=.slice (some ⟨g,0,none⟩) 1 c) (hk:Bk w g t' cs) (hcs:cs.size=sz) (h1:(cs.toList.all fun u=>u.oneCell')=true)
  (h:∀ v' w' O2 N2,LG e sz v v' cur (n+1) (xs ++ cs.toList) O2 N2→Fr W (O ++ O2) (N ++ N2) w'→K (a.put o.dst v') w'):o.wp P a w K Q:=by
 obtain ⟨v',w',cur',hr,h2,g',m',c',hv',hbk,h3⟩:=run_pushR (P:=P) (w:=w) (e:=e) (fun g m c hv=>(hf.old (g,e,cur) (List.mem_append_right _ (by subst hv;simp [lstE]))).2) hl t o.type ht hinf hzs hsz hby hn ⟨g,0,none⟩ c cs.toList (by simpa using hcs) (fun j u hj=>by rw [Addr.add_lit,Nat.zero_add,hk.cell,← Array.getElem?_toList];exact hj) (one_all h1)
 unfold Oper.wp execOp;simp only [ho,resolve,invoke,builtin,Sem.run_bind,Sem.run_pure,Result.andThen_ok,List.map_toArray,List.map_cons,List.map_nil,hs,hx,hr];rcases h3 with ⟨m,c2,hv,hg⟩ | ⟨hge,hg⟩
 ·refine h v' w' [(g',e,cur')] [] ⟨g',m',c',cur',hv',h2,.inl ⟨m,c2,hv,rfl,rfl⟩⟩ ?_
  subst hv;rw [List.append_nil];exact Fr.grownB (cur:=cur) hf hg hbk
 ·exact h v' w' (lstE e v cur) [(g',e,cur')] ⟨g',m',c',cur',hv',h2,.inr ⟨rfl,rfl⟩⟩ (hf.addG hg hbk hge)
end Go.Proofs.YtmkoegljnebdiaaGreat
namespace Go.Proofs.YtmkoegljnebdiaaGreat
open Go.RowKit Go.Shelf
set_option maxRecDepth 100000
set_option maxHeartbeats 16000000
attribute [local go_sem] Oper.semAt_some

def stA (s:StateD):Array Value:=(stateV s).cells
def tbA (t:TubeD):Array Value:=(tubeV t).cells
def tbsC (l:List TubeD):List Value:=l.flatMap fun t=>(tbA t).toList
theorem results_cc1c1 {P:Program} {fn:Func} {p q r:Tmp} {ty ty2 ty3:TypeId} (h:fn.results=#[.cell p ty,.cell q ty2,.cell r ty3]) (tmps:Array Value) (w:World) (g k m:Nat) (t t' t3:TypeId) (cs:Array Value) (u u3:Value) (d d2 d3:TypeDesc)
  (hp:tmps.getD p undef=.pointer (some ⟨g,0,none⟩)) (hq:tmps.getD q undef=.pointer (some ⟨k,0,none⟩)) (hr:tmps.getD r undef=.pointer (some ⟨m,0,none⟩)) (hk:Bk w g t cs) (hk2:Bk w k t' #[u]) (hk3:Bk w m t3 #[u3])
  (hu:P.underlying ty=some d) (hd:(match d with | .struct _ | .array _ _=>true | _=>false)=true) (hi:(P.info? ty).map (·.size)=some cs.size)
  (hu2:P.underlying ty2=some d2) (hd2:(match d2 with | .struct _ | .array _ _=>true | _=>false)=false) (hu3:P.underlying ty3=some d3) (hd3:(match d3 with | .struct _ | .array _ _=>true | _=>false)=false) :
  (results fn tmps).run P w=.ok (.tuple #[.agg cs,u,u3]) w:=by
 have hl:=run_loadVar_at (P:=P) w g 0 ty cs d (fun j v hj=>by rw [Nat.zero_add,hk.cell];exact hj) hu hd hi
 have hp':tmps[p]?.getD undef=.pointer (some ⟨g,0,none⟩):=by simpa using hp
 have hq':tmps[q]?.getD undef=.pointer (some ⟨k,0,none⟩):=by simpa using hq
 have hr':tmps[r]?.getD undef=.pointer (some ⟨m,0,none⟩):=by simpa using hr
 have hc:w.cell? ⟨k,0,none⟩=some u:=hk2.cell 0;have hc3:w.cell? ⟨m,0,none⟩=some u3:=hk3.cell 0;have hagg:(isAgg ty2).run P w=.ok false w:=by
  unfold isAgg;rw [Sem.run_bind,run_underlying hu2 w];cases d2 <;> simp_all
 have hagg3:(isAgg ty3).run P w=.ok false w:=by
  unfold isAgg;rw [Sem.run_bind,run_underlying hu3 w];cases d3 <;> simp_all
 have hl2:(loadVar ty2 ⟨k,0,none⟩).run P w=.ok u w:=by
  simp [loadVar,Sem.run_bind,hagg,go_sem,hc]
 have hl3:(loadVar ty3 ⟨m,0,none⟩).run P w=.ok u3 w:=by
  simp [loadVar,Sem.run_bind,hagg3,go_sem,hc3]
 simp [results,h,hp',hq',hr',asAddr,hl,hl2,hl3]
theorem u_40:Tryz.prog.underlying 40=some (.slice 58):=by kernel_rfl
theorem i_58b:(Tryz.prog.info? 58).map (fun i=>(i.zero,i.size,i.bytes))=some (some (tubeV noTb),16,128):=by kernel_rfl
end Go.Proofs.YtmkoegljnebdiaaGreat
namespace Go.Proofs.YtmkoegljnebdiaaGreat
set_option maxRecDepth 100000
set_option maxHeartbeats 16000000

def posN (v:Nat→PointD) (x:Int):Nat→Nat
 | 0=>0
 | n+1=>if posN v x n<n then posN v x n else if (v n).at_<x then n+1 else n
theorem posN_spec (v:Nat→PointD) (x:Int):∀ n,posN v x n≤n∧(∀ j,j<posN v x n→(v j).at_<x)∧(posN v x n<n→x≤(v (posN v x n)).at_)
 | 0=>⟨Nat.le_refl _,fun j hj=>absurd hj (Nat.not_lt_zero j),fun h=>absurd h (Nat.lt_irrefl _)⟩
 | n+1=>by
  obtain ⟨h1,h2,h3⟩:=posN_spec v x n;rw [posN];by_cases e:posN v x n<n
  ·rw [if_pos e];exact ⟨by omega,h2,fun _=>h3 e⟩
  ·rw [if_neg e];have e1:posN v x n=n:=by omega
   rw [e1] at h2;by_cases g:(v n).at_<x
   ·rw [if_pos g];refine ⟨Nat.le_refl _,fun j hj=>?_,fun h=>absurd h (Nat.lt_irrefl _)⟩
    rcases Nat.lt_or_ge j n with k | k
    ·exact h2 j k
    ·obtain rfl:j=n:=by omega
     exact g
   ·rw [if_neg g];exact ⟨by omega,h2,fun _=>by omega⟩
theorem pos_eq {v:Nat→PointD} {x:Int} {n i:Nat} (h1:i≤n) (h2:∀ j,j<i→(v j).at_<x) (h3:i<n→x≤(v i).at_):posN v x n=i:=by
 obtain ⟨k1,k2,k3⟩:=posN_spec v x n;rcases Nat.lt_trichotomy (posN v x n) i with h | h | h
 ·have:=h2 _ h;have:=k3 (by omega);omega
 ·exact h
 ·have:=k2 _ h;have:=h3 (by omega);omega
def segD (a b s D:Int):Int:=a+(b - a) * s / D
def valD (f:SpanD→Int) (v:Nat→PointD) (n:Nat) (x:Int):Int :=
 if posN v x n=0 ∨ posN v x n=n ∨ (v (posN v x n)).at_=x then f (v (min (posN v x n) (n - 1))).value
 else segD (f (v (posN v x n - 1)).value) (f (v (posN v x n)).value) (x - (v (posN v x n - 1)).at_) ((v (posN v x n)).at_ - (v (posN v x n - 1)).at_)
def valU (f:SpanD→Int) (v:Nat→PointD) (n:Nat) (x:Int):Int:=-valD (fun s=>-f s) v n x
def inT (x:SpanD) (t:Int):Bool:=decide (x.lo≤t) && decide (t≤x.hi)
def lookD (f:SpanD→Int) (v:Nat→PointD) (n:Nat) (x:SpanD):Nat→Int
 | 0=>min (valD f v n x.lo) (valD f v n x.hi)
 | k+1=>if inT x (v k).at_=true then min (lookD f v n x k) (valD f v n (v k).at_) else lookD f v n x k
def lookU (f:SpanD→Int) (v:Nat→PointD) (n:Nat) (x:SpanD) (k:Nat):Int:=-lookD (fun s=>-f s) v n x k
def RiseT (v:Nat→PointD) (n:Nat):Prop:=∀ i j,i<j→j<n→(v i).at_<(v j).at_
theorem look_min {f:SpanD→Int} {v:Nat→PointD} {n:Nat} {x:SpanD}:∀ k,lookD f v n x k≤valD f v n x.lo∧lookD f v n x k≤valD f v n x.hi∧∀ j,j<k→inT x (v j).at_=true→lookD f v n x k≤valD f v n (v j).at_
 | 0=>by unfold lookD;exact ⟨by omega,by omega,fun j hj=>absurd hj (Nat.not_lt_zero j)⟩
 | k+1=>by
  obtain ⟨h1,h2,h3⟩:=look_min (f:=f) (v:=v) (n:=n) (x:=x) k;rw [lookD];by_cases e:inT x (v k).at_=true
  ·rw [if_pos e];refine ⟨by omega,by omega,fun j hj hi=>?_⟩
   rcases Nat.lt_or_ge j k with g | g
   ·have:=h3 j g hi;omega
   ·obtain rfl:j=k:=by omega
    omega
  ·rw [if_neg e];refine ⟨h1,h2,fun j hj hi=>?_⟩
   rcases Nat.lt_or_ge j k with g | g
   ·exact h3 j g hi
   ·obtain rfl:j=k:=by omega
    exact absurd hi e
theorem look_one {f:SpanD→Int} {v:Nat→PointD} {n:Nat} {x:SpanD} (hx:x.lo≤x.hi):∀ k,∃ t,x.lo≤t∧t≤x.hi∧lookD f v n x k=valD f v n t
 | 0=>by
  unfold lookD;rcases Int.le_total (valD f v n x.lo) (valD f v n x.hi) with h | h
  ·exact ⟨x.lo,Int.le_refl _,hx,by omega⟩
  ·exact ⟨x.hi,hx,Int.le_refl _,by omega⟩
 | k+1=>by
  obtain ⟨t,h1,h2,h3⟩:=look_one (f:=f) (v:=v) (n:=n) hx k;rw [lookD];by_cases e:inT x (v k).at_=true
  ·rw [if_pos e];unfold inT at e;rw [Bool.and_eq_true,decide_eq_true_eq,decide_eq_true_eq] at e;rcases Int.le_total (lookD f v n x k) (valD f v n (v k).at_) with h | h
   ·exact ⟨t,h1,h2,by omega⟩
   ·exact ⟨_,e.1,e.2,by omega⟩
  ·rw [if_neg e];exact ⟨t,h1,h2,h3⟩
theorem seg_lo (a b D:Int):segD a b 0 D=a:=by unfold segD;rw [Int.mul_zero,Int.zero_ediv,Int.add_zero]
theorem seg_hi (a b:Int) {D:Int} (h:0<D):segD a b D D=b:=by unfold segD;rw [Int.mul_ediv_cancel _ (by omega)];omega
theorem seg_mono (a b:Int) {p t q D:Int} (hD:0<D) (h1:p≤t) (h2:t≤q):min (segD a b p D) (segD a b q D)≤segD a b t D:=by
 unfold segD;rcases Int.le_total 0 (b - a) with h | h
 ·have:=Int.ediv_le_ediv hD (Int.mul_le_mul_of_nonneg_left h1 h);omega
 ·have:=Int.ediv_le_ediv hD (Int.mul_le_mul_of_nonpos_left h h2);omega
theorem segT_at {f:SpanD→Int} {v:Nat→PointD} {n i:Nat} {t:Int} (hr:RiseT v n) (h0:0<i) (hn:i<n) (h1:(v (i - 1)).at_≤t) (h2:t≤(v i).at_) :
  valD f v n t=segD (f (v (i - 1)).value) (f (v i).value) (t - (v (i - 1)).at_) ((v i).at_ - (v (i - 1)).at_):=by
 have hD:=hr (i - 1) i (by omega) hn
 unfold valD;rcases Int.lt_or_le (v (i - 1)).at_ t with g | g
 ·have e:posN v t n=i:=pos_eq (by omega) (fun j hj=>by
   rcases Nat.lt_or_ge j (i - 1) with k | k
   ·have:=hr j (i - 1) k (by omega);omega
   ·obtain rfl:j=i - 1:=by omega
    exact g) (fun _=>h2)
  rw [e];by_cases k:(v i).at_=t
  ·rw [if_pos (Or.inr (Or.inr k)),show min i (n - 1)=i by omega,← k,seg_hi _ _ (by omega)]
  ·rw [if_neg (by omega)]
 ·have e1:t=(v (i - 1)).at_:=by omega
  have e:posN v t n=i - 1:=pos_eq (by omega) (fun j hj=>by
   have:=hr j (i - 1) hj (by omega);omega) (fun _=>by omega)
  rw [e,if_pos (Or.inr (Or.inr e1.symm)),show min (i - 1) (n - 1)=i - 1 by omega,e1,Int.sub_self,seg_lo]
theorem look_le {f:SpanD→Int} {v:Nat→PointD} {n:Nat} {x:SpanD} {t:Int} (hr:RiseT v n) (h1:x.lo≤t) (h2:t≤x.hi):lookD f v n x n≤valD f v n t:=by
 obtain ⟨m1,m2,m3⟩:=look_min (f:=f) (v:=v) (n:=n) (x:=x) n;obtain ⟨k1,k2,k3⟩:=posN_spec v t n;obtain ⟨i,hi⟩:=eX (posN v t n);rw [hi] at k1 k2 k3;by_cases c1:i=n
 ·have e:posN v x.hi n=n:=pos_eq (Nat.le_refl _) (fun j hj=>by have:=k2 j (by omega);omega) (fun h=>absurd h (Nat.lt_irrefl _))
  have e2:valD f v n x.hi=valD f v n t:=by unfold valD;rw [e,hi,c1,if_pos (Or.inr (Or.inl rfl)),if_pos (Or.inr (Or.inl rfl))]
  rw [← e2];exact m2
 ·have k4:=k3 (by omega)
  by_cases c0:i=0
  ·have e:posN v x.lo n=0:=pos_eq (Nat.zero_le _) (fun j hj=>absurd hj (Nat.not_lt_zero j)) (fun _=>by rw [c0] at k4;omega)
   have e2:valD f v n x.lo=valD f v n t:=by unfold valD;rw [e,hi,c0,if_pos (Or.inl rfl),if_pos (Or.inl rfl)]
   rw [← e2];exact m1
  ·have a1:(v (i - 1)).at_≤t:=by have:=k2 (i - 1) (by omega);omega
   have at_:=fun (y:Int)=>segT_at (f:=f) (i:=i) (t:=y) hr (by omega) (by omega)
   have hp:∃ p,(v (i - 1)).at_≤p∧p≤t∧lookD f v n x n≤valD f v n p:=by
    rcases Int.le_total (v (i - 1)).at_ x.lo with g | g
    ·exact ⟨x.lo,g,h1,m1⟩
    ·exact ⟨_,Int.le_refl _,a1,m3 (i - 1) (by omega) (by unfold inT;rw [Bool.and_eq_true,decide_eq_true_eq,decide_eq_true_eq];omega)⟩
   have hq:∃ q,t≤q∧q≤(v i).at_∧lookD f v n x n≤valD f v n q:=by
    rcases Int.le_total x.hi (v i).at_ with g | g
    ·exact ⟨x.hi,h2,g,m2⟩
    ·exact ⟨_,k4,Int.le_refl _,m3 i (by omega) (by unfold inT;rw [Bool.and_eq_true,decide_eq_true_eq,decide_eq_true_eq];omega)⟩
   obtain ⟨p,p1,p2,p3⟩:=hp;obtain ⟨q,q1,q2,q3⟩:=hq;rw [at_ p p1 (by omega)] at p3
   rw [at_ q (by omega) q2] at q3
   rw [at_ t a1 k4];have hD:=hr (i - 1) i (by omega) (by omega)
   have:=seg_mono (f (v (i - 1)).value) (f (v i).value) (p:=p - (v (i - 1)).at_) (t:=t - (v (i - 1)).at_) (q:=q - (v (i - 1)).at_) (D:=(v i).at_ - (v (i - 1)).at_) (by omega) (by omega) (by omega)
   omega
theorem seg_le {a b a' b' s D:Int} (hD:0<D) (h1:0≤s) (h2:s≤D) (ha:a+a'≤0) (hb:b+b'≤0):segD a b s D+segD a' b' s D≤0:=by
 unfold segD;have e1:(b - a) * s / D * D≤(b - a) * s:=Int.ediv_mul_le _ (by omega)
 have e2:(b' - a') * s / D * D≤(b' - a') * s:=Int.ediv_mul_le _ (by omega)
 have m1:=Int.mul_le_mul_of_nonneg_right ha (show 0≤D - s by omega)
 have m2:=Int.mul_le_mul_of_nonneg_right hb h1;have h:(a+(b - a) * s / D+(a'+(b' - a') * s / D)) * D≤0 * D:=by
  have e3:(a+(b - a) * s / D+(a'+(b' - a') * s / D)) * D=a * D+a' * D+(b - a) * s / D * D+(b' - a') * s / D * D:=by grind
  rw [e3];grind
 exact Int.le_of_mul_le_mul_right h hD
theorem val_le {f g:SpanD→Int} {v:Nat→PointD} {n:Nat} {t:Int} (hr:RiseT v n) (h0:0<n) (h:∀ i,i<n→f (v i).value+g (v i).value≤0):valD f v n t+valD g v n t≤0:=by
 obtain ⟨k1,k2,k3⟩:=posN_spec v t n;unfold valD;obtain ⟨i,hi⟩:=eX (posN v t n);rw [hi] at k1 k2 k3 ⊢;split
 ·exact h _ (by omega)
 ·rename_i e
  exact seg_le (by have:=hr (i - 1) i (by omega) (by omega);omega) (by have:=k2 (i - 1) (by omega);omega) (by have:=k3 (by omega);omega) (h _ (by omega)) (h _ (by omega))
theorem lookD_iso {f:SpanD→Int} {v:Nat→PointD} {n:Nat} {x x':SpanD} (hr:RiseT v n) (hx:x'.lo≤x'.hi) (h1:x.lo≤x'.lo) (h2:x'.hi≤x.hi):lookD f v n x n≤lookD f v n x' n:=by
 obtain ⟨t,t1,t2,t3⟩:=look_one (f:=f) (v:=v) (n:=n) hx n;rw [t3];exact look_le hr (by omega) (by omega)
theorem lookU_iso {f:SpanD→Int} {v:Nat→PointD} {n:Nat} {x x':SpanD} (hr:RiseT v n) (hx:x'.lo≤x'.hi) (h1:x.lo≤x'.lo) (h2:x'.hi≤x.hi):lookU f v n x' n≤lookU f v n x n:=by
 have:=lookD_iso (f:=fun s=>-f s) hr hx h1 h2
 unfold lookU;omega
theorem look_ord {v:Nat→PointD} {n:Nat} {x:SpanD} (hr:RiseT v n) (h0:0<n) (_:x.lo≤x.hi) (h:∀ i,i<n→(v i).value.lo≤(v i).value.hi):lookD (fun s=>s.lo) v n x n≤lookU (fun s=>s.hi) v n x n:=by
 have a:=(look_min (f:=fun s=>s.lo) (v:=v) (n:=n) (x:=x) n).1;have b:=(look_min (f:=fun s=>-s.hi) (v:=v) (n:=n) (x:=x) n).1;have c:=val_le (f:=fun s=>s.lo) (g:=fun s=>-s.hi) (t:=x.lo) hr h0 (fun i hi=>by have:=h i hi;omega)
 unfold lookU;show _≤-lookD (fun s=>-s.hi) v n x n
 omega

def inL:List SpanD→List SpanD→Prop
 | [],[]=>True
 | a' :: l',a :: l=>inS a' a∧inL l' l
 | _,_=>False
theorem add_pos {a b r:SpanD} (ha:0≤a.hi) (hb:0≤b.hi) (h:addB a b=(r,0)):0≤r.hi:=by
 obtain ⟨_,_,h3⟩:=add_ok h;obtain ⟨e,_,_⟩:=fit_ok h3;subst e;show 0≤a.hi+b.hi;omega
theorem square_pos {a r:SpanD} (h:squareB a=(r,0)):0≤r.hi:=by
 unfold squareB at h;by_cases e:chkB a=true
 ·rw [if_pos e] at h;obtain ⟨_,_,h3⟩:=mul_ok h;obtain ⟨e3,_,_⟩:=fit_ok h3;have c:=chk_iff.1 e;have hp:0≤(absS a).hi:=by unfold absS negS;split <;> (try split) <;> (try dsimp only) <;> omega
  have hm:0≤(absS a).hi * (absS a).hi:=Int.mul_nonneg hp hp;subst e3;have:0≤max4 ((absS a).lo * (absS a).lo) ((absS a).lo * (absS a).hi) ((absS a).hi * (absS a).lo) ((absS a).hi * (absS a).hi):=by unfold max4;omega
  show 0≤up32 _
  unfold up32;omega
 ·rw [if_neg e] at h;exact absurd (congrArg Prod.snd h) (by show ¬ (2:Int)=0;decide)
theorem sqs_iso:∀ (l' l:List SpanD) (s' s r:SpanD),inL l' l→inS s' s→0≤s'.hi→sqsB l s=(r,0)→∃ r',sqsB l' s'=(r',0)∧inS r' r∧0≤r'.hi
 | [],[],s',s,r,_,hs,hp,h=>by
  have e:s=r:=congrArg Prod.fst h;subst e;exact ⟨s',rfl,hs,hp⟩
 | a' :: l',a :: l,s',s,r,hl,hs,hp,h=>by
  rw [sqsB] at h ⊢;by_cases e1:(squareB a).2=0
  ·rw [if_pos e1] at h;obtain ⟨q',q1,q2⟩:=square_iso hl.1 (r:=(squareB a).1) (Prod.ext rfl e1);by_cases e2:(addB s (squareB a).1).2=0
   ·rw [if_pos e2] at h;obtain ⟨t',t1,t2⟩:=add_iso hs q2 (r:=(addB s (squareB a).1).1) (Prod.ext rfl e2);rw [q1,if_pos rfl];dsimp only;rw [t1,if_pos rfl];exact sqs_iso l' l t' _ r hl.2 t2 (add_pos hp (square_pos q1) t1) h
   ·rw [if_neg e2] at h;exact absurd (congrArg Prod.snd h) e2
  ·rw [if_neg e1] at h;exact absurd (congrArg Prod.snd h) e1
 | [],_ :: _,_,_,_,hl,_,_,_=>hl.elim
 | _ :: _,[],_,_,_,hl,_,_,_=>hl.elim
theorem norm_iso {b b':BoxD} {r:SpanD} (hb:inBox b' b) (h:normB [b.x,b.y,b.z]=(r,0)):∃ r',normB [b'.x,b'.y,b'.z]=(r',0)∧inS r' r:=by
 unfold normB at h ⊢;rw [if_neg (by simp)] at h ⊢
 have c':([b'.x,b'.y,b'.z].all chkB)=true:=by simp [hb.1.1,hb.2.1.1,hb.2.2.1]
 rw [c',if_pos rfl];by_cases e:([b.x,b.y,b.z].all chkB)=true
 ·rw [if_pos e] at h;by_cases e2:(sqsB [b.x,b.y,b.z] zeroS).2=0
  ·rw [if_pos e2] at h;obtain ⟨q',q1,q2,q3⟩:=sqs_iso [b'.x,b'.y,b'.z] [b.x,b.y,b.z] zeroS zeroS _ ⟨hb.1,hb.2.1,hb.2.2,trivial⟩ (inS.refl rfl (by decide)) (by decide) (Prod.ext rfl e2)
   rw [q1,if_pos rfl];exact root_iso q2 q3 h
  ·rw [if_neg e2] at h;exact absurd (congrArg Prod.snd h) e2
 ·rw [if_neg e] at h;exact absurd (congrArg Prod.snd h) (by show ¬ (2:Int)=0;decide)
/-! The table. -/
def memB (a:SpanD) (n:Int):Bool:=chkB a && (decide (a.lo≤n) && decide (n≤a.hi))
def smallS:SpanD:=⟨-2305843009213693952,2305843009213693952⟩
def incB (v:Nat→PointD) (i:Nat):Bool:=decide (i=0) || decide ((v (i - 1)).at_<(v i).at_)
def ptOk (v:Nat→PointD) (i:Nat):Bool:=memB smallS (v i).at_ && (withinB (v i).value smallS && incB v i)
def tableB (n:Nat) (v:Nat→PointD):Bool:=decide (n ≠ 0) && (decide (n≤64) && allN n (ptOk v))
theorem table_rise {n:Nat} {v:Nat→PointD} (h:tableB n v=true):0<n∧n≤64∧RiseT v n∧∀ i,i<n→(-2305843009213693952≤(v i).at_∧(v i).at_≤2305843009213693952)∧-2305843009213693952≤(v i).value.lo∧(v i).value.lo≤(v i).value.hi∧(v i).value.hi≤2305843009213693952:=by
 unfold tableB at h;rw [Bool.and_eq_true,Bool.and_eq_true,decide_eq_true_eq,decide_eq_true_eq,allN_iff] at h;obtain ⟨h0,h64,h⟩:=h;have hk:∀ i,i<n→(-2305843009213693952≤(v i).at_∧(v i).at_≤2305843009213693952)∧(-2305843009213693952≤(v i).value.lo∧(v i).value.lo≤(v i).value.hi∧(v i).value.hi≤2305843009213693952)∧incB v i=true:=fun i hi=>by
  have:=h i hi
  unfold ptOk memB withinB smallS at this;simp only [Bool.and_eq_true,decide_eq_true_eq] at this;obtain ⟨⟨_,a1⟩,⟨⟨⟨a2,_⟩,a3⟩,a4⟩,a5⟩:=this;have:=(chk_iff.1 a2).2.2
  exact ⟨a1,⟨by omega,by omega,by omega⟩,a5⟩
 have hs:∀ i,i+1<n→(v i).at_<(v (i+1)).at_:=fun i hi=>by
  have:=(hk (i+1) hi).2.2
  unfold incB at this;simp only [Nat.add_sub_cancel,Bool.or_eq_true,decide_eq_true_eq] at this;omega
 refine ⟨by omega,h64,fun i j hij hj=>?_,fun i hi=>⟨(hk i hi).1,(hk i hi).2.1⟩⟩
 obtain ⟨d,rfl⟩:∃ d,j=i+1+d:=⟨j - (i+1),by omega⟩
 clear hij;induction d with
 | zero=>exact hs i hj
 | succ d ih=>have:=ih (by omega);have:=hs (i+1+d) (by omega);exact Int.lt_trans (by assumption) (by assumption)
def lookB (n:Nat) (v:Nat→PointD) (x:SpanD):SpanD × Int:=if (tableB n v && chkB x)=true then fitB (lookD (fun s=>s.lo) v n x n) (lookU (fun s=>s.hi) v n x n) else (zeroS,2)
theorem look_iso {n:Nat} {v:Nat→PointD} {x x' r:SpanD} (hx:inS x' x) (h:lookB n v x=(r,0)):∃ r',lookB n v x'=(r',0)∧inS r' r:=by
 unfold lookB at h ⊢;by_cases e:(tableB n v && chkB x)=true
 ·rw [if_pos e] at h;rw [Bool.and_eq_true] at e;obtain ⟨h0,_,hr,hv⟩:=table_rise e.1;have c:=(chk_iff.1 hx.1).2.2;rw [if_pos (by rw [e.1,hx.1];rfl)]
  exact fit_iso h (lookD_iso hr c hx.2.1 hx.2.2.1) (lookU_iso hr c hx.2.1 hx.2.2.1) (look_ord hr h0 c fun i hi=>(hv i hi).2.2.1)
 ·rw [if_neg e] at h;exact absurd (congrArg Prod.snd h) (by show ¬ (2:Int)=0;decide)
/-! The force. -/
theorem keepM_iso {x x':SpanD × Int} (h:∀ r,x=(r,0)→∃ r',x'=(r',0)∧inS r' r):IsoM inS (keepM x') (keepM x):=fun r hr=>by
 unfold keepM at hr ⊢;rw [if_pos rfl] at hr ⊢;exact h r hr
theorem scaleM_iso {a a':SpanD} {n:Int} (h:inS a' a):IsoM inS (scaleM a' n) (scaleM a n):=keepM_iso fun _ hr=>scale_iso h hr
theorem squareM_iso {a a':SpanD} (h:inS a' a):IsoM inS (squareM a') (squareM a):=keepM_iso fun _ hr=>square_iso h hr
theorem normM_iso {b b':BoxD} (h:inBox b' b):IsoM inS (normM b') (normM b):=keepM_iso fun _ hr=>norm_iso h hr
def oneS:SpanD:=⟨4294967296,4294967296⟩
def threeS:SpanD:=⟨12884901888,12884901888⟩
def flatM (p:PlanetD) (uz r:SpanD):CM BoxD :=
 (divM p.radius r).bnd fun k1=>(squareM k1).bnd fun k2=>(mulM p.oblate k2).bnd fun k=>(squareM uz).bnd fun q1=>(scaleM q1 5).bnd fun q =>
 (subM oneS q).bnd fun f1=>(mulM k f1).bnd fun f2=>(addM oneS f2).bnd fun fl=>(subM threeS q).bnd fun g1=>(mulM k g1).bnd fun g2=>(addM oneS g2).bnd fun fz=>CM.ret ⟨fl,fl,fz⟩
def attrM (p:PlanetD) (b:BoxD) (r:SpanD):CM BoxD :=
 (eachM divM b (allBox r)).bnd fun u=>(divM p.mu r).bnd fun s1=>(divM s1 r).bnd fun s =>
 (if p.oblate=zeroS then CM.ret (allBox oneS) else flatM p u.z r).bnd fun n=>(byM mulM s u).bnd fun su=>eachM mulM su n
def spinM (w:SpanD) (p v o:BoxD):CM BoxD :=
 (squareM w).bnd fun e=>(mulM w v.y).bnd fun a1=>(scaleM a1 2).bnd fun a2=>(addM o.x a2).bnd fun a3=>(mulM e p.x).bnd fun a4=>(addM a3 a4).bnd fun ox =>
 (mulM w v.x).bnd fun b1=>(scaleM b1 2).bnd fun b2=>(subM o.y b2).bnd fun b3=>(mulM e p.y).bnd fun b4=>(addM b3 b4).bnd fun oy=>CM.ret ⟨ox,oy,o.z⟩
def lookM (n:Nat) (v:Nat→PointD) (h:SpanD):CM SpanD:=keepM (lookB n v h)
def dragM (rad:SpanD) (n:Nat) (tb:Nat→PointD) (r m:SpanD) (v o:BoxD):CM BoxD :=
 (subM r rad).bnd fun h=>(lookM n tb h).bnd fun l=>(divM l m).bnd fun b=>(normM v).bnd fun sp=>(mulM b sp).bnd fun bs=>(byM mulM bs v).bnd fun dv=>eachM subM o dv
def ptL (l:List PointD) (i:Nat):PointD:=l.getD i ⟨0,zeroS⟩
def distM (p:PlanetD) (a:ArcD) (b:BoxD):CM SpanD:=if p.mu=zeroS∧a.drag.length=0 then CM.ret zeroS else normM b
def forceM (p:PlanetD) (a:ArcD) (x:SixD) (m:SpanD):CM BoxD :=
 (distM p a x.p).bnd fun r =>
 (if p.mu=zeroS then CM.ret p.pull else (attrM p x.p r).bnd fun at_=>eachM subM p.pull at_).bnd fun o1 =>
 (if p.spin=zeroS then CM.ret o1 else spinM p.spin x.p x.v o1).bnd fun o2 =>
 (if a.thrust=zeroS then CM.ret o2 else (divM a.thrust m).bnd fun tm=>(byM mulM tm a.dir).bnd fun td=>eachM addM o2 td).bnd fun o3 =>
 if a.drag.length=0 then CM.ret o3 else dragM p.radius a.drag.length (ptL a.drag) r m x.v o3
theorem st_do (f:SpanD→SpanD→SpanD × Int) (a b:SpanD):Sticky (doM f a b):=doM_sticky f a b
theorem st_each (f:SpanD→SpanD→SpanD × Int) (a b:BoxD):Sticky (eachM (doM f) a b):=eachM_sticky (fun _ _=>doM_sticky _ _ _) _ _
theorem st_flat (p:PlanetD) (uz r:SpanD):Sticky (flatM p uz r) :=
 (st_do _ _ _).bnd fun _=>(keepM_sticky _).bnd fun _=>(st_do _ _ _).bnd fun _=>(keepM_sticky _).bnd fun _=>(keepM_sticky _).bnd fun _=>(st_do _ _ _).bnd fun _=>(st_do _ _ _).bnd fun _=>(st_do _ _ _).bnd fun _=>(st_do _ _ _).bnd fun _=>(st_do _ _ _).bnd fun _=>(st_do _ _ _).bnd fun _=>Sticky.ret _
theorem st_ite {α:Type} {c:Prop} [Decidable c] {m n:CM α} (hm:Sticky m) (hn:Sticky n):Sticky (if c then m else n):=by split <;> assumption
theorem st_attr (p:PlanetD) (b:BoxD) (r:SpanD):Sticky (attrM p b r) :=
 (st_each _ _ _).bnd fun _=>(st_do _ _ _).bnd fun _=>(st_do _ _ _).bnd fun _=>(st_ite (Sticky.ret _) (st_flat _ _ _)).bnd fun _=>(st_each _ _ _).bnd fun _=>st_each _ _ _
theorem st_spin (w:SpanD) (p v o:BoxD):Sticky (spinM w p v o) :=
 (keepM_sticky _).bnd fun _=>(st_do _ _ _).bnd fun _=>(keepM_sticky _).bnd fun _=>(st_do _ _ _).bnd fun _=>(st_do _ _ _).bnd fun _=>(st_do _ _ _).bnd fun _=>(st_do _ _ _).bnd fun _=>(keepM_sticky _).bnd fun _=>(st_do _ _ _).bnd fun _=>(st_do _ _ _).bnd fun _=>(st_do _ _ _).bnd fun _=>Sticky.ret _
theorem st_drag (p:SpanD) (n:Nat) (tb:Nat→PointD) (r m:SpanD) (v o:BoxD):Sticky (dragM p n tb r m v o) :=
 (st_do _ _ _).bnd fun _=>(keepM_sticky _).bnd fun _=>(st_do _ _ _).bnd fun _=>(keepM_sticky _).bnd fun _=>(st_do _ _ _).bnd fun _=>(st_each _ _ _).bnd fun _=>st_each _ _ _
theorem st_force (p:PlanetD) (a:ArcD) (x:SixD) (m:SpanD):Sticky (forceM p a x m) :=
 (st_ite (Sticky.ret _) (keepM_sticky _)).bnd fun _=>(st_ite (Sticky.ret _) ((st_attr _ _ _).bnd fun _=>st_each _ _ _)).bnd fun _=>(st_ite (Sticky.ret _) (st_spin _ _ _ _)).bnd fun _ =>
 (st_ite (Sticky.ret _) ((st_do _ _ _).bnd fun _=>(st_each _ _ _).bnd fun _=>st_each _ _ _)).bnd fun _=>st_ite (Sticky.ret _) (st_drag _ _ _ _ _ _ _)
/-! Lesser boxes. Constants of a calculation that have passed its checks are within themselves. -/
def Ok1 (a:SpanD):Prop:=inS a a
def OkB (b:BoxD):Prop:=inBox b b
theorem iso_ite {α:Type} {R:α→α→Prop} {c:Prop} [Decidable c] {m m' n n':CM α} (hm:IsoM R m' m) (hn:IsoM R n' n):IsoM R (if c then m' else n') (if c then m else n):=by split <;> assumption
theorem iso_each {f:SpanD→SpanD→SpanD × Int} (hf:IsoOp f) {a b a' b':BoxD} (ha:inBox a' a) (hb:inBox b' b):IsoM inBox (eachM (doM f) a' b') (eachM (doM f) a b):=eachM_iso (fun h k=>doM_iso hf h k) (fun _ _=>doM_sticky _ _ _) ha hb
theorem flat_iso {p:PlanetD} {uz uz' r r':SpanD} (h1:Ok1 p.radius) (h2:Ok1 p.oblate) (hu:inS uz' uz) (hr:inS r' r):IsoM inBox (flatM p uz' r') (flatM p uz r):=by
 have o1:inS oneS oneS:=⟨rfl,Int.le_refl _,Int.le_refl _,by decide⟩
 have o3:inS threeS threeS:=⟨rfl,Int.le_refl _,Int.le_refl _,by decide⟩
 have sd:=fun f a b=>st_do f a b;have sk:=fun r=>keepM_sticky r;refine IsoM.bnd (divM_iso h1 hr) (fun _ _ k1=>IsoM.bnd (squareM_iso k1) (fun _ _ k2=>IsoM.bnd (mulM_iso h2 k2) (fun _ _ k=>IsoM.bnd (squareM_iso hu) (fun _ _ q1=>IsoM.bnd (scaleM_iso q1) (fun _ _ q=>IsoM.bnd (subM_iso o1 q) (fun _ _ f1=>IsoM.bnd (mulM_iso k f1) (fun _ _ f2=>IsoM.bnd (addM_iso o1 f2) (fun _ _ fl=>IsoM.bnd (subM_iso o3 q) (fun _ _ g1=>IsoM.bnd (mulM_iso k g1) (fun _ _ g2=>IsoM.bnd (addM_iso o1 g2) (fun _ _ fz=>IsoM.ret ⟨fl,fl,fz⟩) ?_) ?_) ?_) ?_) ?_) ?_) ?_) ?_) ?_) ?_) ?_
 ·exact fun _=>Sticky.ret _
 ·exact fun _=>(sd _ _ _).bnd fun _=>Sticky.ret _
 ·exact fun _=>(sd _ _ _).bnd fun _=>(sd _ _ _).bnd fun _=>Sticky.ret _
 ·exact fun _=>(sd _ _ _).bnd fun _=>(sd _ _ _).bnd fun _=>(sd _ _ _).bnd fun _=>Sticky.ret _
 ·exact fun _=>(sd _ _ _).bnd fun _=>(sd _ _ _).bnd fun _=>(sd _ _ _).bnd fun _=>(sd _ _ _).bnd fun _=>Sticky.ret _
 ·exact fun _=>(sd _ _ _).bnd fun _=>(sd _ _ _).bnd fun _=>(sd _ _ _).bnd fun _=>(sd _ _ _).bnd fun _=>(sd _ _ _).bnd fun _=>Sticky.ret _
 ·exact fun _=>(sd _ _ _).bnd fun _=>(sd _ _ _).bnd fun _=>(sd _ _ _).bnd fun _=>(sd _ _ _).bnd fun _=>(sd _ _ _).bnd fun _=>(sd _ _ _).bnd fun _=>Sticky.ret _
 ·exact fun _=>(sk _).bnd fun _=>(sd _ _ _).bnd fun _=>(sd _ _ _).bnd fun _=>(sd _ _ _).bnd fun _=>(sd _ _ _).bnd fun _=>(sd _ _ _).bnd fun _=>(sd _ _ _).bnd fun _=>Sticky.ret _
 ·exact fun _=>(sk _).bnd fun _=>(sk _).bnd fun _=>(sd _ _ _).bnd fun _=>(sd _ _ _).bnd fun _=>(sd _ _ _).bnd fun _=>(sd _ _ _).bnd fun _=>(sd _ _ _).bnd fun _=>(sd _ _ _).bnd fun _=>Sticky.ret _
 ·exact fun _=>(sd _ _ _).bnd fun _=>(sk _).bnd fun _=>(sk _).bnd fun _=>(sd _ _ _).bnd fun _=>(sd _ _ _).bnd fun _=>(sd _ _ _).bnd fun _=>(sd _ _ _).bnd fun _=>(sd _ _ _).bnd fun _=>(sd _ _ _).bnd fun _=>Sticky.ret _
 ·exact fun _=>(sk _).bnd fun _=>(sd _ _ _).bnd fun _=>(sk _).bnd fun _=>(sk _).bnd fun _=>(sd _ _ _).bnd fun _=>(sd _ _ _).bnd fun _=>(sd _ _ _).bnd fun _=>(sd _ _ _).bnd fun _=>(sd _ _ _).bnd fun _=>(sd _ _ _).bnd fun _=>Sticky.ret _
theorem attr_iso {p:PlanetD} {b b':BoxD} {r r':SpanD} (h0:Ok1 p.mu) (h1:Ok1 p.radius) (h2:Ok1 p.oblate) (hb:inBox b' b) (hr:inS r' r):IsoM inBox (attrM p b' r') (attrM p b r):=by
 have o1:inBox (allBox oneS) (allBox oneS):=inBox.all ⟨rfl,Int.le_refl _,Int.le_refl _,by decide⟩
 have sd:=fun f a b=>st_do f a b;have se:=fun f a b=>st_each f a b;refine IsoM.bnd (iso_each div_iso hb (inBox.all hr)) (fun _ _ u=>IsoM.bnd (divM_iso h0 hr) (fun _ _ s1=>IsoM.bnd (divM_iso s1 hr) (fun _ _ s=>IsoM.bnd (iso_ite (IsoM.ret o1) (flat_iso h1 h2 u.2.2 hr)) (fun _ _ n=>IsoM.bnd (iso_each mul_iso (inBox.all s) u) (fun _ _ su=>iso_each mul_iso su n) ?_) ?_) ?_) ?_) ?_
 ·exact fun _=>se _ _ _
 ·exact fun _=>(se _ _ _).bnd fun _=>se _ _ _
 ·exact fun _=>(st_ite (Sticky.ret _) (st_flat _ _ _)).bnd fun _=>(se _ _ _).bnd fun _=>se _ _ _
 ·exact fun _=>(sd _ _ _).bnd fun _=>(st_ite (Sticky.ret _) (st_flat _ _ _)).bnd fun _=>(se _ _ _).bnd fun _=>se _ _ _
 ·exact fun _=>(sd _ _ _).bnd fun _=>(sd _ _ _).bnd fun _=>(st_ite (Sticky.ret _) (st_flat _ _ _)).bnd fun _=>(se _ _ _).bnd fun _=>se _ _ _
theorem spin_iso {w:SpanD} {p v o p' v' o':BoxD} (hw:Ok1 w) (hp:inBox p' p) (hv:inBox v' v) (ho:inBox o' o):IsoM inBox (spinM w p' v' o') (spinM w p v o):=by
 have sd:=fun f a b=>st_do f a b;have sk:=fun r=>keepM_sticky r;refine IsoM.bnd (squareM_iso hw) (fun _ _ e=>IsoM.bnd (mulM_iso hw hv.2.1) (fun _ _ a1=>IsoM.bnd (scaleM_iso a1) (fun _ _ a2=>IsoM.bnd (addM_iso ho.1 a2) (fun _ _ a3=>IsoM.bnd (mulM_iso e hp.1) (fun _ _ a4=>IsoM.bnd (addM_iso a3 a4) (fun _ _ ox=>IsoM.bnd (mulM_iso hw hv.1) (fun _ _ b1=>IsoM.bnd (scaleM_iso b1) (fun _ _ b2=>IsoM.bnd (subM_iso ho.2.1 b2) (fun _ _ b3=>IsoM.bnd (mulM_iso e hp.2.1) (fun _ _ b4=>IsoM.bnd (addM_iso b3 b4) (fun _ _ oy=>IsoM.ret ⟨ox,oy,ho.2.2⟩) ?_) ?_) ?_) ?_) ?_) ?_) ?_) ?_) ?_) ?_) ?_
 ·exact fun _=>Sticky.ret _
 ·exact fun _=>(sd _ _ _).bnd fun _=>Sticky.ret _
 ·exact fun _=>(sd _ _ _).bnd fun _=>(sd _ _ _).bnd fun _=>Sticky.ret _
 ·exact fun _=>(sd _ _ _).bnd fun _=>(sd _ _ _).bnd fun _=>(sd _ _ _).bnd fun _=>Sticky.ret _
 ·exact fun _=>(sk _).bnd fun _=>(sd _ _ _).bnd fun _=>(sd _ _ _).bnd fun _=>(sd _ _ _).bnd fun _=>Sticky.ret _
 ·exact fun _=>(sd _ _ _).bnd fun _=>(sk _).bnd fun _=>(sd _ _ _).bnd fun _=>(sd _ _ _).bnd fun _=>(sd _ _ _).bnd fun _=>Sticky.ret _
 ·exact fun _=>(sd _ _ _).bnd fun _=>(sd _ _ _).bnd fun _=>(sk _).bnd fun _=>(sd _ _ _).bnd fun _=>(sd _ _ _).bnd fun _=>(sd _ _ _).bnd fun _=>Sticky.ret _
 ·exact fun _=>(sd _ _ _).bnd fun _=>(sd _ _ _).bnd fun _=>(sd _ _ _).bnd fun _=>(sk _).bnd fun _=>(sd _ _ _).bnd fun _=>(sd _ _ _).bnd fun _=>(sd _ _ _).bnd fun _=>Sticky.ret _
 ·exact fun _=>(sd _ _ _).bnd fun _=>(sd _ _ _).bnd fun _=>(sd _ _ _).bnd fun _=>(sd _ _ _).bnd fun _=>(sk _).bnd fun _=>(sd _ _ _).bnd fun _=>(sd _ _ _).bnd fun _=>(sd _ _ _).bnd fun _=>Sticky.ret _
 ·exact fun _=>(sk _).bnd fun _=>(sd _ _ _).bnd fun _=>(sd _ _ _).bnd fun _=>(sd _ _ _).bnd fun _=>(sd _ _ _).bnd fun _=>(sk _).bnd fun _=>(sd _ _ _).bnd fun _=>(sd _ _ _).bnd fun _=>(sd _ _ _).bnd fun _=>Sticky.ret _
 ·exact fun _=>(sd _ _ _).bnd fun _=>(sk _).bnd fun _=>(sd _ _ _).bnd fun _=>(sd _ _ _).bnd fun _=>(sd _ _ _).bnd fun _=>(sd _ _ _).bnd fun _=>(sk _).bnd fun _=>(sd _ _ _).bnd fun _=>(sd _ _ _).bnd fun _=>(sd _ _ _).bnd fun _=>Sticky.ret _
theorem drag_iso {p:SpanD} {n:Nat} {tb:Nat→PointD} {r r' m:SpanD} {v o v' o':BoxD} (h1:Ok1 p) (hm:Ok1 m) (hr:inS r' r) (hv:inBox v' v) (ho:inBox o' o):IsoM inBox (dragM p n tb r' m v' o') (dragM p n tb r m v o):=by
 have sd:=fun f a b=>st_do f a b;have se:=fun f a b=>st_each f a b;have sk:=fun r=>keepM_sticky r;refine IsoM.bnd (subM_iso hr h1) (fun _ _ h=>IsoM.bnd (keepM_iso fun _ hr=>look_iso h hr) (fun _ _ l=>IsoM.bnd (divM_iso l hm) (fun _ _ b=>IsoM.bnd (normM_iso hv) (fun _ _ sp=>IsoM.bnd (mulM_iso b sp) (fun _ _ bs=>IsoM.bnd (iso_each mul_iso (inBox.all bs) hv) (fun _ _ dv=>iso_each sub_iso ho dv) ?_) ?_) ?_) ?_) ?_) ?_
 ·exact fun _=>se _ _ _
 ·exact fun _=>(se _ _ _).bnd fun _=>se _ _ _
 ·exact fun _=>(sd _ _ _).bnd fun _=>(se _ _ _).bnd fun _=>se _ _ _
 ·exact fun _=>(sk _).bnd fun _=>(sd _ _ _).bnd fun _=>(se _ _ _).bnd fun _=>se _ _ _
 ·exact fun _=>(sd _ _ _).bnd fun _=>(sk _).bnd fun _=>(sd _ _ _).bnd fun _=>(se _ _ _).bnd fun _=>se _ _ _
 ·exact fun _=>(sk _).bnd fun _=>(sd _ _ _).bnd fun _=>(sk _).bnd fun _=>(sd _ _ _).bnd fun _=>(se _ _ _).bnd fun _=>se _ _ _
structure OkF (p:PlanetD) (a:ArcD):Prop where
 mu:Ok1 p.mu
 radius:Ok1 p.radius
 oblate:Ok1 p.oblate
 spin:Ok1 p.spin
 pull:OkB p.pull
 thrust:Ok1 a.thrust
 dir:OkB a.dir
theorem force_iso {p:PlanetD} {a:ArcD} (hk:OkF p a) {x x':SixD} {m:SpanD} (hm:Ok1 m) (hx:inSix x' x):IsoM inBox (forceM p a x' m) (forceM p a x m):=by
 have sd:=fun f a b=>st_do f a b;have se:=fun f a b=>st_each f a b;have z:inS zeroS zeroS:=⟨rfl,Int.le_refl _,Int.le_refl _,by decide⟩
 refine IsoM.bnd (iso_ite (IsoM.ret z) (normM_iso hx.1)) (fun _ _ r=>IsoM.bnd (iso_ite (IsoM.ret hk.pull) (IsoM.bnd (attr_iso hk.mu hk.radius hk.oblate hx.1 r) (fun _ _ at_=>iso_each sub_iso hk.pull at_) ?_)) (fun _ _ o1 =>
  IsoM.bnd (iso_ite (IsoM.ret o1) (spin_iso hk.spin hx.1 hx.2 o1)) (fun _ _ o2=>IsoM.bnd (iso_ite (IsoM.ret o2) (IsoM.bnd (divM_iso hk.thrust hm) (fun _ _ tm=>IsoM.bnd (iso_each mul_iso (inBox.all tm) hk.dir) (fun _ _ td=>iso_each add_iso o2 td) ?_) ?_)) (fun _ _ o3=>iso_ite (IsoM.ret o3) (drag_iso hk.radius hm r hx.2 o3)) ?_) ?_) ?_) ?_
 ·exact fun _=>se _ _ _
 ·exact fun _=>se _ _ _
 ·exact fun _=>(se _ _ _).bnd fun _=>se _ _ _
 ·exact fun _=>st_ite (Sticky.ret _) (st_drag _ _ _ _ _ _ _)
 ·exact fun _=>(st_ite (Sticky.ret _) ((sd _ _ _).bnd fun _=>(se _ _ _).bnd fun _=>se _ _ _)).bnd fun _=>st_ite (Sticky.ret _) (st_drag _ _ _ _ _ _ _)
 ·exact fun _=>(st_ite (Sticky.ret _) (st_spin _ _ _ _)).bnd fun _=>(st_ite (Sticky.ret _) ((sd _ _ _).bnd fun _=>(se _ _ _).bnd fun _=>se _ _ _)).bnd fun _=>st_ite (Sticky.ret _) (st_drag _ _ _ _ _ _ _)
 ·exact fun _=>(st_ite (Sticky.ret _) ((st_attr _ _ _).bnd fun _=>se _ _ _)).bnd fun _=>(st_ite (Sticky.ret _) (st_spin _ _ _ _)).bnd fun _=>(st_ite (Sticky.ret _) ((sd _ _ _).bnd fun _=>(se _ _ _).bnd fun _=>se _ _ _)).bnd fun _=>st_ite (Sticky.ret _) (st_drag _ _ _ _ _ _ _)
end Go.Proofs.YtmkoegljnebdiaaGreat
namespace Go.Proofs.YtmkoegljnebdiaaGreat
open Go.RowKit
set_option maxRecDepth 100000
set_option maxHeartbeats 16000000

theorem in_any (a:SpanD) (n:Int) (w:World):Calls Tryz.prog 152 #[spanV a,.int .i64 n] w fun e w'=>e=.returned (.bool (memB a n))∧Below w.heap.size w w':=by
 have HCK:=hZ (fun w=>check_any a w);refine pQ fun PQ hPQ=>?_
 have HFIN:Hid (∀ w' v,memB a n=v→Fr w [] [] w'→PQ (.returned (.bool v)) w'):=hZ fun w' v hr h=>by rw [← hPQ,hr];exact ⟨rfl,h.toBelow⟩
 unfold memB at HFIN;unfold errC at HCK;obtain ⟨bc,hbc⟩:=eX (chkB a);rw [hbc] at HFIN HCK;obtain ⟨al,ah⟩:=a;unfold spanV at HCK ⊢;dsimp only at HFIN HCK ⊢;clear hPQ hbc;cases bc with
 | false =>
  simp only [Bool.false_eq_true,if_false,Bool.false_and] at HCK HFIN;obtain ⟨qb,W0,hqb,hW0,HF0⟩:=fM (Fr.start w) [(#[al,ah],31)];go_enter Tryz.func152,Tryz.ntmps152;go_upto_region 1 with (fail);clear hW0 hqb;go_wp2_with (refine lS (gN HF0 0) al ah ?_)
  refine mB HF0.out (HCK.out _) fun w1 HF2=>?_;have c3:=cA (gN HF2 0) 0;have c4:=cA (gN HF2 0) 1;go_wp2_with fail
  clear c3 c4;exact HFIN.out _ _ rfl HF2.out.drop
 | true =>
  simp only [if_true,Bool.true_and] at HCK HFIN;by_cases g:al≤n
  ·have g1:decide (al≤n)=true:=decide_eq_true g;rw [g1] at HFIN;by_cases k:n≤ah
   ·have g2:decide (n≤ah)=true:=decide_eq_true k;rw [g2] at HFIN;obtain ⟨qb,W0,hqb,hW0,HF0⟩:=fM (Fr.start w) [(#[al,ah],31)];go_enter Tryz.func152,Tryz.ntmps152;go_upto_region 1 with (fail);clear hW0 hqb;go_wp2_with (refine lS (gN HF0 0) al ah ?_)
    refine mB HF0.out (HCK.out _) fun w1 HF2=>?_;have c3:=cA (gN HF2 0) 0;have c4:=cA (gN HF2 0) 1;go_wp2_with fail
    clear c3 c4;exact HFIN.out _ _ rfl HF2.out.drop
   ·have g2:decide (n≤ah)=false:=decide_eq_false k;rw [g2] at HFIN;obtain ⟨qb,W0,hqb,hW0,HF0⟩:=fM (Fr.start w) [(#[al,ah],31)];go_enter Tryz.func152,Tryz.ntmps152;go_upto_region 1 with (fail);clear hW0 hqb;go_wp2_with (refine lS (gN HF0 0) al ah ?_)
    refine mB HF0.out (HCK.out _) fun w1 HF2=>?_;have c3:=cA (gN HF2 0) 0;have c4:=cA (gN HF2 0) 1;go_wp2_with fail
    clear c3 c4;exact HFIN.out _ _ rfl HF2.out.drop
  ·have g1:decide (al≤n)=false:=decide_eq_false g;rw [g1,Bool.false_and] at HFIN;obtain ⟨qb,W0,hqb,hW0,HF0⟩:=fM (Fr.start w) [(#[al,ah],31)];go_enter Tryz.func152,Tryz.ntmps152;go_upto_region 1 with (fail);clear hW0 hqb;go_wp2_with (refine lS (gN HF0 0) al ah ?_)
   refine mB HF0.out (HCK.out _) fun w1 HF2=>?_;have c3:=cA (gN HF2 0) 0;have c4:=cA (gN HF2 0) 1;go_wp2_with fail
   clear c3 c4;exact HFIN.out _ _ rfl HF2.out.drop
def PtsAt (w:World) (B:Nat) (A:Option Addr) (n:Nat) (v:Nat→PointD):Prop:=Sl w B 3 A n fun i j=>match j with | 0=>.int .i64 (v i).at_ | 1=>.int .i64 (v i).value.lo | _=>.int .i64 (v i).value.hi
theorem u_237:Tryz.prog.underlying 237=some (.struct (match Tryz.prog.underlying 237 with | some (.struct f)=>f | _=>#[])):=by kernel_rfl
theorem i_237:(Tryz.prog.info? 237).map (·.size)=some 3:=by kernel_rfl
theorem table_any (w:World) (A:Option Addr) (n c:Nat) (v:Nat→PointD) (h:PtsAt w w.heap.size A n v) (hv:∀ i,WdS (v i).value) :
  Calls Tryz.prog 92 #[.slice A n c] w fun e w'=>e=.returned (.int .i64 (if tableB n v=true then 0 else 2))∧Below w.heap.size w w':=by
 have HL:=hZ h;have HV:=hZ hv;refine pQ fun PQ hPQ=>?_
 have HYES:Hid (∀ w',tableB n v=true→Below w.heap.size w w'→PQ (.returned (.int .i64 0)) w'):=hZ fun w' hr h=>by rw [← hPQ,hr];exact ⟨rfl,h⟩
 have HNO:Hid (∀ w',tableB n v=false→Below w.heap.size w w'→PQ (.returned (.int .i64 2)) w'):=hZ fun w' hr h=>by rw [← hPQ,hr];exact ⟨rfl,h⟩
 clear hPQ h hv;by_cases h0:n=0
 ·subst h0;go_enter Tryz.func92,Tryz.ntmps92;go_wp2_with fail
  exact HNO.out _ (by unfold tableB;rfl) (Below.refl _ _)
 ·by_cases h64:n≤64
  ·have h0i:¬ ((n:Int)=0):=by omega
   have h0b:((n:Int) == 0)=false:=by simpa using h0
   have h64i:¬ (64<(n:Int)):=by omega
   obtain ⟨qs,hqs⟩:=eX w.heap.size;obtain ⟨w1,hw1⟩:=eX (w.alloc (.cells #[.int .i64 0,.int .i64 0] 31));have HF1:Hid (Fr w [] [(qs,31,#[.int .i64 0,.int .i64 0])] w1):=hZ (by rw [← hw1];exact (Fr.start w).alloc hqs.symm 31 #[.int .i64 0,.int .i64 0])
   go_enter Tryz.func92,Tryz.ntmps92;go_upto_region 4 with (refine wpStoreF rfl rfl 31 _ _ rfl qs 0 rfl #[.int .i64 (-2305843009213693952),.int .i64 2305843009213693952] rfl 31 #[.int .i64 0,.int .i64 0] #[.int .i64 (-2305843009213693952),.int .i64 2305843009213693952] (HF1.out.get 0 rfl) rfl (by show 0+2≤2;omega) (one_all rfl) i_span ?_;intro w2 hk2 ho;have HF2:=fN (HF1.out.only 0 rfl ho hk2);clear ho hk2)
   clear hw1 hqs HF1;go_wp2_with fail
   have HSM:Hid (Bk w2 qs 31 #[.int .i64 (-2305843009213693952),.int .i64 2305843009213693952]):=hZ (HF2.out.get 0 rfl);have HB2:Hid (Below w.heap.size w w2):=hZ HF2.out.drop.toBelow;clear HF2;go_loopw [17] (fun iv wr=>∃ k:Nat,k≤n∧iv=.int .i64 k∧Hid (Below w2.heap.size w2 wr∧∀ j,j<k→ptOk v j=true)) (fun iv _=>n - (intOf iv).toNat)
   case atStart=>exact ⟨0,Nat.zero_le _,rfl,hZ ⟨Below.refl _ _,fun j hj=>absurd hj (Nat.not_lt_zero j)⟩⟩
   case round =>
    obtain ⟨wo,rfl⟩:∃ wo:World,wo=wr:=⟨_,rfl⟩;obtain ⟨k,hk,rfl,hs⟩:=hrel;have HB:=hZ hs.out.1;have HPO:=hZ hs.out.2;clear hs;have h0k:(0:Int)≤(k:Int):=by omega
    by_cases hlt:k<n
    ·have hki:(k:Int)<(n:Int):=by omega
     have HBO:Hid (Below w.heap.size w wo):=hZ (HB2.out.trans (HB.out.mono HB2.out.size));have HLO:=hZ (HL.out.below HBO.out);have HSO:=hZ (HSM.out.below HB.out HSM.out.lt);obtain ⟨b,off,hA,hbl,d0,d1,d2⟩:=HLO.out.at3 hlt;have HPR:Hid (k ≠ 0→wo.cell? ⟨b,off+(k - 1) * 3,none⟩=some (.int .i64 (v (k - 1)).at_)):=hZ fun hk0=>by
      obtain ⟨b',off',hA',_,e0,_,_⟩:=HLO.out.at3 (show k - 1<n by omega)
      rw [hA] at hA';injection hA' with hA';injection hA' with h1 h2
      subst h1 h2;exact e0
     subst hA;have HX:Hid (ptOk v k=(memB smallS (v k).at_ && (withinB (v k).value smallS && incB v k))):=hZ rfl;have HIN:=hZ (fun w=>in_any smallS (v k).at_ w);have HWI:=hZ (fun w=>within_any (v k).value smallS (HV.out k) (by unfold WdS smallS;decide) w)
     obtain ⟨bi,hbi⟩:=eX (memB smallS (v k).at_);obtain ⟨bw,hbw⟩:=eX (withinB (v k).value smallS);obtain ⟨bn,hbn⟩:=eX (incB v k);have HBN:=hZ hbn;rw [hbi] at HIN HX;rw [hbw] at HWI HX;rw [hbn] at HX;obtain ⟨⟨x,⟨xl,xh⟩⟩,hx⟩:=eX (v k);have HXK:=hZ hx;simp only [hx] at d0 d1 d2;rw [hx] at HIN HWI;unfold spanV smallS at HIN HWI;dsimp only at HIN HWI d0 d1 d2;have HS3:Hid (∀ j u,(#[Value.int .i64 x,.int .i64 xl,.int .i64 xh])[j]?=some u→wo.cell? ⟨b,off+k * 3+j,none⟩=some u):=hZ fun j u hj=>by
      match j,hj with
      | 0,hj=>simp at hj;subst hj;exact d0
      | 1,hj=>simp at hj;subst hj;exact d1
      | 2,hj=>simp at hj;subst hj;exact d2
      | j+3,hj=>simp at hj
     clear hx hbi hbw hbn d0 d1 d2;have HBL:Hid (b<wo.heap.size):=hZ (Nat.lt_of_lt_of_le hbl HBO.out.size);clear hbl;obtain ⟨g1,hg1⟩:=eX wo.heap.size;obtain ⟨w3,hw3⟩:=eX (wo.alloc (.cells #[(0:Int),(0:Int),(0:Int)] 237));have HF3:Hid (Fr wo [] [(g1,237,#[(0:Int),(0:Int),(0:Int)])] w3):=hZ (by rw [← hw3];exact (Fr.start wo).alloc hg1.symm 237 #[(0:Int),(0:Int),(0:Int)])
     go_upto_region 7 with (first
      | (refine wpLoadAt rfl 237 _ rfl b (off+k * 3) rfl #[x,xl,xh] _ HS3.out u_237 rfl i_237 ?_)
      | (refine wpStoreF rfl rfl 237 _ _ rfl g1 0 rfl #[x,xl,xh] rfl 237 #[(0:Int),(0:Int),(0:Int)] #[x,xl,xh] (HF3.out.get 0 rfl) rfl (by show 0+3≤3;omega) (one_all rfl) i_237 ?_;intro w4 hk4 ho;have HF4:=fN (HF3.out.only 0 rfl ho hk4);clear ho hk4))
     clear hw3 hg1 HF3;have HB4:Hid (Below wo.heap.size wo w4):=hZ HF4.out.drop.toBelow;have HG1:Hid (Bk w4 g1 237 #[x,xl,xh]):=hZ (HF4.out.get 0 rfl);have HSO4:=hZ (HSO.out.below HB4.out HSO.out.lt);clear HF4;have c0:=Ext.cell (show w4.cell? ⟨g1,0,none⟩=some (.int .i64 x) from HG1.out.cell 0)
     have c1:=Ext.cell (show w4.cell? ⟨g1,1,none⟩=some (.int .i64 xl) from HG1.out.cell 1)
     have c2:=Ext.cell (show w4.cell? ⟨g1,2,none⟩=some (.int .i64 xh) from HG1.out.cell 2)
     have s0:=Ext.cell (show w4.cell? ⟨qs,0,none⟩=some (.int .i64 (-2305843009213693952)) from HSO4.out.cell 0)
     have s1:=Ext.cell (show w4.cell? ⟨qs,1,none⟩=some (.int .i64 2305843009213693952) from HSO4.out.cell 1)
     have HINx:Hid (∀ z:Ext w4,_):=hZ fun z=>HIN.out z.w;have HWIx:Hid (∀ z:Ext w4,_):=hZ fun z=>HWI.out z.w;have HBAD:Hid (ptOk v k=false→∀ w',Below w4.heap.size w4 w'→PQ (.returned (.int .i64 2)) w'):=hZ fun hp w' hw=>HNO.out w' (by
      unfold tableB;rw [allN_false hlt hp];simp) (HBO.out.trans ((HB4.out.trans (hw.mono HB4.out.size)).mono HBO.out.size))
     cases bi with
     | false =>
      refine wp_region_ext_quiet (by kernel_rfl) (by kernel_rfl) ?_
      repeat (go_big_quiet_step (first | ((go_at_call 152;exact Ext.calls (HINx.out _))) | ((go_at_call 115;exact Ext.calls (HWIx.out _)))))
      refine wpQuiet_nil ?_
      intro w5 hw5;go_wp2_with fail
      exact HBAD.out (by rw [HX.out];rfl) _ hw5
     | true =>
      cases bw with
      | false =>
       refine wp_region_ext_quiet (by kernel_rfl) (by kernel_rfl) ?_
       repeat (go_big_quiet_step (first | ((go_at_call 152;exact Ext.calls (HINx.out _))) | ((go_at_call 115;exact Ext.calls (HWIx.out _)))))
       refine wpQuiet_nil ?_
       intro w5 hw5;go_wp2_with fail
       exact HBAD.out (by rw [HX.out];rfl) _ hw5
      | true =>
       by_cases hk0:k=0
       ·subst hk0;refine wp_region_ext_quiet (by kernel_rfl) (by kernel_rfl) ?_
        repeat (go_big_quiet_step (first | ((go_at_call 152;exact Ext.calls (HINx.out _))) | ((go_at_call 115;exact Ext.calls (HWIx.out _)))))
        refine wpQuiet_nil ?_
        intro w5 hw5;have HB5:=hZ (HB4.out.trans (hw5.mono HB4.out.size));clear hw5;go_wp2_with fail
        go_roundw
        case rel=>exact ⟨0+1,by omega,by go_num,hZ ⟨HB.out.trans (HB5.out.mono HB.out.size),fun j hj=>by
         by_cases ej:j=0
         ·subst ej;exact by rw [HX.out,← HBN.out];rfl
         ·exact HPO.out j (by omega)⟩⟩
        case measure=>simp [intOf];omega
       ·obtain ⟨m,rfl⟩:∃ m,k=m+1:=⟨k - 1,by omega⟩
        have p0:=HPR.out hk0;rw [show m+1 - 1=m from rfl] at p0
        obtain ⟨y,hy⟩:=eX ((v m).at_);rw [hy] at p0;replace p0:=(HB4.out.cell (p:=⟨b,off+m * 3,none⟩) HBL.out).trans p0;have hm1:((m+1:Nat):Int) - 1=(m:Int):=by omega
        have hmp:(0:Int)<((m+1:Nat):Int):=by omega
        replace p0:=Ext.cell p0;by_cases hlx:y<x
        ·have hge:¬ (x≤y):=by omega
         refine wp_region_ext_quiet (by kernel_rfl) (by kernel_rfl) ?_
         repeat (go_big_quiet_step (first | ((go_at_call 152;exact Ext.calls (HINx.out _))) | ((go_at_call 115;exact Ext.calls (HWIx.out _)))))
         refine wpQuiet_nil ?_
         intro w5 hw5;have HB5:=hZ (HB4.out.trans (hw5.mono HB4.out.size));clear hw5;go_wp2_with fail
         go_roundw
         case rel=>exact ⟨m+1+1,by omega,by go_num,hZ ⟨HB.out.trans (HB5.out.mono HB.out.size),fun j hj=>by
          by_cases ej:j=m+1
          ·subst ej;exact by rw [HX.out,← HBN.out];unfold incB;rw [Nat.add_sub_cancel,hy,HXK.out];simp [hlx]
          ·exact HPO.out j (by omega)⟩⟩
         case measure=>simp [intOf];omega
        ·have hge:x≤y:=by omega
         refine wp_region_ext_quiet (by kernel_rfl) (by kernel_rfl) ?_
         repeat (go_big_quiet_step (first | ((go_at_call 152;exact Ext.calls (HINx.out _))) | ((go_at_call 115;exact Ext.calls (HWIx.out _)))))
         refine wpQuiet_nil ?_
         intro w5 hw5;go_wp2_with fail
         exact HBAD.out (by rw [HX.out,← HBN.out];unfold incB;rw [Nat.add_sub_cancel,hy,HXK.out];simp [hlx]) _ hw5
    ·obtain rfl:k=n:=by omega
     have hki:¬ (k:Int)<(k:Int):=by omega
     go_wp2_with fail
     exact HYES.out _ (by unfold tableB;rw [show decide (k ≠ 0)=true by simp [h0],show decide (k≤64)=true by simp [h64],allN_iff.2 HPO.out];rfl) (HB2.out.trans (HB.out.mono HB2.out.size))
  ·have h0i:¬ ((n:Int)=0):=by omega
   have h0b:((n:Int) == 0)=false:=by simpa using h0
   have h64i:64<(n:Int):=by omega
   go_enter Tryz.func92,Tryz.ntmps92;go_wp2_with fail
   exact HNO.out _ (by unfold tableB;rw [show decide (n≤64)=false by simp [h64]];simp) (Below.refl _ _)

theorem of_fix (n:Int) (h:I64 n):∃ t x y,IsBig (.agg #[.bool t,.int .u64 x,.int .u64 y]) n∧∀ w,Calls Tryz.prog 130 #[.int .i64 n] w fun e w'=>e=.returned (.agg #[.bool t,.int .u64 x,.int .u64 y])∧Below w.heap.size w w' :=
 ⟨_,_,_,of_big h,fun w=>of_any n h w⟩
theorem of_posfix (n:Int) (h:0<n) (h2:n≤9223372036854775807):∀ w,Calls Tryz.prog 130 #[.int .i64 n] w fun e w'=>e=.returned (.agg #[.bool false,.int .u64 0,.int .u64 n])∧Below w.heap.size w w':=fun w=>by
 have:=of_any n (by unfold I64;omega) w
 unfold bigV sizeI at this;rw [if_neg (by omega),show decide (n<0)=false from decide_eq_false (by omega)] at this
 exact this
theorem times_fix (a b:Int) (ha:I64 a) (hb:I64 b):∃ t x y,IsBig (.agg #[.bool t,.int .u64 x,.int .u64 y]) (a * b)∧∀ w,Calls Tryz.prog 138 #[.int .i64 a,.int .i64 b] w fun e w'=>e=.returned (.agg #[.bool t,.int .u64 x,.int .u64 y])∧Below w.heap.size w w':=by
 obtain ⟨r,hr,h⟩:=times_ex a b ha hb;obtain ⟨n,x,y,rfl⟩:=big_cells hr;exact ⟨n,x,y,hr,h⟩
theorem plus_fix {a b:Value} {v1 v2:Int} (ha:IsBig a v1) (hb:IsBig b v2) (h1:S127 v1) (h2:S127 v2) :
  ∃ t x y,IsBig (.agg #[.bool t,.int .u64 x,.int .u64 y]) (v1+v2)∧∀ w,Calls Tryz.prog 129 #[a,b] w fun e w'=>e=.returned (.agg #[.bool t,.int .u64 x,.int .u64 y])∧Below w.heap.size w w':=by
 obtain ⟨r,hr,h⟩:=plus_ex ha hb h1 h2;obtain ⟨n,x,y,rfl⟩:=big_cells hr;exact ⟨n,x,y,hr,h⟩
theorem divide_fix {a:Value} {v b:Int} (ha:IsBig a v) (hv:S127 v) (hb:0<b) (hb2:b≤18446744073709551615) :
  ∃ t x y t' x' y',IsBig (.agg #[.bool t,.int .u64 x,.int .u64 y]) (v / b)∧IsBig (.agg #[.bool t',.int .u64 x',.int .u64 y']) (-(-v / b)) ∧
   ∀ w,Calls Tryz.prog 140 #[a,.agg #[.bool false,.int .u64 0,.int .u64 b]] w fun e w'=>e=.returned (.tuple #[.agg #[.bool t,.int .u64 x,.int .u64 y],.agg #[.bool t',.int .u64 x',.int .u64 y']])∧Below w.heap.size w w':=by
 obtain ⟨n,m,rfl,p,q⟩:=ha;obtain ⟨m,rfl⟩:=Int.eq_ofNat_of_zero_le p;obtain ⟨b,rfl⟩:=Int.eq_ofNat_of_zero_le (show 0≤b by omega)
 have s:=val_size p q;obtain ⟨hv1,hv2⟩:=hv;obtain ⟨k1,k2⟩:=divP_big n m b (by omega)
 have k1':IsBig (bigP n (if n=true then ceilN m b else m / b)) (v / (b:Int)):=by rw [← q];exact k1
 have k2':IsBig (bigP n (if n=true then m / b else ceilN m b)) (-(-v / (b:Int))):=by rw [← q];exact k2
 exact ⟨_,_,_,_,_,_,k1',k2',fun w=>divide_raw n m b (by omega) (by omega) (by omega) w⟩
theorem PtsAt.mono {w:World} {B B' n:Nat} {A:Option Addr} {v:Nat→PointD} (h:PtsAt w B A n v) (hb:B≤B'):PtsAt w B' A n v :=
 ⟨h.1,fun hn=>by obtain ⟨b,off,e,hB,hc⟩:=h.2 hn;exact ⟨b,off,e,Nat.lt_of_lt_of_le hB hb,hc⟩⟩
theorem PtsAt.to {w w':World} {n:Nat} {A:Option Addr} {v:Nat→PointD} (h:PtsAt w w.heap.size A n v) (hb:Below w.heap.size w w'):PtsAt w' w'.heap.size A n v:=(Sl.below h hb:PtsAt w' w.heap.size A n v).mono hb.size
theorem PtsAt.cells {w:World} {n:Nat} {A:Option Addr} {v:Nat→PointD} (h:PtsAt w w.heap.size A n v) {b off:Nat} (hA:A=some ⟨b,off,none⟩) {k:Nat} (hk:k<n) {N:List Ent} {w':World} (hf:Fr w [] N w') :
  w'.cell? ⟨b,off+k * 3,none⟩=some (.int .i64 (v k).at_)∧(∀ j u,(#[Value.int .i64 (v k).at_,.int .i64 (v k).value.lo,.int .i64 (v k).value.hi])[j]?=some u→w'.cell? ⟨b,off+k * 3+j,none⟩=some u) ∧
  (∀ j u,(#[Value.int .i64 (v k).value.lo,.int .i64 (v k).value.hi])[j]?=some u→w'.cell? ⟨b,off+k * 3+1+j,none⟩=some u):=by
 obtain ⟨b',off',e,_,d0,d1,d2⟩:=(Sl.below h hf.toBelow).at3 hk;rw [hA] at e;injection e with e;injection e with e1 e2
 subst e1 e2;refine ⟨d0,fun j u hj=>?_,fun j u hj=>?_⟩
 ·match j,hj with
  | 0,hj=>simp at hj;subst hj;exact d0
  | 1,hj=>simp at hj;subst hj;exact d1
  | 2,hj=>simp at hj;subst hj;exact d2
  | j+3,hj=>simp at hj
 ·match j,hj with
  | 0,hj=>simp at hj;subst hj;exact d1
  | 1,hj=>simp at hj;subst hj;exact d2
  | j+2,hj=>simp at hj
theorem val_node {f:SpanD→Int} {v:Nat→PointD} {n i:Nat} {x:Int} (hi:posN v x n=i) (hc:i=0 ∨ i=n ∨ (v i).at_=x):valD f v n x=f (v (min i (n - 1))).value∧valU f v n x=f (v (min i (n - 1))).value:=by
 unfold valU valD;rw [hi,if_pos hc,if_pos hc];dsimp only;omega
theorem val_seg {f:SpanD→Int} {v:Nat→PointD} {n i m:Nat} {x:Int} (him:i=m+1) (hi:posN v x n=i) (hn:i<n) (hc:(v i).at_ ≠ x) :
  valD f v n x=f (v m).value+(f (v i).value - f (v m).value) * (x - (v m).at_) / ((v i).at_ - (v m).at_)∧valU f v n x=f (v m).value+-(-((f (v i).value - f (v m).value) * (x - (v m).at_)) / ((v i).at_ - (v m).at_)):=by
 subst him;have hno:¬ (m+1=0 ∨ m+1=n ∨ (v (m+1)).at_=x):=by omega
 unfold valU valD segD;rw [hi,if_neg hno,if_neg hno,Nat.add_sub_cancel];refine ⟨rfl,?_⟩
 have e:(-f (v (m+1)).value - -f (v m).value) * (x - (v m).at_)=-((f (v (m+1)).value - f (v m).value) * (x - (v m).at_)):=by rw [← Int.neg_mul];congr 1;omega
 have e':(-f (v m).value)=-(f (v m).value):=rfl;show -(-f (v m).value+(-f (v (m+1)).value - -f (v m).value) * (x - (v m).at_) / ((v (m+1)).at_ - (v m).at_))=_
 rw [e];omega
theorem seg_range {a b s D:Int} (hD:0<D) (h0:0≤s) (hs:s≤D) (ha:-2305843009213693952≤a∧a≤2305843009213693952) (hb:-2305843009213693952≤b∧b≤2305843009213693952) (hD2:D≤4611686018427387904) :
  S127 ((b - a) * s)∧S127 ((b - a) * s / D)∧S127 (-(-((b - a) * s) / D)):=by
 have h1:(b - a) * s≤4611686018427387904 * D:=by
  have:=Int.mul_le_mul_of_nonneg_right (show b - a≤4611686018427387904 by omega) h0
  omega
 have h2:-4611686018427387904 * D≤(b - a) * s:=by
  have:=Int.mul_le_mul_of_nonneg_right (show -4611686018427387904≤b - a by omega) h0
  omega
 have q1:(b - a) * s / D≤4611686018427387904:=by
  have:=Int.ediv_le_ediv hD h1;rwa [Int.mul_ediv_cancel _ (by omega)] at this
 have q2:-4611686018427387904≤(b - a) * s / D:=by
  have:=Int.ediv_le_ediv hD h2;rwa [Int.mul_ediv_cancel _ (by omega)] at this
 have q3:-((b - a) * s) / D≤4611686018427387904:=by
  have:=Int.ediv_le_ediv hD (show -((b - a) * s)≤4611686018427387904 * D by omega);rwa [Int.mul_ediv_cancel _ (by omega)] at this
 have q4:-4611686018427387904≤-((b - a) * s) / D:=by
  have:=Int.ediv_le_ediv hD (show -4611686018427387904 * D≤-((b - a) * s) by omega);rwa [Int.mul_ediv_cancel _ (by omega)] at this
 unfold S127;omega
theorem value_any (f:SpanD→Int) (fid:Nat) (hop:∀ s w,Calls Tryz.prog fid #[spanV s] w fun e w'=>e=.returned (.int .i64 (f s))∧Below w.heap.size w w') (hen:∀ args w,(callFunc fid args).run Tryz.prog w=.ok (.enter fid args) w)
  (w:World) (A:Option Addr) (n c:Nat) (v:Nat→PointD) (h:PtsAt w w.heap.size A n v) (h0:0<n) (hn:n≤64) (hr:RiseT v n) (ha:∀ i,i<n→-2305843009213693952≤(v i).at_∧(v i).at_≤2305843009213693952) (hv:∀ i,i<n→-2305843009213693952≤f (v i).value∧f (v i).value≤2305843009213693952) (x:Int) (hx:I64 x) :
  Calls Tryz.prog 194 #[.slice A n c,.int .i64 x,.func (.func fid) #[] #[]] w (HulPost (valD f v n x) (valU f v n x) w.heap.size w):=by
 obtain ⟨b,off,rfl,-,-⟩:=h.2 h0;have HL:=hZ h;have HR:=hZ hr;have HA:=hZ ha;have HV:=hZ hv;have HOP:=hZ hop;have HX:=hZ hx;have HFIN:Hid (∀ t y z t' y' z' a b w',valD f v n x=a→valU f v n x=b→IsBig (.agg #[.bool t,.int .u64 y,.int .u64 z]) a→IsBig (.agg #[.bool t',.int .u64 y',.int .u64 z']) b→Fr w [] [] w'→HulPost (valD f v n x) (valU f v n x) w.heap.size w (.returned (.tuple #[.agg #[.bool t,.int .u64 y,.int .u64 z],.agg #[.bool t',.int .u64 y',.int .u64 z']])) w') :=
  hZ fun t y z t' y' z' a b w' e1 e2 h1 h2 hf=>⟨_,_,rfl,by rw [e1];exact h1,by rw [e2];exact h2,hf.toBelow⟩
 refine pQ fun PQ hPQ=>?_
 rw [hPQ] at HFIN;clear h hr ha hv hop hx hPQ;obtain ⟨qb,W0,hqb,hW0,HF0⟩:=fM (Fr.start w) [(#[.bool false,.int .u64 0,.int .u64 0],217),(#[.bool false,.int .u64 0,.int .u64 0],217)];go_enter Tryz.func194,Tryz.ntmps194;go_upto_region 1 with (fail);clear hW0 hqb;go_wp2_with fail
 go_loopw [8] (fun iv wr=>∃ i:Nat,i≤n∧iv=.int .i64 i∧Hid (Fr w [] [(qb,217,#[.bool false,.int .u64 0,.int .u64 0]),(qb+1,217,#[.bool false,.int .u64 0,.int .u64 0])] wr∧∀ j,j<i→(v j).at_<x)) (fun iv _=>n - (intOf iv).toNat)
 case atStart=>exact ⟨0,Nat.zero_le _,rfl,hZ ⟨HF0.out,fun j hj=>absurd hj (Nat.not_lt_zero j)⟩⟩
 case round =>
  obtain ⟨wo,rfl⟩:∃ wo:World,wo=wr:=⟨_,rfl⟩;obtain ⟨i,hi,rfl,hs⟩:=hrel;have HF:=hZ hs.out.1;have HLS:=hZ hs.out.2;clear hs HF0;have h0i:(0:Int)≤(i:Int):=by omega
  by_cases hlt:i<n
  ·have hki:(i:Int)<(n:Int):=by omega
   obtain ⟨c0,_,_⟩:=HL.out.cells rfl hlt HF.out;obtain ⟨y0,hy0⟩:=eX ((v i).at_);have HY0:=hZ hy0;rw [hy0] at c0;clear hy0;by_cases hxy:y0<x
   ·go_wp2_with fail
    go_roundw
    case rel=>exact ⟨i+1,by omega,by go_num,hZ ⟨HF.out,fun j hj=>by
     by_cases ej:j=i
     ·subst ej;rw [HY0.out];exact hxy
     ·exact HLS.out j (by omega)⟩⟩
    case measure=>simp [intOf];omega
   ·have HPOS:Hid (posN v x n=i):=hZ (pos_eq hi HLS.out fun _=>by rw [HY0.out];omega)
    by_cases hi0:i=0
    ·subst hi0;rw [Nat.zero_mul,Nat.add_zero] at c0;have hmin:min (((0:Nat):Int)) ((n:Int) - 1)=((0:Nat):Int):=by omega
     have hmin':min (0:Int) ((n:Int) - 1)=0:=by omega
     have hkn:0<n:=by omega
     obtain ⟨_,_,hcs⟩:=HL.out.cells rfl hkn HF.out;have hvk:=HV.out _ hkn;have HVAL:=hZ ((show valD f v n x=f (v 0).value∧valU f v n x=f (v 0).value from by have:=val_node (f:=f) HPOS.out (.inl rfl);rwa [Nat.zero_min] at this))
     obtain ⟨⟨sl,sh⟩,hsv⟩:=eX ((v (0)).value);rw [hsv] at hcs hvk HVAL;obtain ⟨y,hy⟩:=eX (f ⟨sl,sh⟩);have HOQ:=fun w=>HOP.out ⟨sl,sh⟩ w;rw [hy] at hvk HVAL HOQ;unfold spanV at HOQ;dsimp only at hcs HOQ;replace HOQ:=hZ HOQ;have HCS:=hZ hcs;obtain ⟨t1,x1,y1,hb1,hof⟩:=of_fix y (by unfold I64;omega)
     have HOF:=hZ hof;have HB1:=hZ hb1;clear hof hb1 hcs hsv hy hvk;go_wp2_with (first
       | (refine wpLoadAt rfl 31 _ rfl b (off+0 * 3+1) rfl #[sl,sh] _ HCS.out u_span rfl i_span ?_)
       | (refine wpCallV rfl fid  _ _ _ rfl rfl #[.agg #[sl,sh]] rfl hen ?_))
     refine mB HF.out (HOQ.out _) fun w1 HF2=>?_;go_wp2_with fail
     refine mB HF2.out (HOF.out _) fun w3 HF4=>?_;obtain ⟨g5,w5,hg5,hw5,HF6⟩:=fA HF4.out #[.bool false,.int .u64 0,.int .u64 0] 217;go_upto_region 6 with (refine sW 2 HF6.out i_big fun w7 HF8=>?_;clear hw5 hg5)
     refine wrf [.p,.p,.c 0,.c 1] [2,3] [] (fun _=>[]) (fun k=>[(qb,217,(if k≤0 then #[.bool false,.int .u64 0,.int .u64 0] else #[.bool t1,.int .u64 x1,.int .u64 y1])),(qb+1,217,(if k≤1 then #[.bool false,.int .u64 0,.int .u64 0] else #[.bool t1,.int .u64 x1,.int .u64 y1])),(g5,217,#[.bool t1,.int .u64 x1,.int .u64 y1])]) (rV [.agg #[.bool t1,.int .u64 x1,.int .u64 y1],.agg #[.bool t1,.int .u64 x1,.int .u64 y1]]) [] HF8.out ?_ ?_
     ·refine ⟨?_,?_,?_,?_,trivial⟩
      all_goals intro a w1 vs dn k K S hpre KE DE kk
      ·exact oL (eT (KE 9)) (S.fr.left.get 2 rfl) u_big (kk _ _) i_big
      ·exact oL (eT (KE 9)) (S.fr.left.get 2 rfl) u_big (kk _ _) i_big
      ·subst hpre;exact oW (eT (KE 6)) (eT (dep (DE 0 58))) (gI (S.hi 0 2 rfl rfl) (S.fr.left.get 0 rfl)) i_big fun w' hk ho=>kk _ _ (by simp) (Fr.stage (S.fr.only 0 rfl ho hk) (by exact trivial))
      ·subst hpre;exact oW (eT (KE 7)) (eT (dep (DE 1 59))) (gI (S.hi 1 3 rfl rfl) (S.fr.left.get 1 rfl)) i_big fun w' hk ho=>kk _ _ (by simp) (Fr.stage (S.fr.only 1 rfl ho hk) (by exact trivial))
     ·intro vs w9 HFr HR;have HF9:=fW HFr;clear HFr HR;simp only [putAll,Act.put,List.setIfInBounds_toArray,List.set_cons_zero,List.set_cons_succ];go_wp2_with fail
      exact ret_big2 rfl rfl rfl rfl (HF9.out.get 0 rfl) (HF9.out.get 1 rfl) (HFIN.out _ _ _ _ _ _ _ _ _ HVAL.out.1 HVAL.out.2 HB1.out HB1.out HF9.out.drop)
    ·have hi0i:¬ ((i:Int)=0):=by omega
     have hi0b:((i:Int) == 0)=false:=by simpa using hi0
     have hini:¬ ((i:Int)=(n:Int)):=by omega
     have hinb:((i:Int) == (n:Int))=false:=by simp;omega
     by_cases hxe:y0=x
     ·have hmin:min (i:Int) ((n:Int) - 1)=(i:Int):=by omega
      have hxeb:(y0 == x)=true:=by simpa using hxe
      have hkn:i<n:=by omega
      obtain ⟨_,_,hcs⟩:=HL.out.cells rfl hkn HF.out;have hvk:=HV.out _ hkn;have HVAL:=hZ ((show valD f v n x=f (v i).value∧valU f v n x=f (v i).value from by have:=val_node (f:=f) HPOS.out (.inr (.inr (HY0.out.trans hxe)));rwa [show min i (n - 1)=i by omega] at this))
      obtain ⟨⟨sl,sh⟩,hsv⟩:=eX ((v (i)).value);rw [hsv] at hcs hvk HVAL;obtain ⟨y,hy⟩:=eX (f ⟨sl,sh⟩);have HOQ:=fun w=>HOP.out ⟨sl,sh⟩ w;rw [hy] at hvk HVAL HOQ;unfold spanV at HOQ;dsimp only at hcs HOQ;replace HOQ:=hZ HOQ;have HCS:=hZ hcs;obtain ⟨t1,x1,y1,hb1,hof⟩:=of_fix y (by unfold I64;omega)
      have HOF:=hZ hof;have HB1:=hZ hb1;clear hof hb1 hcs hsv hy hvk;go_wp2_with (first
        | (refine wpLoadAt rfl 31 _ rfl b (off+i * 3+1) rfl #[sl,sh] _ HCS.out u_span rfl i_span ?_)
        | (refine wpCallV rfl fid  _ _ _ rfl rfl #[.agg #[sl,sh]] rfl hen ?_))
      refine mB HF.out (HOQ.out _) fun w1 HF2=>?_;go_wp2_with fail
      refine mB HF2.out (HOF.out _) fun w3 HF4=>?_;obtain ⟨g5,w5,hg5,hw5,HF6⟩:=fA HF4.out #[.bool false,.int .u64 0,.int .u64 0] 217;go_upto_region 6 with (refine sW 2 HF6.out i_big fun w7 HF8=>?_;clear hw5 hg5)
      refine wrf [.p,.p,.c 0,.c 1] [2,3] [] (fun _=>[]) (fun k=>[(qb,217,(if k≤0 then #[.bool false,.int .u64 0,.int .u64 0] else #[.bool t1,.int .u64 x1,.int .u64 y1])),(qb+1,217,(if k≤1 then #[.bool false,.int .u64 0,.int .u64 0] else #[.bool t1,.int .u64 x1,.int .u64 y1])),(g5,217,#[.bool t1,.int .u64 x1,.int .u64 y1])]) (rV [.agg #[.bool t1,.int .u64 x1,.int .u64 y1],.agg #[.bool t1,.int .u64 x1,.int .u64 y1]]) [] HF8.out ?_ ?_
      ·refine ⟨?_,?_,?_,?_,trivial⟩
       all_goals intro a w1 vs dn k K S hpre KE DE kk
       ·exact oL (eT (KE 9)) (S.fr.left.get 2 rfl) u_big (kk _ _) i_big
       ·exact oL (eT (KE 9)) (S.fr.left.get 2 rfl) u_big (kk _ _) i_big
       ·subst hpre;exact oW (eT (KE 6)) (eT (dep (DE 0 58))) (gI (S.hi 0 2 rfl rfl) (S.fr.left.get 0 rfl)) i_big fun w' hk ho=>kk _ _ (by simp) (Fr.stage (S.fr.only 0 rfl ho hk) (by exact trivial))
       ·subst hpre;exact oW (eT (KE 7)) (eT (dep (DE 1 59))) (gI (S.hi 1 3 rfl rfl) (S.fr.left.get 1 rfl)) i_big fun w' hk ho=>kk _ _ (by simp) (Fr.stage (S.fr.only 1 rfl ho hk) (by exact trivial))
      ·intro vs w9 HFr HR;have HF9:=fW HFr;clear HFr HR;simp only [putAll,Act.put,List.setIfInBounds_toArray,List.set_cons_zero,List.set_cons_succ];go_wp2_with fail
       exact ret_big2 rfl rfl rfl rfl (HF9.out.get 0 rfl) (HF9.out.get 1 rfl) (HFIN.out _ _ _ _ _ _ _ _ _ HVAL.out.1 HVAL.out.2 HB1.out HB1.out HF9.out.drop)
     ·have hxeb:(y0 == x)=false:=by simpa using hxe
      obtain ⟨m,him⟩:∃ m,i=m+1:=⟨i - 1,by omega⟩
      have HIM:=hZ him;have hmn:m<n:=by omega
      have HVAL:=hZ (val_seg (f:=f) him HPOS.out hlt (by rw [HY0.out];exact hxe))
      have hlo:(v m).at_<x:=HLS.out m (by omega)
      have hhi:x≤(v i).at_:=by rw [HY0.out];omega
      have ha1:=HA.out m hmn;have ha2:=HA.out i hlt;have hv1:=HV.out m hmn;have hv2:=HV.out i hlt;have HC1:=hZ fun w' (hf:Fr w [] [] w')=>(HL.out.cells rfl hmn hf).2.1;have HC2:=hZ fun w' (hf:Fr w [] [] w')=>(HL.out.cells rfl hlt hf).2.1;rw [HY0.out] at HVAL hhi ha2 HC2;obtain ⟨z0,hz0⟩:=eX ((v m).at_);rw [hz0] at HVAL hlo ha1 HC1;obtain ⟨⟨pl,ph⟩,hp⟩:=eX ((v m).value);obtain ⟨⟨ql,qh⟩,hq⟩:=eX ((v i).value);rw [hp] at HVAL HC1 hv1;rw [hq] at HVAL HC2 hv2;have HOa:=fun w=>HOP.out ⟨pl,ph⟩ w;have HOb:=fun w=>HOP.out ⟨ql,qh⟩ w;obtain ⟨ga,haa⟩:=eX (f ⟨pl,ph⟩);obtain ⟨gd,hdd⟩:=eX (f ⟨ql,qh⟩);rw [haa] at HVAL hv1 HOa;rw [hdd] at HVAL hv2 HOb;unfold spanV at HOa HOb;dsimp only at HOa HOb HC1 HC2;replace HOa:=hZ HOa;replace HOb:=hZ HOb;obtain ⟨s1,s2,s3⟩:=seg_range (a:=ga) (b:=gd) (s:=x - z0) (D:=y0 - z0) (by omega) (by omega) (by omega) hv1 hv2 (by omega)
      have m1:IntKind.i64.wrap (gd - ga)=gd - ga:=IntWalk.i64_in _ (by omega)
      have m1':wrap64 (gd - ga)=gd - ga:=w64_in (by omega) (by omega)
      have m2:IntKind.i64.wrap (x - z0)=x - z0:=IntWalk.i64_in _ (by omega)
      have m2':wrap64 (x - z0)=x - z0:=w64_in (by omega) (by omega)
      have m3:IntKind.i64.wrap (y0 - z0)=y0 - z0:=IntWalk.i64_in _ (by omega)
      have m3':wrap64 (y0 - z0)=y0 - z0:=w64_in (by omega) (by omega)
      have r1:I64 (gd - ga):=by unfold I64;omega
      have r2:I64 (x - z0):=by unfold I64;omega
      have r3:0<y0 - z0:=by omega
      have r3':y0 - z0≤9223372036854775807:=by omega
      have hm1:(i:Int) - 1=(m:Int):=by omega
      have m4:IntKind.i64.wrap (m:Int)=(m:Int):=IntWalk.i64_in _ (by omega)
      obtain ⟨da,hda⟩:=eX (gd - ga);obtain ⟨ds,hds⟩:=eX (x - z0);obtain ⟨dd,hdy⟩:=eX (y0 - z0);rw [hda] at m1 m1' r1 s1 s2 s3 HVAL;rw [hds] at m2 m2' r2 s1 s2 s3 HVAL;rw [hdy] at m3 m3' r3 r3' s2 s3 HVAL;obtain ⟨t1,x1,y1,hb1,ht1⟩:=times_fix da ds r1 r2;have ht2:=of_posfix dd r3 r3';obtain ⟨t3,x3,y3,t4,x4,y4,hb3,hb4,ht3⟩:=divide_fix hb1 s1 r3 (by omega)
      obtain ⟨t5,x5,y5,hb5,ht5⟩:=of_fix ga (by unfold I64;omega)
      have sa:S127 ga:=by unfold S127;omega
      obtain ⟨t6,x6,y6,hb6,ht6⟩:=plus_fix hb5 hb3 sa s2;obtain ⟨t7,x7,y7,hb7,ht7⟩:=plus_fix hb5 hb4 sa s3;have HT1:=hZ ht1;have HT2:=hZ ht2;have HT3:=hZ ht3;have HT5:=hZ ht5;have HT6:=hZ ht6;have HT7:=hZ ht7;have HB6:=hZ hb6;have HB7:=hZ hb7;clear ht1 ht2 ht3 ht5 ht6 ht7 hb1 hb3 hb4 hb5 hb6 hb7 s1 s2 s3 sa r1 r2 r3 r3' haa hdd hp hq hz0 him hlo hhi ha1 ha2 hv1 hv2 HY0 HLS HPOS;go_upto_region 7 with (fail);refine wrf [.p,.p,.p,.p,.p,.p,.p,.p,.p,.a 0,.a 1,.c 0,.c 1] [11,12] [(9,237,fun k=>(if k≤0 then iC [0,0,0] else iC [z0,pl,ph])),(10,237,fun k=>(if k≤1 then iC [0,0,0] else iC [y0,ql,qh]))] (fun _=>[]) (fun _=>_) (fun ix u _=>match ix with
          | 0=>u=.slice (some ⟨b,off,none⟩) n c
          | 1=>u=.int .i64 (i:Int)
          | 2=>u=.int .i64 (m:Int)
          | 3=>u=.pointer (some ⟨b,off+m * 3,none⟩)
          | 4=>u=.agg #[z0,pl,ph]
          | 5=>u=.slice (some ⟨b,off,none⟩) n c
          | 6=>u=.int .i64 (i:Int)
          | 7=>u=.pointer (some ⟨b,off+i * 3,none⟩)
          | 8=>u=.agg #[y0,ql,qh]
          | 9=>u=.pointer (some ⟨gOf u,0,none⟩)
          | 10=>u=.pointer (some ⟨gOf u,0,none⟩)
          | _=>True) [9,10] HF.out ?_ ?_
      ·refine ⟨?_,?_,?_,?_,?_,?_,?_,?_,?_,?_,?_,?_,?_,trivial⟩
       all_goals intro a w1 vs dn k K S hpre KE DE kk
       ·have e0:=KE 0;go_simp;exact kk _ _
       ·have e8:=KE 8;go_simp;exact kk _ _
       ·have e61:=dep (DE 1 61);go_simp;exact kk _ _
       ·have e60:=dep (DE 0 60);have e62:=dep (DE 2 62);go_simp;exact kk _ _
       ·have e63:=dep (DE 3 63);have hfr:Fr w [] [] w1:=Fr.drop S.fr;exact wpo_loadS 237 (.tmp 63) rfl b (off+m * 3) (by simpa [Act.eval] using e63) #[z0,pl,ph] _ (HC1.out w1 hfr) u_237 rfl i_237 (kk _ _)
       ·have e0:=KE 0;go_simp;exact kk _ _
       ·have e8:=KE 8;go_simp;exact kk _ _
       ·have e65:=dep (DE 5 65);have e66:=dep (DE 6 66);go_simp;exact kk _ _
       ·have e67:=dep (DE 7 67);have hfr:Fr w [] [] w1:=Fr.drop S.fr;exact wpo_loadS 237 (.tmp 67) rfl b (off+i * 3) (by simpa [Act.eval] using e67) #[y0,ql,qh] _ (HC2.out w1 hfr) u_237 rfl i_237 (kk _ _)
       ·go_simp;exact kk _ _ (by simp) (by have h:=S.fr.alloc rfl 237 #[(0:Int),(0:Int),(0:Int)];show Fr _ _ (_ ++ [(_,237,if k≤0 then _ else _)]) _;rw [if_pos (S.hi 0 11 rfl rfl)];exact h) rfl
       ·go_simp;exact kk _ _ (by simp) (by have h:=S.fr.alloc rfl 237 #[(0:Int),(0:Int),(0:Int)];show Fr _ _ (_ ++ [(_,237,if k≤1 then _ else _)]) _;rw [if_pos (S.hi 1 12 rfl rfl)];exact h) rfl
       ·subst hpre;have e10:=dep (DE 9 10);have e64:=dep (DE 4 64);have HS:=Fr.done S.fr (by exact ⟨S.done 9 rfl,S.done 10 rfl,trivial⟩)
        exact oW (eT e10) (eT e64) (HS.get 2 rfl) i_237 fun w' hk ho=>kk _ _ (by simp) (Fr.undone (HS.only 2 rfl ho hk) (by exact ⟨S.done 9 rfl,S.done 10 rfl,trivial⟩)) trivial
       ·subst hpre;have e11:=dep (DE 10 11);have e68:=dep (DE 8 68);have HS:=Fr.done S.fr (by exact ⟨S.done 9 rfl,S.done 10 rfl,trivial⟩)
        exact oW (eT e11) (eT e68) (HS.get 3 rfl) i_237 fun w' hk ho=>kk _ _ (by simp) (Fr.undone (HS.only 3 rfl ho hk) (by exact ⟨S.done 9 rfl,S.done 10 rfl,trivial⟩)) trivial
      ·intro vs wf HFr HR;have HFr':Fr w [] [(qb,217,#[.bool false,.int .u64 0,.int .u64 0]),(qb+1,217,#[.bool false,.int .u64 0,.int .u64 0]),((gOf (vs 9)),237,iC [z0,pl,ph]),((gOf (vs 10)),237,iC [y0,ql,qh])] wf:=HFr;have v9:vs 9=.pointer (some ⟨(gOf (vs 9)),0,none⟩):=HR 9 _ rfl;have v10:vs 10=.pointer (some ⟨(gOf (vs 10)),0,none⟩):=HR 10 _ rfl;clear HFr HR;obtain ⟨g1_9,hg1_9⟩:=eX (gOf (vs 9));obtain ⟨g1_10,hg1_10⟩:=eX (gOf (vs 10));rw [hg1_9,hg1_10] at HFr';rw [hg1_9] at v9;rw [hg1_10] at v10;clear hg1_9 hg1_10;have HF1:=hZ HFr';clear HFr';simp only [putAll,Act.put,List.setIfInBounds_toArray,List.set_cons_zero,List.set_cons_succ];simp only [v9,v10];clear v9 v10;obtain ⟨w1,rfl⟩:∃ u:World,u=wf:=⟨_,rfl⟩;go_upto_region 8 with (fail);refine wr0 (rV [.func (.func fid) #[] #[],.pointer (some ⟨g1_9,1,none⟩),.agg #[pl,ph],.int .i64 ga,.func (.func fid) #[] #[],.pointer (some ⟨g1_10,1,none⟩),.agg #[ql,qh],.int .i64 gd,.int .i64 ga,.int .i64 gd]) HF1.out ?_ ?_
       ·refine ⟨?_,?_,?_,?_,?_,?_,?_,?_,?_,?_,trivial⟩
        all_goals intro a w1 vs dn k K S hpre KE DE kk
        ·have e2:=KE 2;go_simp;exact kk _ _
        ·have e10:=KE 10;go_simp;exact kk _ _
        ·exact oM (eT (dep (DE 1 70))) (S.fr.left.get 2 rfl) (kk _ _)
        ·have e69:=dep (DE 0 69);have e71:=dep (DE 2 71);exact wpo_callV fid (.tmp 69) _ _ rfl (by simpa [Act.eval] using e69) #[.agg #[pl,ph]] (by simp [Act.eval,e71]) hen
          ((HOa.out w1).mono fun e w' ⟨he,hb⟩=>⟨_,he,kk _ _ (by simp) hb⟩)
        ·have e2:=KE 2;go_simp;exact kk _ _
        ·have e11:=KE 11;go_simp;exact kk _ _
        ·exact oM (eT (dep (DE 5 74))) (S.fr.left.get 3 rfl) (kk _ _)
        ·have e73:=dep (DE 4 73);have e75:=dep (DE 6 75);exact wpo_callV fid (.tmp 73) _ _ rfl (by simpa [Act.eval] using e73) #[.agg #[ql,qh]] (by simp [Act.eval,e75]) hen
          ((HOb.out w1).mono fun e w' ⟨he,hb⟩=>⟨_,he,kk _ _ (by simp) hb⟩)
        ·have e72:=dep (DE 3 72);go_simp;exact kk _ _
        ·have e76:=dep (DE 7 76);go_simp;exact kk _ _
       ·intro vs w2 HFr HR;have v8:vs 8=.int .i64 ga:=HR 8 _ rfl;have v9:vs 9=.int .i64 gd:=HR 9 _ rfl;have HF2:=hZ HFr;clear HFr HR;simp only [putAll,Act.put,List.setIfInBounds_toArray,List.set_cons_zero,List.set_cons_succ,v8,v9];clear v8 v9;go_upto_region 9 with (fail);refine wrf [.p,.p,.p,.p,.p,.p,.p,.p,.p,.p,.p,.p,.p,.p,.p,.p,.p,.p,.c 0,.c 1] [18,19] [] (fun _=>[]) (fun k=>[(qb,217,(if k≤0 then #[.bool false,.int .u64 0,.int .u64 0] else #[.bool t3,.int .u64 x3,.int .u64 y3])),(qb+1,217,(if k≤1 then #[.bool false,.int .u64 0,.int .u64 0] else #[.bool t4,.int .u64 x4,.int .u64 y4])),(g1_9,237,iC [z0,pl,ph]),(g1_10,237,iC [y0,ql,qh])]) (rV [.int .i64 gd,.int .i64 ga,.int .i64 da,.int .i64 x,.pointer (some ⟨g1_9,0,none⟩),.int .i64 z0,.int .i64 ds,.agg #[.bool t1,.int .u64 x1,.int .u64 y1],.pointer (some ⟨g1_10,0,none⟩),.int .i64 y0,.pointer (some ⟨g1_9,0,none⟩),.int .i64 z0,.int .i64 dd,.agg #[.bool false,.int .u64 0,.int .u64 dd],.tuple #[.agg #[.bool t3,.int .u64 x3,.int .u64 y3],.agg #[.bool t4,.int .u64 x4,.int .u64 y4]],.tuple #[.agg #[.bool t3,.int .u64 x3,.int .u64 y3],.agg #[.bool t4,.int .u64 x4,.int .u64 y4]],.agg #[.bool t3,.int .u64 x3,.int .u64 y3],.agg #[.bool t4,.int .u64 x4,.int .u64 y4]]) [] HF2.out ?_ ?_
        ·refine ⟨?_,?_,?_,?_,?_,?_,?_,?_,?_,?_,?_,?_,?_,?_,?_,?_,?_,?_,?_,?_,trivial⟩
         all_goals intro a w1 vs dn k K S hpre KE DE kk
         ·have e13:=KE 13;go_simp;exact kk _ _
         ·have e12:=KE 12;go_simp;exact kk _ _
         ·have e78:=dep (DE 0 78);have e79:=dep (DE 1 79);go_simp;exact kk _ _
         ·have e1:=KE 1;go_simp;exact kk _ _
         ·have e10:=KE 10;go_simp;exact kk _ _
         ·have e82:=dep (DE 4 82);have ca:w1.cell? ⟨g1_9,0,none⟩=some (.int .i64 z0):=(S.fr.left.get 2 rfl).cell 0;go_simp;exact kk _ _
         ·have e81:=dep (DE 3 81);have e83:=dep (DE 5 83);go_simp;exact kk _ _
         ·have e80:=dep (DE 2 80);have e84:=dep (DE 6 84);exact oE rfl (HT1.out w1) (by simp [Act.eval,e80,e84]) @kk
         ·have e11:=KE 11;go_simp;exact kk _ _
         ·have e86:=dep (DE 8 86);have ca:w1.cell? ⟨g1_10,0,none⟩=some (.int .i64 y0):=(S.fr.left.get 3 rfl).cell 0;go_simp;exact kk _ _
         ·have e10:=KE 10;go_simp;exact kk _ _
         ·have e88:=dep (DE 10 88);have ca:w1.cell? ⟨g1_9,0,none⟩=some (.int .i64 z0):=(S.fr.left.get 2 rfl).cell 0;go_simp;exact kk _ _
         ·have e87:=dep (DE 9 87);have e89:=dep (DE 11 89);go_simp;exact kk _ _
         ·have e90:=dep (DE 12 90);exact oE rfl (HT2.out w1) (by simp [Act.eval,e90]) @kk
         ·have e85:=dep (DE 7 85);have e91:=dep (DE 13 91);exact oE rfl (HT3.out w1) (by simp [Act.eval,e85,e91]) @kk
         ·have e92:=dep (DE 14 92);go_simp;exact kk _ _
         ·have e77:=dep (DE 15 77);go_simp;exact kk _ _
         ·have e77:=dep (DE 15 77);go_simp;exact kk _ _
         ·subst hpre;exact oW (eT (KE 6)) (eT (dep (DE 16 93))) (gI (S.hi 0 18 rfl rfl) (S.fr.left.get 0 rfl)) i_big fun w' hk ho=>kk _ _ (by simp) (Fr.stage (S.fr.only 0 rfl ho hk) (by exact trivial))
         ·subst hpre;exact oW (eT (KE 7)) (eT (dep (DE 17 94))) (gI (S.hi 1 19 rfl rfl) (S.fr.left.get 1 rfl)) i_big fun w' hk ho=>kk _ _ (by simp) (Fr.stage (S.fr.only 1 rfl ho hk) (by exact trivial))
        ·intro vs w3 HFr HR;have HF3:=fW HFr;clear HFr HR;simp only [putAll,Act.put,List.setIfInBounds_toArray,List.set_cons_zero,List.set_cons_succ];go_upto_region 10 with (fail);refine wrf [.p,.p,.p,.p,.p,.p,.p,.p,.c 0,.c 1] [8,9] [] (fun _=>[]) (fun k=>[(qb,217,(if k≤0 then #[.bool t3,.int .u64 x3,.int .u64 y3] else #[.bool t6,.int .u64 x6,.int .u64 y6])),(qb+1,217,(if k≤1 then #[.bool t4,.int .u64 x4,.int .u64 y4] else #[.bool t7,.int .u64 x7,.int .u64 y7])),(g1_9,237,iC [z0,pl,ph]),(g1_10,237,iC [y0,ql,qh])]) (rV [.int .i64 ga,.agg #[.bool t5,.int .u64 x5,.int .u64 y5],.agg #[.bool t3,.int .u64 x3,.int .u64 y3],.agg #[.bool t6,.int .u64 x6,.int .u64 y6],.int .i64 ga,.agg #[.bool t5,.int .u64 x5,.int .u64 y5],.agg #[.bool t4,.int .u64 x4,.int .u64 y4],.agg #[.bool t7,.int .u64 x7,.int .u64 y7]]) [] HF3.out ?_ ?_
         ·refine ⟨?_,?_,?_,?_,?_,?_,?_,?_,?_,?_,trivial⟩
          all_goals intro a w1 vs dn k K S hpre KE DE kk
          ·have e12:=KE 12;go_simp;exact kk _ _
          ·have e95:=dep (DE 0 95);exact oE rfl (HT5.out w1) (by simp [Act.eval,e95]) @kk
          ·exact oL (eT (KE 6)) (gI (S.hi 0 8 rfl rfl) (S.fr.left.get 0 rfl)) u_big (kk _ _) i_big
          ·have e96:=dep (DE 1 96);have e97:=dep (DE 2 97);exact oE rfl (HT6.out w1) (by simp [Act.eval,e96,e97]) @kk
          ·have e12:=KE 12;go_simp;exact kk _ _
          ·have e99:=dep (DE 4 99);exact oE rfl (HT5.out w1) (by simp [Act.eval,e99]) @kk
          ·exact oL (eT (KE 7)) (gI (S.hi 1 9 rfl rfl) (S.fr.left.get 1 rfl)) u_big (kk _ _) i_big
          ·have e100:=dep (DE 5 100);have e101:=dep (DE 6 101);exact oE rfl (HT7.out w1) (by simp [Act.eval,e100,e101]) @kk
          ·subst hpre;exact oW (eT (KE 6)) (eT (dep (DE 3 98))) (gI (S.hi 0 8 rfl rfl) (S.fr.left.get 0 rfl)) i_big fun w' hk ho=>kk _ _ (by simp) (Fr.stage (S.fr.only 0 rfl ho hk) (by exact trivial))
          ·subst hpre;exact oW (eT (KE 7)) (eT (dep (DE 7 102))) (gI (S.hi 1 9 rfl rfl) (S.fr.left.get 1 rfl)) i_big fun w' hk ho=>kk _ _ (by simp) (Fr.stage (S.fr.only 1 rfl ho hk) (by exact trivial))
         ·intro vs w4 HFr HR;have HF4:=fW HFr;clear HFr HR;simp only [putAll,Act.put,List.setIfInBounds_toArray,List.set_cons_zero,List.set_cons_succ];go_wp2_with fail
          exact ret_big2 rfl rfl rfl rfl (HF4.out.get 0 rfl) (HF4.out.get 1 rfl) (HFIN.out _ _ _ _ _ _ _ _ _ HVAL.out.1 HVAL.out.2 HB6.out HB7.out HF4.out.drop)
  ·obtain rfl:i=n:=by omega
   have HPOS:Hid (posN v x i=i):=hZ (pos_eq hi HLS.out fun h=>absurd h (Nat.lt_irrefl _));have hki:¬ (i:Int)<(i:Int):=by omega
   have hi0i:¬ ((i:Int)=0):=by omega
   have hi0b:((i:Int) == 0)=false:=by simp;omega
   have hmin:min (i:Int) ((i:Int) - 1)=((i - 1:Nat):Int):=by omega
   have hkn:i - 1<i:=by omega
   obtain ⟨_,_,hcs⟩:=HL.out.cells rfl hkn HF.out;have hvk:=HV.out _ hkn;have HVAL:=hZ ((show valD f v i x=f (v (i - 1)).value∧valU f v i x=f (v (i - 1)).value from by have:=val_node (f:=f) HPOS.out (.inr (.inl rfl));rwa [show min i (i - 1)=i - 1 by omega] at this))
   obtain ⟨⟨sl,sh⟩,hsv⟩:=eX ((v (i - 1)).value);rw [hsv] at hcs hvk HVAL;obtain ⟨y,hy⟩:=eX (f ⟨sl,sh⟩);have HOQ:=fun w=>HOP.out ⟨sl,sh⟩ w;rw [hy] at hvk HVAL HOQ;unfold spanV at HOQ;dsimp only at hcs HOQ;replace HOQ:=hZ HOQ;have HCS:=hZ hcs;obtain ⟨t1,x1,y1,hb1,hof⟩:=of_fix y (by unfold I64;omega)
   have HOF:=hZ hof;have HB1:=hZ hb1;clear hof hb1 hcs hsv hy hvk;go_wp2_with (first
     | (refine wpLoadAt rfl 31 _ rfl b (off+(i - 1) * 3+1) rfl #[sl,sh] _ HCS.out u_span rfl i_span ?_)
     | (refine wpCallV rfl fid  _ _ _ rfl rfl #[.agg #[sl,sh]] rfl hen ?_))
   refine mB HF.out (HOQ.out _) fun w1 HF2=>?_;go_wp2_with fail
   refine mB HF2.out (HOF.out _) fun w3 HF4=>?_;obtain ⟨g5,w5,hg5,hw5,HF6⟩:=fA HF4.out #[.bool false,.int .u64 0,.int .u64 0] 217;go_upto_region 6 with (refine sW 2 HF6.out i_big fun w7 HF8=>?_;clear hw5 hg5)
   refine wrf [.p,.p,.c 0,.c 1] [2,3] [] (fun _=>[]) (fun k=>[(qb,217,(if k≤0 then #[.bool false,.int .u64 0,.int .u64 0] else #[.bool t1,.int .u64 x1,.int .u64 y1])),(qb+1,217,(if k≤1 then #[.bool false,.int .u64 0,.int .u64 0] else #[.bool t1,.int .u64 x1,.int .u64 y1])),(g5,217,#[.bool t1,.int .u64 x1,.int .u64 y1])]) (rV [.agg #[.bool t1,.int .u64 x1,.int .u64 y1],.agg #[.bool t1,.int .u64 x1,.int .u64 y1]]) [] HF8.out ?_ ?_
   ·refine ⟨?_,?_,?_,?_,trivial⟩
    all_goals intro a w1 vs dn k K S hpre KE DE kk
    ·exact oL (eT (KE 9)) (S.fr.left.get 2 rfl) u_big (kk _ _) i_big
    ·exact oL (eT (KE 9)) (S.fr.left.get 2 rfl) u_big (kk _ _) i_big
    ·subst hpre;exact oW (eT (KE 6)) (eT (dep (DE 0 58))) (gI (S.hi 0 2 rfl rfl) (S.fr.left.get 0 rfl)) i_big fun w' hk ho=>kk _ _ (by simp) (Fr.stage (S.fr.only 0 rfl ho hk) (by exact trivial))
    ·subst hpre;exact oW (eT (KE 7)) (eT (dep (DE 1 59))) (gI (S.hi 1 3 rfl rfl) (S.fr.left.get 1 rfl)) i_big fun w' hk ho=>kk _ _ (by simp) (Fr.stage (S.fr.only 1 rfl ho hk) (by exact trivial))
   ·intro vs w9 HFr HR;have HF9:=fW HFr;clear HFr HR;simp only [putAll,Act.put,List.setIfInBounds_toArray,List.set_cons_zero,List.set_cons_succ];go_wp2_with fail
    exact ret_big2 rfl rfl rfl rfl (HF9.out.get 0 rfl) (HF9.out.get 1 rfl) (HFIN.out _ _ _ _ _ _ _ _ _ HVAL.out.1 HVAL.out.2 HB1.out HB1.out HF9.out.drop)
end Go.Proofs.YtmkoegljnebdiaaGreat
