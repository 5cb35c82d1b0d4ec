/- What is proved: the texts Be Bf, one behind the other; each says at its head what it proves, and under which conditions. -/
import Derived.Laws.StructEq
import Derived.Test.YtcnjenlojnognaaGreatg18
/- What is proved: how long a plan's lists are: by the form's reach, and where Long says no. Conditions: those that each lemma states. -/
namespace Go.Proofs.YtcnjenlojnognaaGreat
open Go.ChangeShapes Go.WideShapes Go.ChangeAt Go.RowKit

section
variable {H:Type} {enc:TypeId × Value→H} {w:World} {cs:List Value} {base:Nat} {v:Value}
theorem rwInts2 (h:RdW enc Tryz.prog w 48 cs):∃ (A:Option Addr) (c:Nat) (l:List Int),cs=[.slice A l.length c]∧IntsAt w w.heap.size A l∧l.length≤1125899906842624:=by
 obtain ⟨A,c,l,e,hq,hs,hb⟩:=h.list (fun (n:Int) _=>Value.int .i64 n) Wd 0 (e:=3) (by kernel_rfl) cells_int (by omega) (fun l hl hr=>by
  obtain ⟨n,e,hw⟩:=hr.rd.int und_int
  refine ⟨n,i64_bd hw,fun j hj=>?_⟩
  obtain rfl:j=0:=by omega
  rw [e];rfl)
 refine ⟨A,c,l,e,hs,?_⟩
 have h8:Tryz.prog.bytesOf 3=8:=by kernel_rfl
 rw [h8] at hb
 have hr:reachBytes≤9007199254740992:=by decide
 omega
theorem rwLaunch2 (h:RdW enc Tryz.prog w 52 cs):∃ y:Option Addr × Nat × LaunchD,(IntsAt w w.heap.size y.1 y.2.2.cargos∧y.2.2.cargos.length≤1125899906842624)∧∀ j,j<4→cs[j]?=some (launch1C y j):=by
 obtain ⟨_,h2⟩:=h.fields (l:=[(3,0),(3,1),(3,2),(48,3)]) und_launchS (by kernel_rfl)
 obtain ⟨a,e0,_⟩:=rwInt (h2 (3,0) (by simp))
 obtain ⟨b,e1,_⟩:=rwInt (h2 (3,1) (by simp))
 obtain ⟨c,e2,_⟩:=rwInt (h2 (3,2) (by simp))
 obtain ⟨A,n,l,e3,hl,hb⟩:=rwInts2 (h2 (48,3) (by simp))
 rw [cells_ints] at e3
 refine ⟨⟨A,n,⟨a,b,c,l⟩⟩,⟨hl,hb⟩,fun j hj=>?_⟩
 match j,hj with
 | 0,_=>exact e0
 | 1,_=>exact e1
 | 2,_=>exact e2
 | 3,_=>exact row_get e3
theorem rwPlan2 (h:RdW enc Tryz.prog w 27 cs):∃ (A:Option Addr) (c:Nat) (l:List LaunchD),cs=[.slice A l.length c]∧PlanAt w w.heap.size A l∧∀ x ∈ l,x.cargos.length≤1125899906842624:=by
 obtain ⟨A,c,l,e,hq,hs,_⟩:=h.list launch1C (fun y=>IntsAt w w.heap.size y.1 y.2.2.cargos∧y.2.2.cargos.length≤1125899906842624) (none,0,launch0) (e:=52) (by kernel_rfl) (k:=4) (by kernel_rfl) (by omega) (fun l _ hr=>rwLaunch2 hr)
 refine ⟨A,c,l.map (·.2.2),by rw [List.length_map];exact e,⟨⟨fun i=>(l.getD i (none,0,launch0)).1,fun i=>(l.getD i (none,0,launch0)).2.1,?_,fun i hi=>?_⟩⟩,fun x hx=>?_⟩
 ·rw [List.length_map]
  refine Sl.congr hs fun i hi j hj=>?_
  show launch1C _ j=launchR _ _ _ j
  unfold launch1C
  rw [map_getD l (·.2.2) i (none,0,launch0) launch0 hi]
 ·rw [List.length_map] at hi
  rw [map_getD l (·.2.2) i (none,0,launch0) launch0 hi]
  exact (hq _ (getD_mem hi)).1
 ·obtain ⟨y,hy,rfl⟩:=List.mem_map.1 hx
  exact (hq y hy).2
set_option maxRecDepth 100000 in
theorem arg_plan2 (ho:Value.okWide Tryz.prog w .any base 27 v) (h:RdW enc Tryz.prog w 27 v.cells.toList) :
  ∃ (A:Option Addr) (c:Nat) (l:List LaunchD),v=.slice A l.length c∧PlanAt w w.heap.size A l∧l.length≤c∧∀ x ∈ l,x.cargos.length≤1125899906842624:=by
 obtain ⟨A,c,l,e,hs,hb⟩:=rwPlan2 h
 have hc:l.length≤c:=RdW.cap (t:=27) (e:=52) (by rw [← e];exact h) (by kernel_rfl)
 exact ⟨A,c,l,okWide_sl (P:=Tryz.prog) (t:=27) (e:=52) (by kernel_rfl) ho _ e,hs,hc,hb⟩
end
def lensL (l:List LaunchD) (k:Nat):Nat:=((l.take k).map fun x=>x.cargos.length).sum
theorem lensL_succ {l:List LaunchD} {k:Nat} (h:k<l.length):lensL l (k+1)=lensL l k+(l.getD k launch0).cargos.length:=by
 unfold lensL
 rw [take_snocL l k h,List.map_append,List.sum_append];simp
theorem lensL_bd {l:List LaunchD} (h:∀ x ∈ l,x.cargos.length≤1125899906842624):∀ k,k≤l.length→lensL l k≤k * 1125899906842624
 | 0,_=>by unfold lensL;simp
 | k+1,hk=>by
  rw [lensL_succ (by omega)]
  have h1:=lensL_bd h k (by omega)
  have h2:=h (l.getD k launch0) (by rw [List.getD_eq_getElem?_getD,List.getElem?_eq_getElem (by omega:k<l.length)];exact List.getElem_mem _)
  omega
theorem lens_one:∀ {l:List LaunchD} {x:LaunchD},x ∈ l→x.cargos.length≤(l.map fun x=>x.cargos.length).sum
 | y :: l,x,h=>by
  rw [List.map_cons,List.sum_cons]
  rcases List.mem_cons.1 h with e | e
  ·subst e;omega
  ·have:=lens_one e;omega
def LongPost2 (l:List LaunchD) (w:World) (e:Ending) (w':World):Prop:=∃ b,e=.returned (.bool b)∧Below w.heap.size w w'∧(b=false→l.length≤20∧∀ x ∈ l,x.cargos.length≤100)
set_option maxRecDepth 100000 in
set_option maxHeartbeats 8000000 in
theorem long2_any (w:World) (A:Option Addr) (c:Nat) (l:List LaunchD) (h:PlanAt w w.heap.size A l) (hx:∀ x ∈ l,x.cargos.length≤1125899906842624) :
  Calls Tryz.prog 14 #[.slice A l.length c] w (LongPost2 l w):=by
 have hll:=h.len
 have HP:=Lib.hid h
 have HX:=Lib.hid hx
 obtain ⟨n,hn⟩:∃ n,l.length=n:=⟨_,rfl⟩
 have HN:=Lib.hid hn
 obtain ⟨PQ,hPQ⟩:∃ Q,LongPost2 l w=Q:=⟨_,rfl⟩
 have HYES:Hid (PQ (.returned (.bool true)) w):=Lib.hid (by rw [← hPQ];exact ⟨true,rfl,Below.refl _ _,fun e=>by cases e⟩)
 have HNO:Hid (n≤20→∀ z:Int,z=(lensL l n:Nat)→PQ (.returned (.bool (decide (100<z)))) w):=Lib.hid fun h20 z hz=>by
  rw [← hPQ]
  refine ⟨_,rfl,Below.refl _ _,fun e=>⟨by rw [hn];exact h20,fun x hx=>?_⟩⟩
  have h1:=lens_one hx
  have h2:lensL l n=(l.map fun x=>x.cargos.length).sum:=by unfold lensL;rw [List.take_of_length_le (by rw [hn];exact Nat.le_refl n)]
  have h3:¬ 100<z:=of_decide_eq_false e
  rw [h2] at hz
  omega
 rw [hn] at hll ⊢
 rw [hPQ]
 clear h hn hPQ hx
 go_enter Tryz.func14,Tryz.ntmps14
 go_wp2_with fail
 go_loopw [3,4] (fun v i wr=>wr=w∧∃ (k:Nat) (x:Int),k≤n∧k≤20∧i=.int .i64 k∧v=.int .i64 x∧Hid (x=(lensL l k:Nat))) (fun _ i _=>n - (intOf i).toNat)
 case atStart=>exact ⟨rfl,0,0,Nat.zero_le _,Nat.zero_le _,rfl,rfl,Lib.hid (by unfold lensL;simp)⟩
 case round =>
  obtain ⟨rfl,k,x,hk,hk20,rfl,rfl,HS⟩:=hrel
  have h0k:(0:Int)≤(k:Int):=by omega
  by_cases hlt:k<n
  case pos =>
   have hki:(k:Int)<(n:Int):=by omega
   by_cases hl20:k<20
   case pos =>
    have hl20i:(k:Int)<20:=by omega
    have hkl:k<l.length:=by rw [HN.out];exact hlt
    obtain ⟨b,off,P,Q,rfl,_,hc,_⟩:=HP.out.at hkl
    obtain ⟨nx,hnx⟩:∃ m,(l.getD k launch0).cargos.length=m:=⟨_,rfl⟩
    have d3:wr.cell? ⟨b,off+k * 4+3,none⟩=some (.slice P nx Q):=by rw [← hnx];exact hc 3 _ rfl
    have hb1:nx≤1125899906842624:=by rw [← hnx];exact HX.out _ (by rw [List.getD_eq_getElem?_getD,List.getElem?_eq_getElem hkl];exact List.getElem_mem _)
    have hb2:0≤x∧x≤22517998136852480:=by
     have h1:=lensL_bd HX.out k (by omega)
     have h2:=HS.out
     have h3:k * 1125899906842624≤20 * 1125899906842624:=Nat.mul_le_mul_right _ (by omega)
     omega
    have hws:IntKind.i64.wrap (x+(nx:Int))=x+(nx:Int):=IntWalk.i64_in _ (by omega)
    have HS2:Hid (x+(nx:Int)=(lensL l (k+1):Nat)):=Lib.hid (by rw [lensL_succ hkl,hnx,HS.out];omega)
    clear hc hnx hkl
    go_wp2_with fail
    go_roundw
    case rel=>first | exact ⟨trivial,k+1,_,by omega,by omega,by go_num,rfl,HS2⟩ | exact ⟨rfl,k+1,_,by omega,by omega,by go_num,rfl,HS2⟩ | ((repeat apply Exists.intro);exact ⟨⟨trivial,k+1,_,by omega,by omega,by go_num,rfl,HS2⟩,rfl⟩)
    case measure=>simp [intOf];omega
   case neg =>
    have hl20i:¬ (k:Int)<20:=by omega
    have hgt:(20:Int)<(n:Int):=by omega
    go_wp2_with fail
    first | exact HYES.out | (go_ret;exact HYES.out)
  case neg =>
   obtain rfl:k=n:=by omega
   have hki:¬ (k:Int)<(k:Int):=by omega
   have hgt:¬ (20:Int)<(k:Int):=by omega
   have hgd:decide ((20:Int)<(k:Int))=false:=decide_eq_false hgt
   have HF:=Lib.hid (HNO.out hk20 x HS.out)
   go_wp2_with fail
   first | exact HF.out | (go_ret;exact HF.out)
end Go.Proofs.YtcnjenlojnognaaGreat
/- What is proved: a list of launches that is written over; one launch pushed behind others; a cargo is itself. Conditions: those that each lemma states. -/
namespace Go.Proofs.YtcnjenlojnognaaGreat
open Go.RowKit

theorem bk_two {w:World} {g:Nat} {T T':TypeId} {cs cs':Array Value} (h:Bk w g T cs) (h':Bk w g T' cs'):T=T':=by
 unfold Bk at h h'
 rw [h] at h'
 injection h' with h'
 injection h' with _ h' _
/-- A list of launches (block g) that is written over: where its cargos lie. -/
structure MutR (wd:World) (g n:Nat) (P:Nat→Option Addr) (len Q:Nat→Nat) (w:World):Prop where
 bel:Below wd.heap.size wd w
 row:0<n→wd.heap.size≤g∧∃ cur,Bk w g 52 cur∧∀ i,i<n→(∃ u,cur[i * 4]?=some u)∧cur[i * 4+3]?=some (.slice (P i) (len i) (Q i))
 ints:∀ i,i<n→0<len i→∃ gi cur,P i=some ⟨gi,0,none⟩∧wd.heap.size≤gi∧Bk w gi 3 cur∧len i≤cur.size
section
variable {wd w:World} {g n:Nat} {P:Nat→Option Addr} {len Q:Nat→Nat}
theorem MutR.slice (h:MutR wd g n P len Q w) {i:Nat} (hi:i<n):w.cell? ⟨g,i * 4+3,none⟩=some (.slice (P i) (len i) (Q i)):=by
 obtain ⟨_,cur,hb,hc⟩:=h.row (by omega)
 rw [hb.cell];exact (hc i hi).2
theorem MutR.day (h:MutR wd g n P len Q w) {i:Nat} (hi:i<n):(∃ u,w.cell? ⟨g,i * 4,none⟩=some u)∧w.frozen? ⟨g,i * 4,none⟩=false:=by
 obtain ⟨_,cur,hb,hc⟩:=h.row (by omega)
 refine ⟨?_,hb.free _⟩
 rw [hb.cell];exact (hc i hi).1
theorem MutR.int (h:MutR wd g n P len Q w) {i k:Nat} (hi:i<n) (hk:k<len i):∃ gi,P i=some ⟨gi,0,none⟩∧(∃ u,w.cell? ⟨gi,k,none⟩=some u)∧w.frozen? ⟨gi,k,none⟩=false:=by
 obtain ⟨gi,cur,h1,_,hb,h3⟩:=h.ints i hi (by omega)
 refine ⟨gi,h1,?_,hb.free _⟩
 rw [hb.cell]
 exact ⟨cur[k]'(by omega),Array.getElem?_eq_getElem (by omega)⟩
theorem MutR.setDay (h:MutR wd g n P len Q w) {i:Nat} (hi:i<n) (v:Value):MutR wd g n P len Q (w.setCell ⟨g,i * 4,none⟩ v):=by
 obtain ⟨h0,cur,hb,hc⟩:=h.row (by omega)
 refine ⟨h.bel.setCell (p:=⟨g,i * 4,none⟩) h0 _,fun _=>⟨h0,_,hb.set _ _,fun j hj=>?_⟩,fun j hj h1=>?_⟩
 ·obtain ⟨⟨u,h2⟩,h3⟩:=hc j hj
  have hsz:i * 4<cur.size:=by obtain ⟨u',h4⟩:=(hc i hi).1;exact (Array.getElem?_eq_some_iff.1 h4).1
  rw [Array.getElem?_setIfInBounds,Array.getElem?_setIfInBounds]
  refine ⟨?_,by rw [if_neg (by omega)];exact h3⟩
  by_cases e:i * 4=j * 4
  ·rw [if_pos e,if_pos hsz];exact ⟨v,rfl⟩
  ·rw [if_neg e];exact ⟨u,h2⟩
 ·obtain ⟨gj,cj,a1,a2,a3,a4⟩:=h.ints j hj h1
  refine ⟨gj,cj,a1,a2,a3.far (p:=⟨g,i * 4,none⟩) (fun e=>?_) _,a4⟩
  have e2:gj=g:=e
  subst e2
  exact absurd (bk_two a3 hb) (by decide)
theorem MutR.setInt (h:MutR wd g n P len Q w) {i k gi:Nat} (hi:i<n) (hk:k<len i) (hp:P i=some ⟨gi,0,none⟩) (v:Value):MutR wd g n P len Q (w.setCell ⟨gi,k,none⟩ v):=by
 obtain ⟨gi',ci,b1,b2,b3,b4⟩:=h.ints i hi (by omega)
 rw [hp] at b1
 injection b1 with b1
 injection b1 with b1
 subst b1
 obtain ⟨h0,cur,hb,hc⟩:=h.row (by omega)
 refine ⟨h.bel.setCell (p:=⟨gi,k,none⟩) b2 _,fun _=>⟨h0,cur,hb.far (p:=⟨gi,k,none⟩) (fun e=>?_) _,hc⟩,fun j hj h1=>?_⟩
 ·have e2:g=gi:=e
  subst e2
  exact absurd (bk_two hb b3) (by decide)
 ·obtain ⟨gj,cj,a1,a2,a3,a4⟩:=h.ints j hj h1
  by_cases e:gj=gi
  ·subst e
   exact ⟨gj,_,a1,a2,a3.set k v,by rw [Array.size_setIfInBounds];exact a4⟩
  ·exact ⟨gj,cj,a1,a2,a3.far (p:=⟨gi,k,none⟩) e _,a4⟩
end
theorem PlanO.mut {wd w:World} {B:Nat} {A:Option Addr} {L:List LaunchD} (h:PlanO w B A L) (hB:wd.heap.size≤B) (hb:Below wd.heap.size wd w):∃ g P Q,(0<L.length→A=some ⟨g,0,none⟩)∧MutR wd g L.length P (fun i=>(L.getD i launch0).cargos.length) Q w:=by
 by_cases h0:0<L.length
 ·obtain ⟨g,cur,P,Q,rfl,hr⟩:=h.rows h0
  refine ⟨g,P,Q,fun _=>rfl,hb,fun _=>⟨by have:=hr.lo;omega,cur,hr.bk,fun i hi=>⟨⟨_,hr.row i hi 0 (by omega)⟩,hr.row i hi 3 (by omega)⟩⟩,fun i hi h1=>?_⟩
  obtain ⟨gi,ci,e,h2,h3,h4⟩:=(hr.ints i hi).2 h1
  refine ⟨gi,ci,e,by omega,h3,?_⟩
  have h5:=(Array.getElem?_eq_some_iff.1 (h4 ((L.getD i launch0).cargos.length - 1) (by omega) 0 (by omega))).1
  omega
 ·exact ⟨0,fun _=>none,fun _=>0,fun h=>absurd h h0,hb,fun h=>absurd h h0,fun i hi=>absurd hi (by omega)⟩
set_option maxRecDepth 100000 in
theorem run_pushL {w:World} {B:Nat} {v:Value} {l:List LaunchD} {P:Nat→Option Addr} {Q:Nat→Nat} (hv:OwnL w B v l P Q) (b c:Nat) (x:LaunchD) (A:Option Addr) (cl:Nat) (hc:Bk w b 52 (launchA x A cl)) (hi:IntsO w B A x.cargos) (hl:l.length≤4096) (hB:B≤w.heap.size) (ty:TypeId) :
  ∃ v' w' P' Q',(Builtin.append_ #[27,27] ty #[v,.slice (some ⟨b,0,none⟩) 1 c]).run Tryz.prog w=.ok v' w'∧OwnL w' B v' (l ++ [x]) P' Q'∧Below B w w':=by
 obtain ⟨i0,hi0,hz0,hz1,hz2⟩:=info_parts infoL
 obtain ⟨v',w',hr,a1,a2,_⟩:=run_append_own (P:=Tryz.prog) w B 27 ty 52 i0 _ 4 48 Tryz.underlying27 hi0 hz0 hz1 hz2 rfl (by decide) v l.length _ hv.row ⟨b,0,none⟩ 1 c (launchA x A cl).toList rfl (fun j u hj=>by
  rw [Addr.add_lit,Nat.zero_add,hc.cell];simpa using hj) (launchA_one _ _ _) (by unfold maxLen;omega) (by omega) hB
 refine ⟨v',w',_,_,hr,hv.push hi a2 a1,⟨a2.os,a2.tape,a2.output,a2.size,fun k hk=>a2.block k (by omega) ?_⟩⟩
 cases e:v.ownBlock with
 | none=>simp
 | some g=>have:=(World.ownsRow.lt hv.row g e).1;simp;omega
theorem wpList_pushL {ops:Array Oper} {rest:List Oper} {o:Oper} {a:Act} {w:World} {Q0:Exit→Act→World→Prop} (hgd:o.guard=none) (s y:Operand) (ho:o.op=.call { callee:=.builtin .append,args:=#[s,y],argTypes:=#[27,27] })
  {B:Nat} {v:Value} {l:List LaunchD} {P:Nat→Option Addr} {Q:Nat→Nat} (hs:a.eval s=v) (hv:OwnL w B v l P Q) (b c:Nat) (x:LaunchD) (A:Option Addr) (cl:Nat) (hx:a.eval y=.slice (some ⟨b,0,none⟩) 1 c) (hc:Bk w b 52 (launchA x A cl)) (hi:IntsO w B A x.cargos) (hl:l.length≤4096) (hB:B≤w.heap.size)
  (hK:∀ v' w' P' Q',OwnL w' B v' (l ++ [x]) P' Q'→Below B w w'→wpList Tryz.prog ops Q0 rest (a.put o.dst v') w'):wpList Tryz.prog ops Q0 (o :: rest) a w :=
 wpList_plain hgd fun _ hK'=>by
  obtain ⟨v',w',P',Q',hr,h1,h2⟩:=run_pushL hv b c x A cl hc hi hl hB o.type
  unfold Oper.wp execOp
  simp only [ho,resolve,invoke,builtin,Sem.run_bind,Sem.run_pure,Result.andThen_ok,List.map_toArray,List.map_cons,List.map_nil,hs,hx,hr]
  exact hK' _ _ (hK v' w' P' Q' h1 h2)
theorem eqCg (s:ByteArray) (a b c d:Int) (m:Bool) (w:World):(Op.equalIn 10000 54 (.agg #[.string s,.int .i64 a,.int .i64 b,.int .i64 c,.int .i64 d,.bool m]) (.agg #[.string s,.int .i64 a,.int .i64 b,.int .i64 c,.int .i64 d,.bool m])).run Tryz.prog w=.ok true w:=by
 rw [run_equalIn_struct w 9999 _ _ _ (by kernel_rfl) (by kernel_rfl)]
 go_simp
end Go.Proofs.YtcnjenlojnognaaGreat
