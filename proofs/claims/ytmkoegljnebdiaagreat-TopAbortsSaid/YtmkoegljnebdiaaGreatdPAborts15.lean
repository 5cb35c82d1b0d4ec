/- What is proved: the texts Set Mk Ml Mn Mo Oa Mp Oc Od Oe, one behind the other; each says at its head what it proves, and under which conditions. -/
import Derived.Maps.Keyed
import Derived.DeepKeys4
import Derived.Carry
import Derived.Test.YtmkoegljnebdiaaGreatdPAborts14
namespace Go.Proofs.YtmkoegljnebdiaaGreat
open Go.RowKit
set_option maxRecDepth 100000
set_option maxHeartbeats 16000000

theorem beq_bytes (s x:ByteArray):(s == x)=decide (s=x):=by
 show ByteArray.beq s x=_
 unfold ByteArray.beq;by_cases h:s=x
 ·subst h;simp
 ·have:s.data ≠ x.data:=fun e=>h (ByteArray.ext e)
  simp [h,this]
theorem run_getObj_map1 {P:Program} {w:World} {r:Nat} {es:Array MapEntry} {clock:Nat} (hb:w.heap[r]?=some (.map es clock)):(getObj r).run P w=.ok (.map es clock) w:=by
 simp [getObj,Sem.run,hb]
theorem run_setObj_map1 {P:Program} {w:World} {r:Nat} {es es':Array MapEntry} {clock clock':Nat} (hb:w.heap[r]?=some (.map es clock)):(setObj r (.map es' clock')).run P w=.ok () { w with heap:=w.heap.setIfInBounds r (.map es' clock') }:=by
 simp [setObj,Sem.run,hb]

def SetS (w:World) (b:Nat) (l:List ByteArray):Prop :=
 ∃ arr clock,w.heap[b]?=some (.map arr clock)∧arr.toList.map (fun e=>(e.key,e.val))=l.map fun s=>(Value.string s,Value.bool true)

theorem SetS.made (w:World):SetS (w.alloc (.map #[] 0)) w.heap.size []:=⟨#[],0,by rw [heap_alloc_new],rfl⟩
theorem SetS.keep {w w':World} {b:Nat} {l:List ByteArray} (h:SetS w b l) (hk:w'.heap[b]?=w.heap[b]?):SetS w' b l:=by
 obtain ⟨arr,clock,h1,h2⟩:=h;exact ⟨arr,clock,hk.trans h1,h2⟩
theorem SetS.lt {w:World} {b:Nat} {l:List ByteArray} (h:SetS w b l):b<w.heap.size:=by
 obtain ⟨arr,clock,h1,h2⟩:=h;rcases Nat.lt_or_ge b w.heap.size with h | h
 ·exact h
 ·simp [Array.getElem?_eq_none h] at h1
theorem SetS.alloc {w:World} {b:Nat} {l:List ByteArray} (h:SetS w b l) (o:Obj):SetS (w.alloc o) b l:=h.keep (Below.heap_alloc w o b h.lt)

theorem findNow_keys (s:ByteArray):∀ (es:List MapEntry) (l:List ByteArray) (i:Nat),es.map (fun e=>(e.key,e.val))=l.map (fun s=>(Value.string s,Value.bool true)) →
  (s ∉ l→Instr.findNow .string (.string s) es i=some none)∧(s ∈ l→∃ j,Instr.findNow .string (.string s) es i=some (some (j,.bool true)))
 | [],[],i,_=>⟨fun _=>rfl,fun h=>by cases h⟩
 | [],_ :: _,_,h=>by simp at h
 | _ :: _,[],_,h=>by simp at h
 | e :: es,x :: l,i,h=>by
  simp only [List.map_cons,List.cons.injEq,Prod.mk.injEq] at h;obtain ⟨⟨hk,hv⟩,ht⟩:=h;obtain ⟨h1,h2⟩:=findNow_keys s es l (i+1) ht;unfold Instr.findNow;by_cases hs:s=x
  ·subst hs;simp [hk,Instr.sameNow,hv,beq_bytes]
  ·have hb:(s == x)=false:=by rw [beq_bytes];simpa using hs
   simp only [hk,Instr.sameNow,hb];refine ⟨fun hm=>h1 (fun hc=>hm (List.mem_cons_of_mem _ hc)),fun hm=>h2 ?_⟩
   rcases List.mem_cons.1 hm with h | h
   ·exact absurd h hs
   ·exact h

section
variable {P:Program} {t k e:TypeId} (ht:P.underlying t=some (.map k e)) (hk:P.underlying k=some .string)

theorem run_checkKey_string (hk:P.underlying k=some .string) (em:Bool) (s:ByteArray) (w:World):(Instr.checkKey em 10000 k (.string s)).run P w=.ok () w:=by
 rw [show (10000:Nat)=9999+1 from rfl,Instr.checkKey]
 simp [run_underlying hk]

theorem SetS.lookup {w:World} {b:Nat} {l:List ByteArray} (h:SetS w b l) (ht:P.underlying t=some (.map k e)) (hk:P.underlying k=some .string)
  (hz:(zeroValue e).run P w=.ok (.bool false) w) (s:ByteArray):(Instr.lookup t (.map (some b)) (.string s) false).run P w=.ok (.bool (l.any fun x=>decide (x=s))) w:=by
 obtain ⟨arr,clock,h1,h2⟩:=h;obtain ⟨f1,f2⟩:=findNow_keys s arr.toList l 0 h2;have g:=run_getObj_map1 (P:=P) h1;by_cases hs:s ∈ l
 ·obtain ⟨j,hj⟩:=f2 hs;have:(l.any fun x=>decide (x=s))=true:=by simpa using hs
  rw [this];simp [Instr.lookup,run_underlying ht,run_checkKey_string hk,Instr.findKey,run_underlying hk,hj,g]
 ·have hj:=f1 hs;have:(l.any fun x=>decide (x=s))=false:=by rw [List.any_eq_false];intro x hx;simp;rintro rfl;exact hs hx
  rw [this];simp [Instr.lookup,run_underlying ht,run_checkKey_string hk,Instr.findKey,run_underlying hk,hj,g,hz]

end
end Go.Proofs.YtmkoegljnebdiaaGreat
namespace Go.Proofs.YtmkoegljnebdiaaGreat
open Go.RowKit Go.Maps
open Go.ChangeMaps (setBlock)
set_option maxRecDepth 100000
set_option maxHeartbeats 16000000

def pk (v:Int × Int):Value:=.agg #[.int .i64 v.1,.int .i64 v.2]
theorem pk_inj {a b:Int × Int} (h:pk a=pk b):a=b:=by
 unfold pk at h;simp only [Value.agg.injEq,Array.mk.injEq,List.cons.injEq,Value.int.injEq,true_and,and_true] at h;exact Prod.ext h.1 h.2
theorem laidOut:laidOutB Tryz.prog=true:=by kernel_rfl
theorem rowPlace:(141:TypeId)<Tryz.prog.types.size:=of_decide_eq_true (by kernel_rfl)
theorem widePlace:(match Tryz.prog.underlying 141 with | some (.array _ _) | some (.struct _)=>true | _=>false)=true:=by kernel_rfl
theorem placeK:Keyed Tryz.prog 141:=Keyed.of_law (deep_law_laid laidOut (m:=4) (by omega) rowPlace (by kernel_rfl) widePlace)
theorem cellsPlace:Tryz.prog.cellsOf 141=2:=by kernel_rfl
theorem cellsInt3:Tryz.prog.cellsOf 3=1:=by kernel_rfl
theorem sizeTypes:∃ d,Tryz.prog.types.size+1=d+1+1+1+1:=⟨Tryz.prog.types.size - 3,by
 have h:3≤Tryz.prog.types.size:=of_decide_eq_true (by kernel_rfl)
 omega⟩
theorem underlyingPlace : ∃ fs, Tryz.prog.underlying 141 = some (.struct fs) ∧ fs.all (·.name != "_") = true ∧ fs.toList.map (fun f => (f.type, f.offset)) = [(3, 0), (3, 1)] := ⟨(match Tryz.prog.underlying 141 with | some (.struct f) => f | _ => #[]), by kernel_rfl, by kernel_rfl, by kernel_rfl⟩
theorem keyTypePlace:Tryz.prog.keyType 141=true:=by kernel_rfl
theorem keyPlace (d:Nat) (x:Int × Int) (h1:(Lit.int .i64 x.1).wf=true) (h2:(Lit.int .i64 x.2).wf=true):Tryz.prog.keyLits (d+1+1) 141 [.int .i64 x.1,.int .i64 x.2]=some [.int .i64 x.1,.int .i64 x.2]:=by
 obtain ⟨fs,a1,a2,a3⟩:=underlyingPlace;have key:∀ (l:List Field),l.map (fun f=>(f.type,f.offset))=[(3,0),(3,1)]→l.mapM (fun f=>Tryz.prog.keyLits (d+1) f.type (([.int .i64 x.1,.int .i64 x.2]:List Value).drop f.offset |>.take (Tryz.prog.cellsOf f.type)))=some [[.int .i64 x.1],[.int .i64 x.2]]:=by
  intro l hl;rcases l with _ | ⟨f,_ | ⟨g,_ | ⟨g2,l⟩⟩⟩
  ·simp at hl
  ·simp at hl
  ·simp only [List.map_cons,List.map_nil,List.cons.injEq,Prod.mk.injEq,and_true] at hl;obtain ⟨⟨b1,b2⟩,c1,c2⟩:=hl;simp [b1,b2,c1,c2,cellsInt3,Program.keyLits,h1,h2]
  ·simp at hl
 unfold Program.keyLits;simp only [a1,List.length_cons,List.length_nil,cellsPlace,a2,and_self,if_true,key _ a3];rfl
def keyOk (v:Int × Int):Prop:=∃ l,keyOf Tryz.prog 141 (pk v)=some l
theorem keyOk_of {v:Int × Int} (h1:I64 v.1) (h2:I64 v.2):keyOk v:=by
 have e1:IntKind.i64.min=-9223372036854775808:=by decide
 have e2:IntKind.i64.max=9223372036854775807:=by decide
 have w1:(Lit.int .i64 v.1).wf=true:=by unfold I64 at h1;simp [Lit.wf,e1,e2];omega
 have w2:(Lit.int .i64 v.2).wf=true:=by unfold I64 at h2;simp [Lit.wf,e1,e2];omega
 obtain ⟨d,hd⟩:=sizeTypes;obtain ⟨fs,a1,a2,a3⟩:=underlyingPlace;have hf:(pk v).formed Tryz.prog 141=true:=by
  simp only [pk,Value.formed,a1,cellsPlace];rfl
 unfold keyOk keyOf;simp only [a1,keyTypePlace,hf,Bool.and_self,if_true,hd];rw [show (pk v).cells.toList=[.int .i64 v.1,.int .i64 v.2] from rfl,keyPlace (d+1+1) v w1 w2]
 exact ⟨_,rfl⟩
structure PMap (w:World) (b:Nat) (ks:List (Int × Int)) (F:Int × Int→Value):Prop where
 nodup:ks.Nodup
 key:∀ v ∈ ks,keyOk v
 obj:∃ arr clock,w.heap[b]?=some (.map arr clock)∧arr.toList.map (fun e=>(e.key,e.val))=ks.map (fun v=>(pk v,F v))∧(arr.toList.map (·.born)).Nodup∧∀ e ∈ arr.toList,e.born<clock
theorem PMap.made (w:World) (F:Int × Int→Value):PMap (w.alloc (.map #[] 0)) w.heap.size [] F:=⟨List.nodup_nil,(fun x h=>absurd h (by simp)),#[],0,by rw [heap_alloc_new],rfl,List.nodup_nil,fun e h=>absurd h (by simp)⟩
theorem PMap.keep {w w':World} {b:Nat} {ks:List (Int × Int)} {F:Int × Int→Value} (h:PMap w b ks F) (hk:w'.heap[b]?=w.heap[b]?):PMap w' b ks F:=by
 obtain ⟨h0,h1,arr,clock,h2,h3⟩:=h;exact ⟨h0,h1,arr,clock,hk.trans h2,h3⟩
theorem PMap.lt {w:World} {b:Nat} {ks:List (Int × Int)} {F:Int × Int→Value} (h:PMap w b ks F):b<w.heap.size:=by
 obtain ⟨_,_,arr,clock,h1,_⟩:=h;exact (Array.getElem?_eq_some_iff.1 h1).1
theorem PMap.below {w w':World} {b:Nat} {ks:List (Int × Int)} {F:Int × Int→Value} (h:PMap w b ks F) (hb:Below w.heap.size w w'):PMap w' b ks F:=h.keep (hb.block b h.lt)
theorem entry_of {arr:List MapEntry} {ks:List (Int × Int)} {F:Int × Int→Value} (h:arr.map (fun e=>(e.key,e.val))=ks.map (fun v=>(pk v,F v))) {j:Nat} {e:MapEntry} (he:arr[j]?=some e):∃ v,ks[j]?=some v∧e.key=pk v∧e.val=F v:=by
 have h1:(arr.map (fun e=>(e.key,e.val)))[j]?=(ks.map (fun v=>(pk v,F v)))[j]?:=by rw [h]
 rw [List.getElem?_map,List.getElem?_map,he] at h1;cases hk:ks[j]? with
 | none=>rw [hk] at h1;cases h1
 | some v =>
  rw [hk] at h1;simp only [Option.map_some,Option.some.injEq,Prod.mk.injEq] at h1;exact ⟨v,rfl,h1.1,h1.2⟩
theorem entry_mem {arr:List MapEntry} {ks:List (Int × Int)} {F:Int × Int→Value} (h:arr.map (fun e=>(e.key,e.val))=ks.map (fun v=>(pk v,F v))) {e:MapEntry} (he:e ∈ arr):∃ v ∈ ks,e.key=pk v∧e.val=F v:=by
 obtain ⟨j,hj⟩:=List.getElem?_of_mem he;obtain ⟨v,a,b,d⟩:=entry_of h hj;exact ⟨v,List.mem_of_getElem? a,b,d⟩
theorem PMap.find {w:World} {b:Nat} {ks:List (Int × Int)} {F:Int × Int→Value} (h:PMap w b ks F) {x:Int × Int} (hx:keyOk x) :
  ∃ arr clock,w.heap[b]?=some (.map arr clock)∧arr.toList.map (fun e=>(e.key,e.val))=ks.map (fun v=>(pk v,F v))∧(arr.toList.map (·.born)).Nodup∧(∀ e ∈ arr.toList,e.born<clock) ∧
   (((Instr.findKey 141 (pk x) arr.toList).run Tryz.prog w=.ok none w∧x ∉ ks) ∨ ∃ j e,(Instr.findKey 141 (pk x) arr.toList).run Tryz.prog w=.ok (some (j,e.val)) w∧arr.toList[j]?=some e∧e.key=pk x∧ks[j]?=some x∧e.val=F x):=by
 obtain ⟨h0,hk,arr,clock,h1,h2,h3,h4⟩:=h;obtain ⟨lx,hlx⟩:=hx;refine ⟨arr,clock,h1,h2,h3,h4,?_⟩
 rcases placeK.find w hlx arr.toList (fun e he=>by
  obtain ⟨v,hv,e1,_⟩:=entry_mem h2 he;rw [e1];exact hk v hv) with ⟨r1,r2⟩ | ⟨j,e,r1,r2,r3⟩
 ·refine Or.inl ⟨r1,fun hm=>?_⟩
  obtain ⟨j,hj⟩:=List.getElem?_of_mem hm;have hg:(arr.toList.map (fun e=>(e.key,e.val)))[j]?=(ks.map (fun v=>(pk v,F v)))[j]?:=by rw [h2]
  rw [List.getElem?_map,List.getElem?_map,hj] at hg;cases he:arr.toList[j]? with
  | none=>rw [he] at hg;cases hg
  | some e =>
   rw [he] at hg;simp only [Option.map_some,Option.some.injEq,Prod.mk.injEq] at hg;exact r2 e (List.mem_of_getElem? he) hg.1
 ·obtain ⟨v,a,b',d⟩:=entry_of h2 r2;have e1:v=x:=pk_inj (b'.symm.trans r3);subst e1;exact Or.inr ⟨j,e,r1,r2,r3,a,d⟩
theorem PMap.look {E t:TypeId} {w:World} {b:Nat} {ks:List (Int × Int)} {F:Int × Int→Value} (h:PMap w b ks F) (ht:Tryz.prog.underlying t=some (.map 141 E)) {z:Value} (hz:(zeroValue E).run Tryz.prog w=.ok z w) {x:Int × Int} (hx:keyOk x) :
  (Instr.lookup t (.map (some b)) (pk x) false).run Tryz.prog w=.ok (if x ∈ ks then F x else z) w:=by
 obtain ⟨arr,clock,h1,h2,_,_,h3⟩:=h.find hx;have g:=run_getObj_map1 (P:=Tryz.prog) h1;have hc:=fun em=>placeK.check w em hx.choose_spec;rcases h3 with ⟨h3,h4⟩ | ⟨j,e,h3,_,_,hj,h4⟩
 ·rw [if_neg h4];simp [Instr.lookup,run_underlying ht,g,hc,h3,hz]
 ·rw [if_pos (List.mem_of_getElem? hj)];simp [Instr.lookup,run_underlying ht,g,hc,h3,h4]
theorem nodup_idx {α:Type} {l:List α} (h:l.Nodup) {i j:Nat} {x:α} (hi:l[i]?=some x) (hj:l[j]?=some x):i=j:=by
 obtain ⟨h1,e1⟩:=List.getElem?_eq_some_iff.1 hi;obtain ⟨h2,e2⟩:=List.getElem?_eq_some_iff.1 hj;exact (List.getElem_inj h).1 (e1.trans e2.symm)
theorem PMap.put {E t:TypeId} {w:World} {b:Nat} {ks:List (Int × Int)} {F:Int × Int→Value} (h:PMap w b ks F) (ht:Tryz.prog.underlying t=some (.map 141 E)) {x:Int × Int} (hx:keyOk x) (v:Value) :
  ∃ w',(Instr.mapUpdate t (.map (some b)) (pk x) v).run Tryz.prog w=.ok () w'∧PMap w' b (if x ∈ ks then ks else ks ++ [x]) (fun u=>if u=x then v else F u)∧Only b w w':=by
 have hlt:=h.lt;have hnd:=h.nodup;have hks:=h.key;obtain ⟨arr,clock,h1,h2,hb1,hb2,h3⟩:=h.find hx;have hc:=fun em=>placeK.check w em hx.choose_spec;have hst:=placeK.stays w hx.choose_spec;rcases h3 with ⟨h3,h4⟩ | ⟨j,e,h3,hj,hek,hkj,h4⟩
 ·refine ⟨{ w with heap:=w.heap.setIfInBounds b (.map (arr.push { key:=pk x,val:=v,born:=clock }) (clock+1)) },?_,?_,?_⟩
  ·simp [Instr.mapUpdate,run_underlying ht,hc,h3,run_getObj_map1 h1,run_setObj_map1 h1]
  ·rw [if_neg h4];refine ⟨?_,?_,arr.push { key:=pk x,val:=v,born:=clock },clock+1,by simp [hlt],?_,?_,?_⟩
   ·exact List.nodup_append.2 ⟨hnd,by simp,fun a ha b' hb'=>by rw [List.mem_singleton] at hb';subst hb';rintro rfl;exact h4 ha⟩
   ·intro u hu;rcases List.mem_append.1 hu with hu | hu
    ·exact hks u hu
    ·rw [List.mem_singleton] at hu;subst hu;exact hx
   ·rw [Array.toList_push,List.map_append,List.map_append,h2];congr 1
    ·apply List.map_congr_left
     intro u hu;have hne:¬ u=x:=fun e=>h4 (e ▸ hu);simp [hne]
    ·simp
   ·rw [Array.toList_push,List.map_append];refine List.nodup_append.2 ⟨hb1,by simp,fun a ha b' hb'=>?_⟩
    simp only [List.map_cons,List.map_nil,List.mem_singleton] at hb';subst hb';obtain ⟨e,he,rfl⟩:=List.mem_map.1 ha;have:=hb2 e he
    omega
   ·intro e he;rw [Array.toList_push] at he;rcases List.mem_append.1 he with he | he
    ·have:=hb2 e he;omega
    ·rw [List.mem_singleton] at he;subst he;exact Nat.lt_succ_self _
  ·refine ⟨rfl,rfl,rfl,by simp,fun k hk=>?_⟩
   simp only [Array.getElem?_setIfInBounds];rw [if_neg (Ne.symm hk)]
 ·have hja:arr[j]?=some e:=by simpa using hj
  refine ⟨{ w with heap:=w.heap.setIfInBounds b (.map (arr.modify j fun e=>{ e with key:=pk x,val:=v }) clock) },?_,?_,?_⟩
  ·have hka:((arr[j]?).map (·.key)).getD (pk x)=pk x:=by rw [hja];exact hek
   simp [Instr.mapUpdate,run_underlying ht,hc,h3,run_getObj_map1 h1,run_setObj_map1 h1,hja,hek,hst]
  ·rw [if_pos (List.mem_of_getElem? hkj)];have hmt:∀ (β:Type) (g:MapEntry→β),(arr.modify j fun e=>{ e with key:=pk x,val:=v }).toList.map g=(arr.toList.map g).set j (g { e with key:=pk x,val:=v }):=by
    intro β g;apply List.ext_getElem?
    intro i;rw [List.getElem?_map,Array.getElem?_toList,Array.getElem?_modify,List.getElem?_set,List.getElem?_map,Array.getElem?_toList,List.length_map,Array.length_toList];by_cases hij:j=i
    ·subst hij;rw [if_pos rfl,if_pos rfl,hja,if_pos (Array.getElem?_eq_some_iff.1 hja).1];rfl
    ·rw [if_neg hij,if_neg hij]
   refine ⟨hnd,hks,(arr.modify j fun e=>{ e with key:=pk x,val:=v }),clock,by simp [hlt],?_,?_,?_⟩
   ·rw [hmt,h2];apply List.ext_getElem?
    intro i;rw [List.getElem?_set,List.getElem?_map,List.getElem?_map,List.length_map];by_cases hij:j=i
    ·subst hij;rw [if_pos rfl,hkj,if_pos (List.getElem?_eq_some_iff.1 hkj).1];simp
    ·rw [if_neg hij];cases hki:ks[i]? with
     | none=>rfl
     | some u =>
      have:u ≠ x:=fun e=>hij (nodup_idx hnd hkj (by rw [hki,e]))
      simp [this]
   ·rw [hmt];have:(arr.toList.map (·.born)).set j e.born=arr.toList.map (·.born):=by
     apply List.ext_getElem?
     intro i;rw [List.getElem?_set];by_cases hij:j=i
     ·subst hij;rw [if_pos rfl,List.getElem?_map,hj,List.length_map,if_pos (List.getElem?_eq_some_iff.1 hj).1];rfl
     ·rw [if_neg hij]
    dsimp only;rw [this];exact hb1
   ·intro a ha;obtain ⟨i,hi⟩:=List.getElem?_of_mem ha;rw [Array.getElem?_toList,Array.getElem?_modify] at hi;by_cases hij:j=i
    ·subst hij;rw [if_pos rfl,hja] at hi;injection hi with hi
     subst hi;exact hb2 e (List.mem_of_getElem? hj)
    ·rw [if_neg hij] at hi;exact hb2 a (List.mem_of_getElem? (by rw [Array.getElem?_toList];exact hi))
  ·refine ⟨rfl,rfl,rfl,by simp,fun k hk=>?_⟩
   simp only [Array.getElem?_setIfInBounds];rw [if_neg (Ne.symm hk)]
end Go.Proofs.YtmkoegljnebdiaaGreat
namespace Go.Proofs.YtmkoegljnebdiaaGreat
open Go.RowKit Go.Shelf
set_option maxRecDepth 100000
set_option maxHeartbeats 16000000

theorem u_77:Tryz.prog.underlying 77=some (.slice 3):=by kernel_rfl
theorem i_3:(Tryz.prog.info? 3).map (fun i=>(i.zero,i.size,i.bytes))=some (some (.int .i64 0),1,8):=by kernel_rfl
structure IntAt (w:World) (g n:Nat) (M:Nat→Int):Prop where
 lt:g<w.heap.size
 cell:∀ k,k<n→w.cell? ⟨g,k,none⟩=some (.int .i64 (M k))
theorem IntAt.to {w w':World} {g n:Nat} {M:Nat→Int} (h:IntAt w g n M) (hb:Below w.heap.size w w'):IntAt w' g n M :=
 ⟨Nat.lt_of_lt_of_le h.lt hb.size,fun k hk=>(hb.cell (p:=⟨g,k,none⟩) h.lt).trans (h.cell k hk)⟩
theorem IntAt.el {w:World} {g n:Nat} {M:Nat→Int} (h:IntAt w g n M) (hn:n≤4096):ElAt w w.heap.size (some ⟨g,0,none⟩) n 1 (fun k=>#[.int .i64 (M k)]) :=
 ⟨hn,fun _=>⟨g,0,rfl,h.lt,Nat.le_refl _,fun k hk j u hu=>by
  obtain ⟨rfl,rfl⟩:j=0∧u=.int .i64 (M k):=by
   rcases j with _ | j
   ·simp at hu;exact ⟨rfl,hu.symm⟩
   ·simp at hu
  rw [show 0+k * 1+0=k by omega];exact h.cell k hk⟩⟩
theorem mask104_any (x:Int) (h0:0≤x) (h1:x≤65535) (w:World):Calls Tryz.prog 104 #[.int .i64 x] w fun e w'=>(∃ b,e=.returned (.bool b)∧(b=true→True)∧(b=false→False))∧Below w.heap.size w w':=by
 refine pQ fun PQ hPQ=>?_
 have HFIN:Hid (PQ (.returned (.bool true)) w):=hZ (by rw [← hPQ];exact ⟨⟨true,rfl,fun _=>trivial,fun h=>by cases h⟩,Below.refl _ _⟩)
 clear hPQ;go_enter Tryz.func104,Tryz.ntmps104;go_wp2_with fail
 exact HFIN.out
theorem plan52_any (x:Int) (h0:-1≤x) (h1:x<16) (w:World):Calls Tryz.prog 52 #[.int .i64 x] w fun e w'=>(∃ b,e=.returned (.bool b)∧(b=true→True)∧(b=false→False))∧Below w.heap.size w w':=by
 refine pQ fun PQ hPQ=>?_
 have HFIN:Hid (PQ (.returned (.bool true)) w):=hZ (by rw [← hPQ];exact ⟨⟨true,rfl,fun _=>trivial,fun h=>by cases h⟩,Below.refl _ _⟩)
 clear hPQ;go_enter Tryz.func52,Tryz.ntmps52;go_wp2_with fail
 exact HFIN.out
theorem every_all (fid:Nat) (g n c:Nat) (M:Nat→Int) (hn:n≤4096) (eg:∀ args w,(callFunc fid args).run Tryz.prog w=.ok (.enter fid args) w) (w:World) (hs:IntAt w g n M)
  (hC:∀ k,k<n→∀ w,Calls Tryz.prog fid #[.int .i64 (M k)] w fun e w'=>(∃ b,e=.returned (.bool b)∧(b=true→True)∧(b=false→False))∧Below w.heap.size w w') :
  Calls Tryz.prog 51 #[.slice (some ⟨g,0,none⟩) n c,.func (.func fid) #[] #[]] w fun e w'=>e=.returned (.bool true)∧Below w.heap.size w w' :=
 (every_int fid #[] (some ⟨g,0,none⟩) n c (fun k=>.int .i64 (M k)) (fun _=>True) (fun _=>False) eg w (hs.el hn) fun k hk w' _=>hC k hk w').mono fun e w' h=>by
  obtain ⟨⟨b,h1,h2,h3⟩,h4⟩:=h;cases b with
  | true=>exact ⟨h1,h4⟩
  | false=>obtain ⟨_,_,h⟩:=h3 rfl;exact h.elim
theorem checkMasks_any (g n c:Nat) (M:Nat→Int) (hn:n≤4096) (w:World) (hs:IntAt w g n M) (hM:∀ k,k<n→0≤M k∧M k≤65535) :
  Calls Tryz.prog 48 #[.slice (some ⟨g,0,none⟩) n c] w fun e w'=>e=.returned (.int .i64 0)∧Below w.heap.size w w':=by
 have HEV:=hZ (every_all 104 g n c M hn (fun _ _=>rfl) w hs fun k hk w=>mask104_any (M k) (hM k hk).1 (hM k hk).2 w);refine pQ fun PQ hPQ=>?_
 have HFIN:Hid (∀ w',Below w.heap.size w w'→PQ (.returned (.int .i64 0)) w'):=hZ fun w' h=>by rw [← hPQ];exact ⟨rfl,h⟩
 clear hPQ hs hM;have hni:(n:Int)≤4096:=by omega
 go_enter Tryz.func48,Tryz.ntmps48;go_wp2_with fail
 refine HEV.out.mono ?_
 rintro e w2 ⟨rfl,hw⟩;have HW:=hZ hw;clear hw;go_wp2_with fail
 exact HFIN.out _ HW.out
def chs (x:Nat):List Int:=if x=0 then [-1] else ((List.range 16).filter fun m=>x.testBit m).map Int.ofNat
def chK (x k:Nat):List Int:=((List.range k).filter fun m=>x.testBit m).map Int.ofNat
theorem chK_succ (x k:Nat):chK x (k+1)=if x.testBit k then chK x k ++ [(k:Int)] else chK x k:=by
 unfold chK;rw [List.range_succ,List.filter_append];cases h:x.testBit k <;> simp [h]
theorem chK_len (x k:Nat):(chK x k).length≤k:=by
 unfold chK;rw [List.length_map];exact Nat.le_trans (List.length_filter_le _ _) (by simp)
theorem shrBit_all:((List.range 16).all fun x=>(List.range 16).all fun m=>decide (bits .and .i64 ((x:Int) / 2 ^ m) 1=if x.testBit m then 1 else 0))=true:=by kernel_rfl
theorem shrBit {x m:Nat} (hx:x<16) (hm:m<16):bits .and .i64 ((x:Int) / 2 ^ m) 1=if x.testBit m then 1 else 0:=by
 have h:=List.all_eq_true.1 shrBit_all x (List.mem_range.2 hx);exact of_decide_eq_true (List.all_eq_true.1 h m (List.mem_range.2 hm))
def ints (l:List Int):List Value:=l.map fun i=>.int .i64 i
theorem choices_any (x:Nat) (hx:x<16) (w:World):Calls Tryz.prog 50 #[.int .i64 (x:Int)] w fun e w'=>∃ u cur,e=.returned u∧LstAt 1 u cur (chs x).length (ints (chs x))∧Fr w [] (lstE 3 u cur) w':=by
 refine pQ fun PQ hPQ=>?_
 have HFIN:Hid (∀ w' u cur,LstAt 1 u cur (chs x).length (ints (chs x))→Fr w [] (lstE 3 u cur) w'→PQ (.returned u) w'):=hZ fun w' u cur h h2=>by rw [← hPQ];exact ⟨u,cur,rfl,h,h2⟩
 have HS0:Hid (Fr w [] [] w):=hZ (Fr.start w);have HHX:=hZ hx;clear hPQ hx;by_cases h0:x=0
 ·subst h0;go_enter Tryz.func50,Tryz.ntmps50;obtain ⟨g1,hg1⟩:=eX w.heap.size;obtain ⟨w1,hw1⟩:=eX (w.alloc (.cells #[.int .i64 (-1)] 3));have HF2:Hid (Fr w [] [(g1,3,iC [-1])] w1):=hZ (by rw [← hw1];exact HS0.out.alloc hg1.symm 3 #[.int .i64 (-1)])
  go_wp2_with fail
  clear hw1 hg1;exact HFIN.out _ _ #[.int .i64 (-1)] ⟨rfl,.inr ⟨_,1,rfl,by decide,by decide,rfl,rfl⟩⟩ HF2.out
 ·have h1:¬ (x:Int)=0:=by omega
  have HCH:Hid (chs x=chK x 16):=hZ (by unfold chs chK;rw [if_neg h0])
  go_enter Tryz.func50,Tryz.ntmps50;go_wp2_with fail
  go_loopw [3,8] (fun u iv wr=>∃ m:Nat,m≤16∧iv=.int .i64 (m:Int)∧∃ cur,Hid (LstAt 1 u cur (chK x m).length (ints (chK x m))∧Fr w [] ([] ++ (lstE 3 u cur ++ [])) wr)) (fun _ iv _=>16 - (intOf iv).toNat)
  case atStart=>exact ⟨0,Nat.zero_le _,rfl,#[],hZ ⟨LstAt.nil 1,HS0.out⟩⟩
  case round =>
   obtain ⟨wo,rfl⟩:∃ wo:World,wo=wr:=⟨_,rfl⟩;obtain ⟨m,hm,rfl,cur,hs⟩:=hrel;obtain ⟨q1,m1,k1,rfl⟩:=lst_slice hs.out.1;have h0m:(0:Int)≤(m:Int):=by omega
   by_cases hlt:m<16
   rotate_left
   ·obtain rfl:m=16:=by omega
    go_wp2_with fail
    exact HFIN.out _ _ cur (by rw [HCH.out];exact hs.out.1) (by simpa using hs.out.2)
   ·have hmi:(m:Int)<16:=by omega
    have hsb:=shrBit HHX.out hlt;have HSC:=hZ (chK_succ x m);have HL:=hZ hs.out.1;have HF0:Hid (Fr w [] ([] ++ (lstE 3 (.slice q1 m1 k1) cur ++ [])) wo):=hZ hs.out.2;have HCL:=hZ (chK_len x m);have HLT:=hZ hlt;clear hs;obtain ⟨bt,hbt⟩:=eX (x.testBit m);rw [hbt] at hsb HSC;clear hbt;cases bt with
    | false =>
     go_wp2_with fail
     go_roundw
     case rel=>exact ⟨m+1,by omega,by go_num,cur,hZ ⟨by rw [HSC.out];exact HL.out,HF0.out⟩⟩
     case measure=>simp [intOf];omega
    | true =>
     obtain ⟨g1,hg1⟩:=eX wo.heap.size;obtain ⟨w1,hw1⟩:=eX (wo.alloc (.cells #[.int .i64 (m:Int)] 3));have HF2:=hZ (frE hw1 (HF0.out.allocM hg1.symm 3 #[.int .i64 (m:Int)]));go_wp2_with (refine wpList_push (e:=3) (v:=.slice q1 m1 k1) (cur:=cur) (n:=(chK x m).length) (xs:=ints (chK x m)) (Y:=[]) (N:=[(g1,3,iC [(m:Int)])]) rfl (.tmp 16) (.tmp 18) 77 rfl HF2.out HL.out u_77 i_3 rfl (by decide) (by decide) (by have:=HCL.out;have:=HLT.out;omega) g1 1 #[.int .i64 (m:Int)] 3 rfl rfl (HF2.out.get 0 rfl) rfl rfl ?_;intro v' w' cur' h2 h3;have HP:=hZ (And.intro h2 h3);clear h2 h3)
     clear hw1 hg1;go_roundw
     case rel =>
      refine ⟨v',_,_,⟨m+1,by have:=HLT.out;omega,rfl,cur',hZ ⟨?_,HP.out.2.sub (by rw [List.append_nil];exact List.sublist_append_right _ _)⟩⟩,rfl,rfl,by go_num⟩
      rw [HSC.out,if_pos trivial,List.length_append];unfold ints;rw [List.map_append];exact HP.out.1
     case measure=>simp [intOf];omega
def zerosB (M:Nat→Int):Nat→Nat
 | 0=>0
 | k+1=>if M k=0 then zerosB M k+1 else zerosB M k
theorem zeros_le (M:Nat→Int):∀ k,zerosB M k≤k
 | 0=>Nat.le_refl _
 | k+1=>by have:=zeros_le M k;unfold zerosB;split <;> omega
theorem gaps_any (g n c:Nat) (M:Nat→Int) (hn:n≤4096) (w:World) (hs:IntAt w g n M) (hM:∀ k,k<n→0≤M k∧M k≤65535) :
  Calls Tryz.prog 16 #[.slice (some ⟨g,0,none⟩) n c] w fun e w'=>∃ u cur xs,e=.returned (.tuple #[u,.int .i64 0])∧LstAt 1 u cur (zerosB M n) xs∧Fr w [] (lstE 3 u cur) w':=by
 have HCM:=hZ (checkMasks_any g n c M hn w hs hM);refine pQ fun PQ hPQ=>?_
 have HFIN:Hid (∀ w' u cur xs,LstAt 1 u cur (zerosB M n) xs→Fr w [] (lstE 3 u cur) w'→PQ (.returned (.tuple #[u,.int .i64 0])) w'):=hZ fun w' u cur xs h h2=>by rw [← hPQ];exact ⟨u,cur,xs,rfl,h,h2⟩
 have HI:=hZ hs;clear hPQ hM hs;go_enter Tryz.func16,Tryz.ntmps16;go_wp2_with fail
 refine HCM.out.mono ?_
 rintro e w1 ⟨rfl,hw⟩;have HS0:Hid (Fr w [] [] w1):=hZ (Fr.ofBelow hw);clear hw;go_wp2_with fail
 go_loopw [5,15] (fun u iv wr=>∃ m:Nat,m≤n∧iv=.int .i64 (m:Int)∧∃ cur xs,Hid (LstAt 1 u cur (zerosB M m) xs∧Fr w [] ([] ++ (lstE 3 u cur ++ [])) wr)) (fun _ iv _=>n - (intOf iv).toNat)
 case atStart=>exact ⟨0,Nat.zero_le _,rfl,#[],[],hZ ⟨LstAt.nil 1,HS0.out⟩⟩
 case round =>
  obtain ⟨wo,rfl⟩:∃ wo:World,wo=wr:=⟨_,rfl⟩;obtain ⟨m,hm,rfl,cur,xs,hs⟩:=hrel;obtain ⟨q1,m1,k1,rfl⟩:=lst_slice hs.out.1;have h0m:(0:Int)≤(m:Int):=by omega
  by_cases hlt:m<n
  rotate_left
  ·obtain rfl:n=m:=by omega
   have hneg:¬ (n:Int)<(n:Int):=by omega
   go_wp2_with fail
   exact HFIN.out _ _ cur xs hs.out.1 (by simpa using hs.out.2)
  ·have hmi:(m:Int)<(n:Int):=by omega
   have HL:=hZ hs.out.1;have HF0:Hid (Fr w [] ([] ++ (lstE 3 (.slice q1 m1 k1) cur ++ [])) wo):=hZ hs.out.2;have HZL:=hZ (zeros_le M m);have HLT:=hZ hlt;have hce:wo.cell? ⟨g,m,none⟩=some (.int .i64 (M m)):=(HF0.out.toBelow.cell (p:=⟨g,m,none⟩) HI.out.lt).trans (HI.out.cell m hlt);clear hs;by_cases hz:M m=0
   rotate_left
   ·have HZ:Hid (zerosB M (m+1)=zerosB M m):=hZ (by show (if M m=0 then _ else _)=_;rw [if_neg hz])
    go_wp2_with fail
    go_roundw
    case rel=>exact ⟨m+1,by have:=HLT.out;omega,by go_num,cur,xs,hZ ⟨by rw [HZ.out];exact HL.out,HF0.out⟩⟩
    case measure=>simp [intOf];omega
   ·have HZ:Hid (zerosB M (m+1)=zerosB M m+1):=hZ (by show (if M m=0 then _ else _)=_;rw [if_pos hz])
    rw [hz] at hce;clear hz;obtain ⟨g1,hg1⟩:=eX wo.heap.size;obtain ⟨w1,hw1⟩:=eX (wo.alloc (.cells #[.int .i64 (m:Int)] 3));have HF2:=hZ (frE hw1 (HF0.out.allocM hg1.symm 3 #[.int .i64 (m:Int)]));go_wp2_with (refine wpList_push (e:=3) (v:=.slice q1 m1 k1) (cur:=cur) (n:=zerosB M m) (xs:=xs) (Y:=[]) (N:=[(g1,3,iC [(m:Int)])]) rfl (.tmp 22) (.tmp 24) 77 rfl HF2.out HL.out u_77 i_3 rfl (by decide) (by decide) (by have:=HZL.out;have:=HLT.out;omega) g1 1 #[.int .i64 (m:Int)] 3 rfl rfl (HF2.out.get 0 rfl) rfl rfl ?_;intro v' w' cur' h2 h3;have HP:=hZ (And.intro h2 h3);clear h2 h3)
    clear hw1 hg1;go_roundw
    case rel =>
     refine ⟨m+1,by have:=HLT.out;omega,by go_num,cur',xs ++ [.int .i64 (m:Int)],hZ ⟨?_,HP.out.2.sub (by exact List.sublist_append_right _ _)⟩⟩
     rw [HZ.out];exact HP.out.1
    case measure=>simp [intOf];omega

def costB (D:Int × Int→Int) (at':Nat) (own m:Int):Int:=if 0<at'∧m ≠ own then D ((at':Int),m)+1 else D ((at':Int),m)
def betterB (D:Int × Int→Int) (at':Nat) (own:Int) (a:Int × Int) (m:Int):Int × Int:=if a.2<0 ∨ costB D at' own m<a.2 then (m,costB D at' own m) else a
def pickB (D:Int × Int→Int) (l:List Int) (at':Nat) (own:Int):Int × Int:=l.foldl (betterB D at' own) (0,-1)
theorem pick_snoc (D:Int × Int→Int) (l:List Int) (at':Nat) (own:Int) {x:Nat} {m:Int} (h:l[x]?=some m):pickB D (l.take (x+1)) at' own=betterB D at' own (pickB D (l.take x) at' own) m:=by
 unfold pickB;rw [List.take_add_one,h,List.foldl_append];rfl
theorem pick_mem (D:Int × Int→Int) (hD:∀ k,0≤D k) (at':Nat) (own:Int):∀ (l:List Int),(pickB D l at' own=(0,-1)∧l=[]) ∨ ∃ m ∈ l,pickB D l at' own=(m,costB D at' own m):=by
 have hc:∀ m,0≤costB D at' own m:=fun m=>by have:=hD ((at':Int),m);unfold costB;split <;> omega
 have key:∀ (l:List Int) (a:Int × Int) ,(a=(0,-1) ∨ a.2=costB D at' own a.1)→(l.foldl (betterB D at' own) a=a ∨ ∃ m ∈ l,l.foldl (betterB D at' own) a=(m,costB D at' own m))∧(l ≠ []→(l.foldl (betterB D at' own) a).2=costB D at' own (l.foldl (betterB D at' own) a).1):=by
  intro l;induction l with
  | nil=>intro a _;exact ⟨.inl rfl,fun h=>absurd rfl h⟩
  | cons m l ih =>
   intro a ha;rw [List.foldl_cons];by_cases hb:a.2<0 ∨ costB D at' own m<a.2
   ·have e:betterB D at' own a m=(m,costB D at' own m):=if_pos hb;rw [e];obtain ⟨i1,i2⟩:=ih (m,costB D at' own m) (.inr rfl);refine ⟨.inr ?_,fun _=>?_⟩
    ·rcases i1 with h | ⟨q,hq,h⟩
     ·exact ⟨m,List.mem_cons_self,h⟩
     ·exact ⟨q,List.mem_cons_of_mem _ hq,h⟩
    ·rcases i1 with h | ⟨q,hq,h⟩ <;> rw [h]
   ·have e:betterB D at' own a m=a:=if_neg hb;rw [e];have ha2:a.2=costB D at' own a.1:=by
     rcases ha with rfl | h
     ·exact absurd (.inl (by show (-1:Int)<0;omega)) hb
     ·exact h
    obtain ⟨i1,i2⟩:=ih a (.inr ha2);refine ⟨?_,fun _=>?_⟩
    ·rcases i1 with h | ⟨q,hq,h⟩
     ·exact .inl h
     ·exact .inr ⟨q,List.mem_cons_of_mem _ hq,h⟩
    ·rcases i1 with h | ⟨q,hq,h⟩ <;> rw [h]
     exact ha2
 intro l;cases l with
 | nil=>exact .inl ⟨rfl,rfl⟩
 | cons m l =>
  have e:pickB D (m :: l) at' own=l.foldl (betterB D at' own) (m,costB D at' own m):=by
   show l.foldl _ (betterB D at' own (0,-1) m)=_
   rw [show betterB D at' own (0,-1) m=(m,costB D at' own m) from if_pos (.inl (by show (-1:Int)<0;omega))]
  obtain ⟨i1,_⟩:=key l (m,costB D at' own m) (.inr rfl);rw [e];rcases i1 with h | ⟨q,hq,h⟩
  ·exact .inr ⟨m,List.mem_cons_self,h⟩
  ·exact .inr ⟨q,List.mem_cons_of_mem _ hq,h⟩
theorem pick_congr {D D':Int × Int→Int} {at':Nat} (h:∀ m,D ((at':Int),m)=D' ((at':Int),m)) (l:List Int) (own:Int):pickB D l at' own=pickB D' l at' own:=by
 unfold pickB;congr 1
 funext a m
 unfold betterB costB;rw [h m]
theorem chs_ne (x:Nat) (hx:x<16):chs x ≠ []:=by
 have h:((List.range 16).all fun x=>decide (chs x ≠ []))=true:=by kernel_rfl
 exact of_decide_eq_true (List.all_eq_true.1 h x (List.mem_range.2 hx))
theorem chs_in (x:Nat) (_:x<16) {m:Int} (hm:m ∈ chs x):-1≤m∧m<16:=by
 unfold chs at hm;split at hm
 ·simp at hm;omega
 ·obtain ⟨k,hk,rfl⟩:=List.mem_map.1 hm;have:=List.mem_range.1 (List.mem_filter.1 hk).1
  exact ⟨by show (-1:Int)≤(k:Int);omega,by show (k:Int)<16;omega⟩
def saysB (ks:List (Int × Int)) (F:Int × Int→Int) (k:Int × Int):Int:=if k ∈ ks then F k else 0
theorem look_int {w:World} {b:Nat} {ks:List (Int × Int)} {F:Int × Int→Int} (h:PMap w b ks fun k=>.int .i64 (F k)) {x y:Int} (hx:I64 x) (hy:I64 y) :
  (Instr.lookup 138 (.map (some b)) (.agg #[.int .i64 x,.int .i64 y]) false).run Tryz.prog w=.ok (.int .i64 (saysB ks F (x,y))) w:=by
 have hl:=h.look (E:=3) (t:=138) (by kernel_rfl) (z:=.int .i64 0) (by kernel_rfl) (x:=(x,y)) (keyOk_of hx hy)
 rw [show Value.agg #[.int .i64 x,.int .i64 y]=pk (x,y) from rfl,hl]
 unfold saysB;split <;> rfl
theorem plan49_any (g n c gm gp b:Nat) (M:Nat→Nat) (ks:List (Int × Int)) (F:Int × Int→Int) (at':Nat) (own:Int) (hn:n≤4096) (hat:at'<n) (hM:∀ k,k<n→M k<16) (ho:I64 own) (w:World) (hI:IntAt w g n fun k=>(M k:Nat))
  (h1:Bk w gm 77 #[.slice (some ⟨g,0,none⟩) n c]) (h2:Bk w gp 138 #[.map (some b)]) (hP:PMap w b ks fun k=>.int .i64 (F k)) (hD:∀ k,0≤saysB ks F k∧saysB ks F k≤4096) :
  Calls Tryz.prog 49 #[.int .i64 (at':Int),.int .i64 own,.pointer (some ⟨gm,0,none⟩),.pointer (some ⟨gp,0,none⟩)] w fun e w' =>
   e=.returned (.tuple #[.int .i64 (pickB (saysB ks F) (chs (M at')) at' own).1,.int .i64 (pickB (saysB ks F) (chs (M at')) at' own).2])∧Below w.heap.size w w':=by
 obtain ⟨D,hDD⟩:=eX (saysB ks F);have HLK:=hZ fun w' (hb:Below w.heap.size w w') x y (hx:I64 x) (hy:I64 y)=>look_int (hP.below hb) hx hy;rw [hDD] at hD HLK ⊢;have HD:=hZ hD;have hMx:=hM at' hat;have HCH:=hZ (choices_any (M at') hMx);obtain ⟨l,hl⟩:=eX (chs (M at'));have HIN:=hZ fun m=>chs_in (M at') hMx (m:=m);have hne:=chs_ne (M at') hMx;have hlen:l.length≤16:=by
  rw [← hl];unfold chs;split
  ·simp
  ·rw [List.length_map];exact Nat.le_trans (List.length_filter_le _ _) (by simp)
 rw [hl] at HCH HIN hne ⊢;have hce:w.cell? ⟨g,at',none⟩=some (.int .i64 (M at':Nat)):=hI.cell at' hat;have hc1:w.cell? ⟨gm,0,none⟩=some (.slice (some ⟨g,0,none⟩) n c):=h1.cell 0;have HC2:Hid (∀ w',Below w.heap.size w w'→w'.cell? ⟨gp,0,none⟩=some (.map (some b))):=hZ fun w' hb=>(hb.cell (p:=⟨gp,0,none⟩) h2.lt).trans (h2.cell 0);refine pQ fun PQ hPQ=>?_
 have HFIN:Hid (∀ w' m q,pickB D l at' own=(m,q)→Below w.heap.size w w'→PQ (.returned (.tuple #[.int .i64 m,.int .i64 q])) w'):=hZ fun w' m q h h2=>by rw [← hPQ,h];exact ⟨rfl,h2⟩
 have HPK:=hZ fun x m (h:l[x]?=some m)=>pick_snoc D l at' own h;have HST:Hid (pickB D (l.take 0) at' own=(0,-1)):=hZ rfl;have HEN:Hid (pickB D (l.take l.length) at' own=pickB D l at' own):=hZ (by rw [List.take_length])
 have h0a:(0:Int)≤(at':Int):=by omega
 have hai:(at':Int)<(n:Int):=by omega
 have hn0:0<l.length:=List.length_pos_iff.2 hne;have HO:=hZ ho;clear hPQ h1 h2 hI hP hM hDD hD hl hMx hne ho;go_enter Tryz.func49,Tryz.ntmps49;go_wp2_with fail
 refine (HCH.out _).mono ?_
 rintro e w1 ⟨u,cur,rfl,hL,hw⟩;obtain ⟨gl,cap,rfl,hcap1,hcap2,hcap3,hcap4⟩:∃ gl cap,u=.slice (some ⟨gl,0,none⟩) l.length cap∧l.length≤cap∧cap≤maxLen∧cur.size=cap * 1∧cur.toList.take (l.length * 1)=ints l:=by
  rcases hL.2 with ⟨_,h0⟩ | ⟨g0,cap,h⟩
  ·omega
  ·exact ⟨g0,cap,h⟩
 have HF:Hid (Fr w [] [(gl,3,cur)] w1):=hZ hw;have HEL:Hid (∀ x m,l[x]?=some m→w1.cell? ⟨gl,x,none⟩=some (.int .i64 m)):=hZ fun x m hm=>by
  have hx:=(List.getElem?_eq_some_iff.1 hm).1;rw [Bk.cell (HF.out.get 0 rfl) x,← Array.getElem?_toList];have h3:(cur.toList.take (l.length * 1))[x]?=(ints l)[x]?:=by rw [hcap4]
  rw [List.getElem?_take,if_pos (by omega)] at h3
  rw [h3];unfold ints;rw [List.getElem?_map,hm];rfl
 obtain ⟨L,hLL⟩:=eX l.length;rw [hLL] at hlen hn0 HEN hcap1 ⊢;have HLL:=hZ hLL;have HB:=hZ HF.out.toBelow;clear hw hL hcap3 hcap4 hce hc1 hLL HF;go_wp2_with fail
 go_loopw [6,8,18] (fun mv qv xv wr=>wr=w1∧∃ (x:Nat) (a:Int × Int),x≤L∧xv=.int .i64 (x:Int)∧mv=.int .i64 a.1∧qv=.int .i64 a.2∧Hid (pickB D (l.take x) at' own=a∧-1≤a.2∧a.2≤4097)) (fun _ _ xv _=>L - (intOf xv).toNat)
 case atStart=>exact ⟨rfl,0,(0,-1),Nat.zero_le _,rfl,rfl,rfl,hZ ⟨HST.out,by decide,by decide⟩⟩
 case round =>
  obtain ⟨rfl,x,⟨m0,q0⟩,hx,rfl,rfl,rfl,hs⟩:=hrel;obtain ⟨wo,rfl⟩:∃ wo:World,wo=wr:=⟨_,rfl⟩;dsimp only at hs;have h0x:(0:Int)≤(x:Int):=by omega
  by_cases hlt:x<L
  rotate_left
  ·obtain rfl:L=x:=by omega
   have hneg:¬ (L:Int)<(L:Int):=by omega
   go_wp2_with fail
   exact HFIN.out _ _ _ (HEN.out.symm.trans hs.out.1) HB.out
  ·have hxi:(x:Int)<(L:Int):=by omega
   have HLT:=hZ hlt;obtain ⟨m,hm⟩:∃ m,l[x]?=some m:=⟨_,List.getElem?_eq_getElem (by rw [HLL.out];exact hlt)⟩
   have hme:=HIN.out m (List.mem_of_getElem? hm);have hel:=HEL.out x m hm;have hc2:=HC2.out _ HB.out;have hlk:=HLK.out _ HB.out (at':Int) m (by unfold I64;omega) (by unfold I64;omega)
   have hd:=HD.out ((at':Int),m);obtain ⟨d,hdd⟩:=eX (D ((at':Int),m));rw [hdd] at hlk hd;have hq1:=hs.out.2.1;have hq2:=hs.out.2.2;have HSN:=hZ (HPK.out x m hm);rw [hs.out.1] at HSN;obtain ⟨cc,hcc⟩:=eX (costB D at' own m);have HCC:Hid (cc=if 0<at'∧m ≠ own then d+1 else d):=hZ (by rw [← hcc,← hdd];rfl)
   have HBT:Hid (betterB D at' own (m0,q0) m=if q0<0 ∨ cc<q0 then (m,cc) else (m0,q0)):=hZ (by rw [← hcc];rfl)
   have w1':wrap64 (d+1)=d+1:=w64_in (by omega) (by omega)
   have w1'':IntKind.i64.wrap (d+1)=d+1:=IntWalk.i64_in _ (by omega)
   clear hs hdd hcc hm;by_cases hap:0<at'
   ·have hapi:(0:Int)<(at':Int):=by omega
    by_cases hmo:m=own
    ·have hmb:(m != own)=false:=by simpa using hmo
     have HMO:=hZ hmo;clear hmo;have hcv:cc=d:=by rw [HCC.out];exact if_neg (fun h=>h.2 HMO.out)
     by_cases hbt:q0<0 ∨ d<q0
     ·rcases (show q0<0 ∨ (¬ q0<0∧d<q0) by omega) with hb1 | ⟨hb1,hb2⟩
      ·skip
       go_wp2_with fail
       go_roundw
       case rel=>exact ⟨by trivial,x+1,(m,d),by have:=HLT.out;omega,by go_num,by rfl,by rfl,hZ ⟨by rw [HSN.out,HBT.out,hcv];exact if_pos hbt,by show (-1:Int)≤d;omega,by show d≤4097;omega⟩⟩
       case measure=>simp [intOf];omega
      ·skip
       go_wp2_with fail
       go_roundw
       case rel=>exact ⟨by trivial,x+1,(m,d),by have:=HLT.out;omega,by go_num,by rfl,by rfl,hZ ⟨by rw [HSN.out,HBT.out,hcv];exact if_pos hbt,by show (-1:Int)≤d;omega,by show d≤4097;omega⟩⟩
       case measure=>simp [intOf];omega
     ·have hb1:¬ q0<0:=by omega
      have hb2:¬ d<q0:=by omega
      go_wp2_with fail
      go_roundw
      case rel=>exact ⟨by trivial,x+1,(m0,q0),by have:=HLT.out;omega,by go_num,by rfl,by rfl,hZ ⟨by rw [HSN.out,HBT.out,hcv];exact if_neg hbt,by show (-1:Int)≤q0;omega,by show q0≤4097;omega⟩⟩
      case measure=>simp [intOf];omega
    ·have hmb:(m != own)=true:=by simpa using hmo
     have HMO:=hZ hmo;clear hmo;have hcv:cc=(d+1):=by rw [HCC.out];exact if_pos ⟨hap,HMO.out⟩
     by_cases hbt:q0<0 ∨ (d+1)<q0
     ·rcases (show q0<0 ∨ (¬ q0<0∧(d+1)<q0) by omega) with hb1 | ⟨hb1,hb2⟩
      ·skip
       go_wp2_with fail
       go_roundw
       case rel=>exact ⟨by trivial,x+1,(m,(d+1)),by have:=HLT.out;omega,by go_num,by rfl,by rfl,hZ ⟨by rw [HSN.out,HBT.out,hcv];exact if_pos hbt,by show (-1:Int)≤(d+1);omega,by show (d+1)≤4097;omega⟩⟩
       case measure=>simp [intOf];omega
      ·skip
       go_wp2_with fail
       go_roundw
       case rel=>exact ⟨by trivial,x+1,(m,(d+1)),by have:=HLT.out;omega,by go_num,by rfl,by rfl,hZ ⟨by rw [HSN.out,HBT.out,hcv];exact if_pos hbt,by show (-1:Int)≤(d+1);omega,by show (d+1)≤4097;omega⟩⟩
       case measure=>simp [intOf];omega
     ·have hb1:¬ q0<0:=by omega
      have hb2:¬ (d+1)<q0:=by omega
      go_wp2_with fail
      go_roundw
      case rel=>exact ⟨by trivial,x+1,(m0,q0),by have:=HLT.out;omega,by go_num,by rfl,by rfl,hZ ⟨by rw [HSN.out,HBT.out,hcv];exact if_neg hbt,by show (-1:Int)≤q0;omega,by show q0≤4097;omega⟩⟩
      case measure=>simp [intOf];omega
   ·have hapi:¬ (0:Int)<(at':Int):=by omega
    have hcv:cc=d:=by rw [HCC.out];exact if_neg (fun h=>hap h.1)
    by_cases hbt:q0<0 ∨ d<q0
    ·rcases (show q0<0 ∨ (¬ q0<0∧d<q0) by omega) with hb1 | ⟨hb1,hb2⟩
     ·skip
      go_wp2_with fail
      go_roundw
      case rel=>exact ⟨by trivial,x+1,(m,d),by have:=HLT.out;omega,by go_num,by rfl,by rfl,hZ ⟨by rw [HSN.out,HBT.out,hcv];exact if_pos hbt,by show (-1:Int)≤d;omega,by show d≤4097;omega⟩⟩
      case measure=>simp [intOf];omega
     ·skip
      go_wp2_with fail
      go_roundw
      case rel=>exact ⟨by trivial,x+1,(m,d),by have:=HLT.out;omega,by go_num,by rfl,by rfl,hZ ⟨by rw [HSN.out,HBT.out,hcv];exact if_pos hbt,by show (-1:Int)≤d;omega,by show d≤4097;omega⟩⟩
      case measure=>simp [intOf];omega
    ·have hb1:¬ q0<0:=by omega
     have hb2:¬ d<q0:=by omega
     go_wp2_with fail
     go_roundw
     case rel=>exact ⟨by trivial,x+1,(m0,q0),by have:=HLT.out;omega,by go_num,by rfl,by rfl,hZ ⟨by rw [HSN.out,HBT.out,hcv];exact if_neg hbt,by show (-1:Int)≤q0;omega,by show q0≤4097;omega⟩⟩
     case measure=>simp [intOf];omega

theorem pick_cost {D:Int × Int→Int} (hD:∀ k,0≤D k) {l:List Int} (hl:l ≠ []) (at':Nat) (own:Int):∃ m ∈ l,pickB D l at' own=(m,costB D at' own m):=by
 rcases pick_mem D hD at' own l with ⟨_,h⟩ | h
 ·exact absurd h hl
 ·exact h
def InvP (n:Nat) (M:Nat→Nat) (D:Int × Int→Int) (r:Nat):Prop :=
 (∀ m,D (((n - 1:Nat):Int),m)=0)∧(∀ a:Nat,r≤a→a+1<n→∀ m,m ∈ chs (M a)→D ((a:Int),m)=(pickB D (chs (M (a+1))) (a+1) m).2)∧(∀ k,0≤D k)∧(∀ (a:Nat) m,a<n→D ((a:Int),m)≤((n - a:Nat):Int))∧∀ k,D k≤4096
def InvX (n:Nat) (M:Nat→Nat) (D:Int × Int→Int) (a x:Nat):Prop :=
 InvP n M D (a+1)∧∀ y m,y<x→(chs (M a))[y]?=some m→D ((a:Int),m)=(pickB D (chs (M (a+1))) (a+1) m).2
theorem InvP.start (n:Nat) (M:Nat→Nat):InvP n M (fun _=>0) (n - 1):=⟨fun _=>rfl,fun a h1 h2=>absurd h2 (by omega),fun _=>by show (0:Int)≤0;omega,fun a m _=>by show (0:Int)≤_;omega,fun _=>by show (0:Int)≤4096;omega⟩
theorem InvX.start {n:Nat} {M:Nat→Nat} {D:Int × Int→Int} {a:Nat} (h:InvP n M D (a+1)):InvX n M D a 0:=⟨h,fun y m hy=>absurd hy (by omega)⟩
theorem InvX.stop {n:Nat} {M:Nat→Nat} {D:Int × Int→Int} {a x:Nat} (h:InvX n M D a x) (hx:(chs (M a)).length≤x):InvP n M D a :=
 ⟨h.1.1,fun b hb hb2 m hm=>by
  rcases Nat.lt_or_ge a b with h1 | h1
  ·exact h.1.2.1 b h1 hb2 m hm
  ·obtain rfl:b=a:=by omega
   obtain ⟨y,hy⟩:=List.getElem?_of_mem hm;exact h.2 y m (by have:=(List.getElem?_eq_some_iff.1 hy).1;omega) hy,h.1.2.2⟩
theorem pick_le {n:Nat} {M:Nat→Nat} {D:Int × Int→Int} {r a:Nat} (h:InvP n M D r) (ha:a+1<n) (hM:M (a+1)<16) (hn:n≤4096) (m:Int):0≤(pickB D (chs (M (a+1))) (a+1) m).2∧(pickB D (chs (M (a+1))) (a+1) m).2≤((n - a:Nat):Int)∧(pickB D (chs (M (a+1))) (a+1) m).2≤4096:=by
 obtain ⟨q,_,e⟩:=pick_cost h.2.2.1 (chs_ne _ hM) (a+1) m;rw [e];have h1:=h.2.2.1 (((a+1:Nat):Int),q);have h2:=h.2.2.2.1 (a+1) q ha;have h3:costB D (a+1) m q≤D (((a+1:Nat):Int),q)+1:=by unfold costB;split <;> omega
 have h4:0≤costB D (a+1) m q:=by unfold costB;split <;> omega
 exact ⟨h4,by show costB D (a+1) m q≤_;omega,by show costB D (a+1) m q≤_;omega⟩
theorem InvX.step {n:Nat} {M:Nat→Nat} {D:Int × Int→Int} {a x:Nat} {m:Int} (h:InvX n M D a x) (ha:a+1<n) (hM:M (a+1)<16) (hn:n≤4096) (hm:(chs (M a))[x]?=some m) :
  InvX n M (fun k=>if k=((a:Int),m) then (pickB D (chs (M (a+1))) (a+1) m).2 else D k) a (x+1):=by
 have hv:=pick_le h.1 ha hM hn m;have hfar:∀ (b:Nat) (u:Int),b ≠ a→(fun k=>if k=((a:Int),m) then (pickB D (chs (M (a+1))) (a+1) m).2 else D k) ((b:Int),u)=D ((b:Int),u):=fun b u hb=>if_neg fun e=>hb (by have:=congrArg Prod.fst e;simp at this;omega)
 have hpk:∀ (b:Nat),b ≠ a→∀ l own,pickB (fun k=>if k=((a:Int),m) then (pickB D (chs (M (a+1))) (a+1) m).2 else D k) l b own=pickB D l b own:=fun b hb l own=>pick_congr (hfar b · hb) l own
 refine ⟨⟨fun u=>(hfar (n - 1) u (by omega)).trans (h.1.1 u),fun b hb hb2 u hu=>?_,fun k=>?_,fun b u hb=>?_,fun k=>?_⟩,fun y u hy hu=>?_⟩
 ·rw [hfar b u (by omega),hpk (b+1) (by omega)];exact h.1.2.1 b hb hb2 u hu
 ·show 0≤(if k=((a:Int),m) then _ else D k)
  split
  ·exact hv.1
  ·exact h.1.2.2.1 k
 ·by_cases e:b=a
  ·subst e;show (if ((b:Int),u)=((b:Int),m) then _ else D ((b:Int),u))≤_
   split
   ·exact hv.2.1
   ·exact h.1.2.2.2.1 b u hb
  ·rw [hfar b u e];exact h.1.2.2.2.1 b u hb
 ·show (if k=((a:Int),m) then _ else D k)≤4096
  split
  ·exact hv.2.2
  ·exact h.1.2.2.2.2 k
 ·rw [hpk (a+1) (by omega)]
  show (if ((a:Int),u)=((a:Int),m) then _ else D ((a:Int),u))=_
  by_cases e:u=m
  ·subst e;rw [if_pos rfl]
  ·rw [if_neg (fun h=>e (congrArg Prod.snd h))];rcases Nat.lt_or_ge y x with h1 | h1
   ·exact h.2 y u h1 hu
   ·obtain rfl:y=x:=by omega
    rw [hm] at hu;injection hu with hu;exact absurd hu.symm e
def chgF (f:Nat→Int):Nat→Int
 | 0=>0
 | k+1=>if 0<k∧f k ≠ f (k - 1) then chgF f k+1 else chgF f k
theorem chg_congr {f g:Nat→Int}:∀ {k:Nat},(∀ i,i<k→f i=g i)→chgF f k=chgF g k
 | 0,_=>rfl
 | k+1,h=>by
  unfold chgF;rw [chg_congr fun i hi=>h i (by omega),h k (by omega)]
  by_cases hk:0<k
  ·rw [h (k - 1) (by omega)]
  ·rw [if_neg (fun e=>hk e.1),if_neg (fun e=>hk e.1)]
theorem chg_nonneg (f:Nat→Int):∀ k,0≤chgF f k∧chgF f k≤(k:Int)
 | 0=>⟨by show (0:Int)≤0;omega,by show (0:Int)≤_;omega⟩
 | k+1=>by have:=chg_nonneg f k;unfold chgF;split <;> omega
def InvQ (M:Nat→Nat) (D:Int × Int→Int) (f:Nat→Int) (k:Nat) (ch:Int):Prop :=
 (∀ i,i<k→f i ∈ chs (M i))∧(k=0→ch=0)∧∀ j,k=j+1→ch=chgF f k+D ((j:Int),f j)
theorem InvQ.first {n:Nat} {M:Nat→Nat} {D:Int × Int→Int} (h:InvP n M D 0) (hM:M 0<16) (f:Nat→Int):InvQ M D (fun i=>if i=0 then (pickB D (chs (M 0)) 0 (-1)).1 else f i) 1 (pickB D (chs (M 0)) 0 (-1)).2:=by
 obtain ⟨q,hq,e⟩:=pick_cost h.2.2.1 (chs_ne _ hM) 0 (-1);rw [e];refine ⟨fun i hi=>?_,fun h=>absurd h (by omega),fun j hj=>?_⟩
 ·obtain rfl:i=0:=by omega
  exact hq
 ·obtain rfl:j=0:=by omega
  have hc:∀ g,chgF g 1=0:=fun g=>(if_neg (fun e=>absurd e.1 (Nat.lt_irrefl 0)):(if 0<0∧g 0 ≠ g (0 - 1) then chgF g 0+1 else chgF g 0)=chgF g 0)
  rw [hc,Int.zero_add];exact (if_neg (fun e=>absurd e.1 (Nat.lt_irrefl 0)):(if 0<0∧q ≠ -1 then D (((0:Nat):Int),q)+1 else D (((0:Nat):Int),q))=D (((0:Nat):Int),q))
theorem InvQ.next {n:Nat} {M:Nat→Nat} {D:Int × Int→Int} {f:Nat→Int} {j:Nat} {ch:Int} (hq:InvQ M D f (j+1) ch) (h:InvP n M D 0) (hj:j+1<n) (hM:M (j+1)<16) :
  InvQ M D (fun i=>if i=j+1 then (pickB D (chs (M (j+1))) (j+1) (f j)).1 else f i) (j+1+1) ch:=by
 obtain ⟨q,hqm,e⟩:=pick_cost h.2.2.1 (chs_ne _ hM) (j+1) (f j);have hfj:=hq.1 j (by omega)
 have h1:=h.2.1 j (by omega) hj (f j) hfj
 rw [e] at h1 ⊢;have hch:=hq.2.2 j rfl;refine ⟨fun i hi=>?_,fun h=>absurd h (by omega),fun j' hj'=>?_⟩
 ·by_cases ei:i=j+1
  ·subst ei;simp only [if_true];exact hqm
  ·simp only [if_neg ei];exact hq.1 i (by omega)
 ·obtain rfl:j'=j+1:=by omega
  have hc:chgF (fun i=>if i=j+1 then q else f i) (j+1)=chgF f (j+1):=chg_congr fun i hi=>if_neg (by omega)
  have hu:chgF (fun i=>if i=j+1 then q else f i) (j+1+1)=if 0<j+1∧q ≠ f j then chgF f (j+1)+1 else chgF f (j+1):=by
   rw [← hc];show (if 0<j+1∧(if j+1=j+1 then q else f (j+1)) ≠ (if j+1 - 1=j+1 then q else f (j+1 - 1)) then _ else _)=_
   rw [if_pos rfl,if_neg (show ¬ j+1 - 1=j+1 by omega)]
   rfl
  show ch=chgF _ (j+1+1)+D (((j+1:Nat):Int),(if j+1=j+1 then q else f (j+1)))
  rw [hu,if_pos rfl,hch,h1];show _+costB D (j+1) (f j) q=_
  unfold costB;split <;> omega
theorem InvQ.last {n:Nat} {M:Nat→Nat} {D:Int × Int→Int} {f:Nat→Int} {ch:Int} (hq:InvQ M D f n ch) (h:InvP n M D 0) (hn:0<n):ch=chgF f n:=by
 obtain ⟨j,rfl⟩:∃ j,n=j+1:=⟨n - 1,by omega⟩
 have:=hq.2.2 j rfl
 rw [this,show ((j:Nat):Int)=((j+1 - 1:Nat):Int) from rfl,h.1 (f j)]
 omega
theorem says_put {ks:List (Int × Int)} {F:Int × Int→Int} {x:Int × Int} {v:Int}:saysB (if x ∈ ks then ks else ks ++ [x]) (fun u=>if u=x then v else F u)=fun k=>if k=x then v else saysB ks F k:=by
 funext k
 unfold saysB;by_cases hx:x ∈ ks
 ·rw [if_pos hx];by_cases e:k=x
  ·subst e;simp only [if_pos hx,if_true]
  ·simp only [if_neg e]
 ·rw [if_neg hx];by_cases e:k=x
  ·subst e;rw [if_pos (List.mem_append_right _ (List.mem_singleton.2 rfl))];simp only [if_true]
  ·have:k ∈ ks ++ [x] ↔ k ∈ ks:=by simp [e]
   simp only [this,if_neg e]
theorem put_int {w:World} {b:Nat} {ks:List (Int × Int)} {F:Int × Int→Int} (h:PMap w b ks fun k=>.int .i64 (F k)) {x y:Int} (hx:I64 x) (hy:I64 y) (v:Int) :
  ∃ w' ks' F',(Instr.mapUpdate 138 (.map (some b)) (.agg #[.int .i64 x,.int .i64 y]) (.int .i64 v)).run Tryz.prog w=.ok () w'∧PMap w' b ks' (fun k=>.int .i64 (F' k))∧Only b w w'∧saysB ks' F'=fun k=>if k=(x,y) then v else saysB ks F k:=by
 obtain ⟨w',h1,h2,h3⟩:=h.put (E:=3) (t:=138) (by kernel_rfl) (x:=(x,y)) (keyOk_of hx hy) (.int .i64 v)
 refine ⟨w',_,fun u=>if u=(x,y) then v else F u,h1,?_,h3,says_put⟩
 have e:(fun u=>if u=(x,y) then Value.int .i64 v else .int .i64 (F u))=fun k=>Value.int .i64 (if k=(x,y) then v else F k):=by funext u;split <;> rfl
 rw [← e];exact h2
end Go.Proofs.YtmkoegljnebdiaaGreat
namespace Go.Proofs.YtmkoegljnebdiaaGreat
open Go.RowKit
set_option maxRecDepth 100000
set_option maxHeartbeats 16000000

def runL (f:Nat→Int) (n:Nat):Nat→List (Nat × Nat) × Nat
 | 0=>([],0)
 | k+1=>if k+1<n∧f (k+1)=f k then runL f n k else ((runL f n k).1 ++ [((runL f n k).2,k)],k+1)
theorem run_len (f:Nat→Int) (n:Nat):∀ k,k<n→((runL f n k).1.length:Int)=chgF f (k+1)
 | 0,_=>by
  show (([]:List (Nat × Nat)).length:Int)=if 0<0∧f 0 ≠ f (0 - 1) then chgF f 0+1 else chgF f 0
  rw [if_neg (fun e=>absurd e.1 (Nat.lt_irrefl 0))];rfl
 | k+1,h=>by
  have ih:=run_len f n k (by omega)
  have e:chgF f (k+1+1)=if 0<k+1∧f (k+1) ≠ f (k+1 - 1) then chgF f (k+1)+1 else chgF f (k+1):=rfl;have e2:runL f n (k+1)=if k+1<n∧f (k+1)=f k then runL f n k else ((runL f n k).1 ++ [((runL f n k).2,k)],k+1):=rfl;rw [e,e2,Nat.add_sub_cancel];by_cases h1:f (k+1)=f k
  ·rw [if_pos ⟨h,h1⟩,if_neg (fun q=>q.2 h1)];exact ih
  ·rw [if_neg (fun q=>h1 q.2),if_pos ⟨by omega,h1⟩,List.length_append]
   simp only [List.length_cons,List.length_nil];omega
theorem run_last (f:Nat→Int) (n:Nat):runL f (n+1) (n+1)=((runL f (n+1) n).1 ++ [((runL f (n+1) n).2,n)],n+1):=by
 show (if n+1<n+1∧f (n+1)=f n then _ else _)=_
 rw [if_neg (fun q=>absurd q.1 (Nat.lt_irrefl _))]
theorem run_number (f:Nat→Int) (n:Nat):((runL f (n+1) (n+1)).1.length:Int)=chgF f (n+1)+1:=by
 rw [run_last,List.length_append,← run_len f (n+1) n (by omega)]
 simp
theorem run_first (f:Nat→Int) (n:Nat):∀ k,((runL f n k).1=[]∧(runL f n k).2=0) ∨ ∃ j t,(runL f n k).1=(0,j) :: t
 | 0=>.inl ⟨rfl,rfl⟩
 | k+1=>by
  have e2:runL f n (k+1)=if k+1<n∧f (k+1)=f k then runL f n k else ((runL f n k).1 ++ [((runL f n k).2,k)],k+1):=rfl;rw [e2];split
  ·exact run_first f n k
  ·rcases run_first f n k with ⟨h1,h2⟩ | ⟨j,t,h1⟩
   ·exact .inr ⟨k,[],by rw [h1,h2];rfl⟩
   ·exact .inr ⟨j,t ++ [((runL f n k).2,k)],by rw [h1];rfl⟩
end Go.Proofs.YtmkoegljnebdiaaGreat
namespace Go.Proofs.YtmkoegljnebdiaaGreat
open Go.RowKit Go.Shelf
set_option maxRecDepth 100000
set_option maxHeartbeats 16000000

theorem wpo_callF {P:Program} {o:Oper} {a:Act} {w:World} {K:Act→World→Prop} {Q:Exit→Act→World→Prop} (f:Nat) (caps:Array Value) (x:Operand) (xs:Array Operand) (ts:Array TypeId) (ho:o.op=.call { callee:=.value x,args:=xs,argTypes:=ts }) (hv:a.eval x=.func (.func f) #[] caps) (vs:Array Value) (hx:xs.map a.eval=vs)
  (eg:∀ args w,(callFunc f args).run P w=.ok (.enter f args) w) (h:Calls P f (vs ++ caps) w fun e w'=>∃ v,e=.returned v∧K (a.put o.dst v) w'):o.wp P a w K Q:=by
 unfold Oper.wp execOp;simp only [ho,resolve,hx,hv,Deferred.ofValue,Sem.run_bind,Sem.run_pure,Result.andThen_ok,invoke];simp [eg,Oper.upon]
 refine h.mono ?_
 rintro e w' ⟨v,rfl,hk⟩;exact hk
theorem wpo_mapPut {o:Oper} {a:Act} {w w':World} {K:Act→World→Prop} {Q:Exit→Act→World→Prop} (t:TypeId) (m x v:Operand) (ho:o.op=.mapUpdate t m x v) (mv xv vv:Value) (hm:a.eval m=mv) (hx:a.eval x=xv) (hv:a.eval v=vv)
  (hr:(Instr.mapUpdate t mv xv vv).run Tryz.prog w=.ok () w') (h:K (a.put o.dst undef) w'):o.wp Tryz.prog a w K Q:=by
 unfold Oper.wp;simp [execOp,ho,hm,hx,hv,hr,Result.andThen]
 exact h
structure PW (w wr:World) (gm gp b g n c:Nat) (ks:List (Int × Int)) (F:Int × Int→Int):Prop where
 below:Below w.heap.size w wr
 km:Bk wr gm 77 #[.slice (some ⟨g,0,none⟩) n c]
 kp:Bk wr gp 138 #[.map (some b)]
 hm:w.heap.size≤gm
 hp:w.heap.size≤gp
 hb:w.heap.size≤b
 ne1:gm ≠ b
 ne2:gp ≠ b
 map:PMap wr b ks fun k=>.int .i64 (F k)
section
variable {w wr w2:World} {gm gp b g n c:Nat} {ks ks':List (Int × Int)} {F F':Int × Int→Int}
theorem PW.to (h:PW w wr gm gp b g n c ks F) (hb:Below wr.heap.size wr w2):PW w w2 gm gp b g n c ks F :=
 ⟨h.below.trans (hb.mono h.below.size),h.km.below hb h.km.lt,h.kp.below hb h.kp.lt,h.hm,h.hp,h.hb,h.ne1,h.ne2,h.map.below hb⟩
theorem PW.put (h:PW w wr gm gp b g n c ks F) (ho:Only b wr w2) (hm:PMap w2 b ks' fun k=>.int .i64 (F' k)):PW w w2 gm gp b g n c ks' F' :=
 ⟨h.below.trans ⟨ho.os,ho.tape,ho.output,by rw [ho.size];exact Nat.le_refl _,fun i hi=>ho.block i (by have:=h.hb;omega)⟩,h.km.only ho h.ne1,h.kp.only ho h.ne2,h.hm,h.hp,h.hb,h.ne1,h.ne2,hm⟩
end
theorem ints_snoc (f:Nat→Int) (k:Nat) (m:Int):ints ((List.range (k+1)).map fun i=>if i=k then m else f i)=ints ((List.range k).map f) ++ [.int .i64 m]:=by
 unfold ints;rw [List.range_succ,List.map_append,List.map_append];congr 1
 ·rw [List.map_map,List.map_map];exact List.map_congr_left fun i hi=>by
   have:=List.mem_range.1 hi
   show Value.int .i64 (if i=k then m else f i)=_
   rw [if_neg (by omega)];rfl
 ·simp
def PlanPost (n:Nat) (M:Nat→Nat) (w:World) (e:Ending) (w':World):Prop:=∃ u cur f,e=.returned (.tuple #[u,.int .i64 (chgF f n),.int .i64 0])∧(∀ i,i<n→f i ∈ chs (M i))∧LstAt 1 u cur n (ints ((List.range n).map f))∧Fr w [] (lstE 3 u cur) w'
theorem plan15_any (g n c:Nat) (M:Nat→Nat) (hn:n≤4096) (h1n:0<n) (hM:∀ k,k<n→M k<16) (w:World) (hI:IntAt w g n fun k=>(M k:Nat)) :
  Calls Tryz.prog 15 #[.slice (some ⟨g,0,none⟩) n c] w (PlanPost n M w):=by
 have HCM:=hZ fun w' (hb:Below w.heap.size w w')=>checkMasks_any g n c (fun k=>(M k:Nat)) hn w' (hI.to hb) (fun k hk=>⟨by omega,by have:=hM k hk;omega⟩)
 have HCH:=hZ fun at' (h:at'<n) w'=>choices_any (M at') (hM at' h) w';have HPL:=hZ fun at' own (ha:at'<n) (ho:I64 own) gm gp b ks F w' (hp:PW w w' gm gp b g n c ks F) hD=>plan49_any g n c gm gp b M ks F at' own hn ha hM ho w' (hI.to hp.below) hp.km hp.kp hp.map hD;have HI:=hZ hI;have HM:=hZ hM;refine pQ fun PQ hPQ=>?_
 have HFIN:Hid (∀ w' u cur f ch,ch=chgF f n→(∀ i,i<n→f i ∈ chs (M i))→LstAt 1 u cur n (ints ((List.range n).map f))→Fr w [] (lstE 3 u cur) w'→PQ (.returned (.tuple #[u,.int .i64 ch,.int .i64 0])) w') :=
  hZ fun w' u cur f ch h1 h2 h3 h4=>by rw [← hPQ,h1];exact ⟨u,cur,f,rfl,h2,h3,h4⟩
 clear hPQ hI hM;obtain ⟨gm,hgm⟩:=eX w.heap.size;obtain ⟨W0,hW0⟩:=eX (w.alloc (.cells #[.slice (some ⟨g,0,none⟩) n c] 77));have HF0:Hid (Fr w [] [(gm,77,#[.slice (some ⟨g,0,none⟩) n c])] W0):=hZ (by rw [← hW0];exact (Fr.start w).alloc hgm.symm 77 #[.slice (some ⟨g,0,none⟩) n c])
 have HGM:Hid (w.heap.size≤gm):=hZ (by omega)
 go_enter Tryz.func15,Tryz.ntmps15;go_upto_region 1 with (fail);clear hW0;have c1:W0.cell? ⟨gm,0,none⟩=some (.slice (some ⟨g,0,none⟩) n c):=(HF0.out.get 0 rfl).cell 0;go_wp2_with fail
 clear c1 hgm;refine mB HF0.out (HCM.out _ HF0.out.toBelow) fun w1 HF1=>?_;obtain ⟨b,hb⟩:=eX w1.heap.size;obtain ⟨w2,hw2⟩:=eX (w1.alloc (.map #[] 0));have hs2:w2.heap.size=b+1:=by rw [← hw2];simp [hb]
 obtain ⟨w3,hw3⟩:=eX (w2.alloc (.cells #[.map none] 138));have hmm:=@run_makeMap Tryz.prog;have HK3:Hid (Bk w3 (b+1) 138 #[.map none]):=hZ (by rw [← hw3,← hs2];exact Bk.new _ _ _)
 have hb3:Below w1.heap.size w1 w3:=by
  rw [← hw3,← hw2];exact ((Below.refl _ _).alloc (Nat.le_refl _) _).alloc (by simp) _
 have HPM3:Hid (PMap w3 b [] fun _=>.int .i64 0):=hZ (by
  have h:=PMap.made w1 (fun _=>Value.int .i64 0);rw [hw2,hb] at h;exact h.below (by rw [← hw3];exact (Below.refl _ _).alloc (Nat.le_refl _) _))
 have HF3:=hZ (HF1.out.below hb3);have HGB:Hid (gm<b∧w.heap.size≤b):=hZ ⟨by rw [← hb];exact (HF1.out.get 0 rfl).lt,by rw [← hb];exact HF1.out.size⟩
 have hn2:wrap64 ((n:Int) - 2)=(n:Int) - 2:=w64_in (by omega) (by omega)
 have hn2':IntKind.i64.wrap ((n:Int) - 2)=(n:Int) - 2:=IntWalk.i64_in _ (by omega)
 clear hb3;go_wp2_with (refine wpStoreCell rfl rfl 138 _ _ rfl (b+1) 0 rfl (.map (some b)) rfl _ _ HK3.out (by show 0<1;omega) rfl (by kernel_rfl) ?_;intro w4 hk ho;have HPW:Hid (PW w w4 gm (b+1) b g n c [] fun _=>0):=hZ ⟨HF3.out.toBelow.trans ⟨ho.os,ho.tape,ho.output,by rw [ho.size];exact Nat.le_refl _,fun i hi=>ho.block i (by have:=HGB.out;omega)⟩,(HF3.out.get 0 rfl).only ho (by have:=HGB.out;omega),hk,HGM.out,by have:=HGB.out;omega,HGB.out.2,by have:=HGB.out;omega,by omega,HPM3.out.keep (ho.block b (by omega))⟩;clear hk ho hmm hw3 hw2;have c2:w4.cell? ⟨gm,0,none⟩=some (.slice (some ⟨g,0,none⟩) n c):=HPW.out.km.cell 0)
 clear c2;have HR0:Hid (∃ ks F,PW w w4 gm (b+1) b g n c ks F∧InvP n M (saysB ks F) (n - 1)):=hZ ⟨[],fun _=>0,HPW.out,by
  rw [show saysB [] (fun _=>0)=fun _=>0 from by funext k;simp [saysB]];exact InvP.start n M⟩
 obtain ⟨gp,hgp⟩:=eX (b+1);rw [hgp] at HR0 ⊢;clear HPW HK3 HPM3 HF3 HF1 HF0 hs2 hb hgp;go_loopw [8] (fun av wr=>∃ (r:Nat) (x:Int),r≤n - 1∧x=(r:Int) - 1∧av=.int .i64 x∧Hid (∃ ks F,PW w wr gm gp b g n c ks F∧InvP n M (saysB ks F) r)) (fun av _=>(intOf av+1).toNat)
 case atStart=>exact ⟨n - 1,(n:Int) - 2,Nat.le_refl _,by omega,rfl,HR0⟩
 case round =>
  clear hn2 hn2' HR0;obtain ⟨wo,rfl⟩:∃ wo:World,wo=wr:=⟨_,rfl⟩;obtain ⟨r,x,hr,hx,rfl,hs⟩:=hrel;obtain ⟨ks,F,hpw,hinv⟩:=hs.out;have HPW:=hZ hpw;have HINV:=hZ hinv;clear hs hpw hinv;rcases r with _ | a
  ·obtain rfl:x=-1:=by omega
   clear hx;have c1:wo.cell? ⟨gm,0,none⟩=some (.slice (some ⟨g,0,none⟩) n c):=HPW.out.km.cell 0;go_wp2_with fail
   clear c1;obtain ⟨D,hD⟩:=eX (saysB ks F);have HCALL:=hZ fun at' own (ha:at'<n) (ho:I64 own) w' (hb:Below wo.heap.size wo w')=>HPL.out at' own ha ho gm gp b ks F w' (HPW.out.to hb) (fun k=>⟨HINV.out.2.2.1 k,HINV.out.2.2.2.2 k⟩);rw [hD] at HINV HCALL;clear hD;go_loopw [2,3,54] (fun u cv kv wr=>∃ (k:Nat) (ch:Int) (f:Nat→Int) (cur:Array Value),k≤n∧kv=.int .i64 (k:Int)∧cv=.int .i64 ch∧Hid (LstAt 1 u cur k (ints ((List.range k).map f))∧Fr wo [] ([] ++ (lstE 3 u cur ++ [])) wr∧InvQ M D f k ch)) (fun _ _ kv _=>n - (intOf kv).toNat)
   case atStart=>exact ⟨0,0,fun _=>0,#[],Nat.zero_le _,rfl,rfl,hZ ⟨LstAt.nil 1,Fr.start wo,fun i h=>absurd h (by omega),fun _=>rfl,fun j h=>absurd h (by omega)⟩⟩
   case round =>
    obtain ⟨wi,rfl⟩:∃ wi:World,wi=wr:=⟨_,rfl⟩;obtain ⟨k,ch,f,cur,hk,rfl,rfl,hs⟩:=hrel;obtain ⟨q1,m1,k1,rfl⟩:=lst_slice hs.out.1;have h0k:(0:Int)≤(k:Int):=by omega
    by_cases hlt:k<n
    rotate_left
    ·obtain rfl:n=k:=by omega
     have hneg:¬ (n:Int)<(n:Int):=by omega
     go_wp2_with fail
     refine bodyPost_ret (results_tmp3 rfl _ _ _) rfl ?_
     exact HFIN.out _ _ cur f ch (hs.out.2.2.last HINV.out h1n) hs.out.2.2.1 hs.out.1 ((Fr.ofBelow HPW.out.below).more (by have h:=hs.out.2.1;rw [List.append_nil] at h;exact h))
    ·have hki:(k:Int)<(n:Int):=by omega
     have HLT:=hZ hlt;have HL:=hZ hs.out.1;have HF5:Hid (Fr wo [] ([] ++ (lstE 3 (.slice q1 m1 k1) cur ++ [])) wi):=hZ hs.out.2.1;have HQ:=hZ hs.out.2.2;have heg:∀ args w,(callFunc 49 args).run Tryz.prog w=.ok (.enter 49 args) w:=fun _ _=>rfl;clear hs;rcases k with _ | j
     ·have HCL:=hZ (HCALL.out 0 (-1) hlt (by unfold I64;omega) wi HF5.out.toBelow)
      have HIQ:=hZ (InvQ.first HINV.out (HM.out 0 hlt) f);obtain ⟨⟨p1,p2⟩,hpk⟩:=eX (pickB D (chs (M 0)) 0 (-1));rw [hpk] at HCL HIQ;dsimp only at HCL HIQ;clear hpk;go_wp2_with fail
      clear heg;refine HCL.out.mono ?_
      rintro e w6 ⟨rfl,hw⟩;have HF6:=hZ (HF5.out.below hw);clear hw;obtain ⟨gb,hgb⟩:=eX w6.heap.size;obtain ⟨w7,hw7⟩:=eX (w6.alloc (.cells #[.int .i64 p1] 3));have HF7:Hid (Fr wo [] ([(gb,3,#[.int .i64 p1])] ++ (lstE 3 (.slice q1 m1 k1) cur ++ [])) w7):=hZ (by rw [← hw7];exact Fr.allocM (N:=[]) (T:=lstE 3 (.slice q1 m1 k1) cur ++ []) HF6.out hgb.symm 3 #[.int .i64 p1])
      go_wp2_with (refine wpList_push (e:=3) (v:=.slice q1 m1 k1) (cur:=cur) (n:=0) (xs:=ints ((List.range (0)).map f)) (Y:=[]) (N:=[(gb,3,#[.int .i64 p1])]) rfl (.tmp 74) (.tmp 76) 77 rfl HF7.out HL.out u_77 i_3 rfl (by decide) (by decide) (by have:=HLT.out;omega) gb 1 #[.int .i64 p1] 3 rfl rfl (HF7.out.get 0 rfl) rfl rfl ?_;intro v' w' cur' h2 h3;have HP:=hZ (And.intro h2 h3);clear h2 h3)
      go_roundw
      case rel =>
       have HNEW:Hid (LstAt 1 v' cur' (0+1) (ints ((List.range (0+1)).map fun i=>if i=0 then p1 else f i))∧Fr wo [] ([] ++ (lstE 3 v' cur' ++ [])) w'∧InvQ M D (fun i=>if i=0 then p1 else f i) (0+1) p2) :=
        hZ ⟨by rw [ints_snoc];exact HP.out.1,HP.out.2.sub (by exact List.sublist_append_right _ _),HIQ.out⟩
       first
       | exact ⟨0+1,p2,_,cur',by have:=HLT.out;omega,by go_num,by rfl,HNEW⟩
       | exact ⟨v',_,_,⟨0+1,p2,_,cur',by have:=HLT.out;omega,rfl,rfl,HNEW⟩,rfl,rfl,by go_num⟩
       | trace_state
      case measure=>simp [intOf] <;> omega
     ·obtain ⟨gq,cap,hsl,-,-,hcs,htk⟩:∃ gq cap,Value.slice q1 m1 k1=.slice (some ⟨gq,0,none⟩) (j+1) cap∧j+1≤cap∧cap≤maxLen∧cur.size=cap * 1∧cur.toList.take ((j+1) * 1)=ints ((List.range (j+1)).map f):=by
       rcases HL.out.2 with ⟨_,h0⟩ | ⟨g0,cap,h⟩
       ·omega
       ·exact ⟨g0,cap,h⟩
      injection hsl with e1 e2 e3
      subst e1 e2 e3;have hel:wi.cell? ⟨gq,j,none⟩=some (.int .i64 (f j)):=by
       rw [Bk.cell (HF5.out.get 0 rfl) j,← Array.getElem?_toList];have h3:(cur.toList.take ((j+1) * 1))[j]?=(ints ((List.range (j+1)).map f))[j]?:=by rw [htk]
       rw [List.getElem?_take,if_pos (by omega)] at h3
       rw [h3];unfold ints;simp
      have hfj:=chs_in (M j) (HM.out j (by omega)) (HQ.out.1 j (by omega))
      have HCL:=hZ (HCALL.out (j+1) (f j) hlt (by unfold I64;omega) wi HF5.out.toBelow)
      have HIQ:=hZ (InvQ.next HQ.out HINV.out hlt (HM.out (j+1) hlt));obtain ⟨⟨p1,p2⟩,hpk⟩:=eX (pickB D (chs (M (j+1))) (j+1) (f j));rw [hpk] at HCL HIQ;dsimp only at HCL HIQ;have hwj:IntKind.i64.wrap (j:Int)=(j:Int):=IntWalk.i64_in _ (by omega)
      have hwj2:wrap64 (((j+1:Nat):Int) - 1)=(j:Int):=by rw [w64_in (by omega) (by omega)];omega
      have hj1:(j:Int)<((j+1:Nat):Int):=by omega
      have h0j:(0:Int)≤(j:Int):=by omega
      have hpos:(0:Int)<((j+1:Nat):Int):=by omega
      have hne0:¬ ((j+1:Nat):Int)=0:=by omega
      clear hpk hcs htk;go_wp2_with fail
      clear heg hel;refine HCL.out.mono ?_
      rintro e w6 ⟨rfl,hw⟩;have HF6:=hZ (HF5.out.below hw);clear hw;obtain ⟨gb,hgb⟩:=eX w6.heap.size;obtain ⟨w7,hw7⟩:=eX (w6.alloc (.cells #[.int .i64 p1] 3));have HF7:Hid (Fr wo [] ([(gb,3,#[.int .i64 p1])] ++ (lstE 3 (.slice (some ⟨gq,0,none⟩) (j+1) k1) cur ++ [])) w7):=hZ (by rw [← hw7];exact Fr.allocM (N:=[]) (T:=lstE 3 (.slice (some ⟨gq,0,none⟩) (j+1) k1) cur ++ []) HF6.out hgb.symm 3 #[.int .i64 p1])
      go_wp2_with (refine wpList_push (e:=3) (v:=.slice (some ⟨gq,0,none⟩) (j+1) k1) (cur:=cur) (n:=(j+1)) (xs:=ints ((List.range ((j+1))).map f)) (Y:=[]) (N:=[(gb,3,#[.int .i64 p1])]) rfl (.tmp 74) (.tmp 76) 77 rfl HF7.out HL.out u_77 i_3 rfl (by decide) (by decide) (by have:=HLT.out;omega) gb 1 #[.int .i64 p1] 3 rfl rfl (HF7.out.get 0 rfl) rfl rfl ?_;intro v' w' cur' h2 h3;have HP:=hZ (And.intro h2 h3);clear h2 h3)
      go_roundw
      case rel =>
       have HNEW:Hid (LstAt 1 v' cur' ((j+1)+1) (ints ((List.range ((j+1)+1)).map fun i=>if i=(j+1) then p1 else f i))∧Fr wo [] ([] ++ (lstE 3 v' cur' ++ [])) w'∧InvQ M D (fun i=>if i=(j+1) then p1 else f i) ((j+1)+1) ch) :=
        hZ ⟨by rw [ints_snoc];exact HP.out.1,HP.out.2.sub (by exact List.sublist_append_right _ _),HIQ.out⟩
       first
       | exact ⟨(j+1)+1,ch,_,cur',by have:=HLT.out;omega,by go_num,by rfl,HNEW⟩
       | exact ⟨v',_,_,⟨(j+1)+1,ch,_,cur',by have:=HLT.out;omega,rfl,rfl,HNEW⟩,rfl,rfl,by go_num⟩
       | trace_state
      case measure=>simp [intOf] <;> omega
  ·obtain rfl:x=(a:Int):=by omega
   clear hx;have h0a:(0:Int)≤(a:Int):=by omega
   have han:a+1<n:=by omega
   have hai:(a:Int)<(n:Int):=by omega
   have HAN:=hZ han;have c1:wo.cell? ⟨gm,0,none⟩=some (.slice (some ⟨g,0,none⟩) n c):=HPW.out.km.cell 0;have c2:wo.cell? ⟨g,a,none⟩=some (.int .i64 (M a:Nat)):=(HI.out.to HPW.out.below).cell a (by omega)
   have ham1:wrap64 ((a:Int) - 1)=(a:Int) - 1:=w64_in (by omega) (by omega)
   have ham1':IntKind.i64.wrap ((a:Int) - 1)=(a:Int) - 1:=IntWalk.i64_in _ (by omega)
   have hap1:wrap64 ((a:Int)+1)=((a+1:Nat):Int):=w64_succ (show a<n by omega) hn
   have hap1':IntKind.i64.wrap ((a:Int)+1)=((a+1:Nat):Int):=wi_succ (show a<n by omega) hn
   go_wp2_with fail
   clear c1 c2;refine (HCH.out a (by omega) _).mono ?_
   rintro e w5 ⟨u,cur,rfl,hL,hw⟩;obtain ⟨l,hl⟩:=eX (chs (M a));have hMa:=HM.out a (by omega)
   have hne:=chs_ne (M a) hMa;have HIN:=hZ fun m=>chs_in (M a) hMa (m:=m);have HL:=hZ hl;have hlen:l.length≤16:=by
    rw [← hl];unfold chs;split
    ·simp
    ·rw [List.length_map];exact Nat.le_trans (List.length_filter_le _ _) (by simp)
   rw [hl] at hL hne HIN;have hn0:0<l.length:=List.length_pos_iff.2 hne;obtain ⟨gl,cap,rfl,hcap1,hcap2,hcap3,hcap4⟩:∃ gl cap,u=.slice (some ⟨gl,0,none⟩) l.length cap∧l.length≤cap∧cap≤maxLen∧cur.size=cap * 1∧cur.toList.take (l.length * 1)=ints l:=by
    rcases hL.2 with ⟨_,h0⟩ | ⟨g0,cap,h⟩
    ·omega
    ·exact ⟨g0,cap,h⟩
   have HF5:Hid (Fr wo [] [(gl,3,cur)] w5):=hZ hw;have HEL:Hid (∀ w',Bk w' gl 3 cur→∀ x m,l[x]?=some m→w'.cell? ⟨gl,x,none⟩=some (.int .i64 m)):=hZ fun w' hk x m hm=>by
    have hx:=(List.getElem?_eq_some_iff.1 hm).1;rw [Bk.cell hk x,← Array.getElem?_toList];have h3:(cur.toList.take (l.length * 1))[x]?=(ints l)[x]?:=by rw [hcap4]
    rw [List.getElem?_take,if_pos (by omega)] at h3
    rw [h3];unfold ints;rw [List.getElem?_map,hm];rfl
   have HGL:Hid (gl ≠ b):=hZ (by have h1:=HF5.out.ge 0 rfl;have h2:=HPW.out.map.lt;omega)
   have HR1:Hid (∃ ks F,PW w w5 gm gp b g n c ks F∧Bk w5 gl 3 cur∧InvX n M (saysB ks F) a 0):=hZ ⟨ks,F,HPW.out.to HF5.out.toBelow,HF5.out.get 0 rfl,InvX.start HINV.out⟩;obtain ⟨L,hLL⟩:=eX l.length;rw [hLL] at hlen hn0 hcap1 ⊢;have HLL:=hZ hLL;clear hw hL hcap3 hcap4 hLL HF5 HPW HINV hl hne;go_wp2_with fail
   go_loopw [35] (fun xv wr=>∃ x:Nat,x≤L∧xv=.int .i64 (x:Int)∧Hid (∃ ks F,PW w wr gm gp b g n c ks F∧Bk wr gl 3 cur∧InvX n M (saysB ks F) a x)) (fun xv _=>L - (intOf xv).toNat)
   case atStart=>exact ⟨0,Nat.zero_le _,rfl,HR1⟩
   case round =>
    obtain ⟨wi,rfl⟩:∃ wi:World,wi=wr:=⟨_,rfl⟩;obtain ⟨x,hx,rfl,hs⟩:=hrel;obtain ⟨ks,F,hpw,hbk,hinv⟩:=hs.out;have HPW:=hZ hpw;have HBK:=hZ hbk;have HINV:=hZ hinv;clear hs hpw hbk hinv HR1;have h0x:(0:Int)≤(x:Int):=by omega
    by_cases hlt:x<L
    rotate_left
    ·obtain rfl:L=x:=by omega
     have hneg:¬ (L:Int)<(L:Int):=by omega
     go_wp2_with fail
     go_roundw
     case rel=>exact ⟨a,(a:Int) - 1,by have:=HAN.out;omega,by omega,by go_num,hZ ⟨ks,F,HPW.out,HINV.out.stop (by rw [HL.out,HLL.out];exact Nat.le_refl _)⟩⟩
     case measure=>simp [intOf] <;> omega
    ·have hxi:(x:Int)<(L:Int):=by omega
     have HLT:=hZ hlt;obtain ⟨m,hm⟩:∃ m,l[x]?=some m:=⟨_,List.getElem?_eq_getElem (by rw [HLL.out];exact hlt)⟩
     have hme:=HIN.out m (List.mem_of_getElem? hm);have hel:=HEL.out _ HBK.out x m hm;have HMX:Hid ((chs (M a))[x]?=some m):=hZ (by rw [HL.out];exact hm)
     have HCALL:=hZ fun w' (hb:Below wi.heap.size wi w')=>HPL.out (a+1) m HAN.out (by unfold I64;omega) gm gp b ks F w' (HPW.out.to hb) (fun k=>⟨HINV.out.1.2.2.1 k,HINV.out.1.2.2.2.2 k⟩)
     obtain ⟨D,hD⟩:=eX (saysB ks F);have HDD:=hZ hD;rw [hD] at HCALL HINV;have HSTP:=hZ (HINV.out.step HAN.out (HM.out (a+1) HAN.out) hn HMX.out);obtain ⟨⟨p1,p2⟩,hpk⟩:=eX (pickB D (chs (M (a+1))) (a+1) m);rw [hpk] at HCALL HSTP;dsimp only at HCALL HSTP;clear hD hpk hm;go_upto_region 12 with (fail);clear hel;refine wp_region_stepsJ (by kernel_rfl) (by kernel_rfl)
      (fun dn _ w1=>(dn 12=false→Below wi.heap.size wi w1)∧(dn 12=true→∃ ks' F',PW w w1 gm gp b g n c ks' F'∧Bk w1 gl 3 cur∧saysB ks' F'=fun k=>if k=((a:Int),m) then p2 else saysB ks F k))
      (fun _ _ _=>True)
      (fun ix u _ _=>match ix with
       | 0=>u=.map (some b)
       | 1=>u=.int .i64 (a:Int)
       | 2=>u=.int .i64 m
       | 3=>u=.agg #[.int .i64 (a:Int),.int .i64 m]
       | 4=>u=.func (.func 49) #[] #[.pointer (some ⟨gm,0,none⟩),.pointer (some ⟨gp,0,none⟩)]
       | 5=>u=.int .i64 (a:Int)
       | 6=>u=.int .i64 ((a+1:Nat):Int)
       | 7=>u=.int .i64 m
       | 8=>u=.tuple #[.int .i64 p1,.int .i64 p2]
       | 9=>u=.tuple #[.int .i64 p1,.int .i64 p2]
       | 10=>u=.int .i64 p1
       | 11=>u=.int .i64 p2
       | _=>True)
      (fun _=>⟨fun _=>(Fr.start wi).drew.toBelow,fun h=>by cases h⟩) (fun _ _ _ _ _ _ _ _ h _=>h) ?_ ?_
     ·refine ⟨?_,?_,?_,?_,?_,?_,?_,?_,?_,?_,?_,?_,?_,trivial⟩
      ·intro a' w1 vs K dn Hd Hb HJ HK HD HN kk;have d12:dn 12=false:=by cases hq:dn 12 with | false=>rfl | true=>exact absurd (Hd 12 hq).2 (by decide)
       have hbe:=HJ.1 d12;have e6:=HK 6 (by decide)
       have ca:w1.cell? ⟨gp,0,none⟩=some (.map (some b)):=(HPW.out.to hbe).kp.cell 0;go_simp;exact kk _ _ (by simp) HJ trivial rfl
      ·intro a' w1 vs K dn Hd Hb HJ HK HD HN kk;have d12:dn 12=false:=by cases hq:dn 12 with | false=>rfl | true=>exact absurd (Hd 12 hq).2 (by decide)
       have hbe:=HJ.1 d12;have e8:=HK 8 (by decide)
       go_simp;exact kk _ _ (by simp) HJ trivial rfl
      ·intro a' w1 vs K dn Hd Hb HJ HK HD HN kk;have d12:dn 12=false:=by cases hq:dn 12 with | false=>rfl | true=>exact absurd (Hd 12 hq).2 (by decide)
       have hbe:=HJ.1 d12;have e10:=HK 10 (by decide)
       go_simp;exact kk _ _ (by simp) HJ trivial rfl
      ·intro a' w1 vs K dn Hd Hb HJ HK HD HN kk;have d12:dn 12=false:=by cases hq:dn 12 with | false=>rfl | true=>exact absurd (Hd 12 hq).2 (by decide)
       have hbe:=HJ.1 d12;have e41:=hdE (HD 1 _ 41 rfl rfl rfl);have e42:=hdE (HD 2 _ 42 rfl rfl rfl);go_simp;exact kk _ _ (by simp) HJ trivial rfl
      ·intro a' w1 vs K dn Hd Hb HJ HK HD HN kk;have d12:dn 12=false:=by cases hq:dn 12 with | false=>rfl | true=>exact absurd (Hd 12 hq).2 (by decide)
       have hbe:=HJ.1 d12;have e7:=HK 7 (by decide)
       go_simp;exact kk _ _ (by simp) HJ trivial rfl
      ·intro a' w1 vs K dn Hd Hb HJ HK HD HN kk;have d12:dn 12=false:=by cases hq:dn 12 with | false=>rfl | true=>exact absurd (Hd 12 hq).2 (by decide)
       have hbe:=HJ.1 d12;have e8:=HK 8 (by decide)
       go_simp;exact kk _ _ (by simp) HJ trivial rfl
      ·intro a' w1 vs K dn Hd Hb HJ HK HD HN kk;have d12:dn 12=false:=by cases hq:dn 12 with | false=>rfl | true=>exact absurd (Hd 12 hq).2 (by decide)
       have hbe:=HJ.1 d12;have e45:=hdE (HD 5 _ 45 rfl rfl rfl);go_simp;exact kk _ _ (by simp) HJ trivial rfl
      ·intro a' w1 vs K dn Hd Hb HJ HK HD HN kk;have d12:dn 12=false:=by cases hq:dn 12 with | false=>rfl | true=>exact absurd (Hd 12 hq).2 (by decide)
       have hbe:=HJ.1 d12;have e10:=HK 10 (by decide)
       go_simp;exact kk _ _ (by simp) HJ trivial rfl
      ·intro a' w1 vs K dn Hd Hb HJ HK HD HN kk;have d12:dn 12=false:=by cases hq:dn 12 with | false=>rfl | true=>exact absurd (Hd 12 hq).2 (by decide)
       have hbe:=HJ.1 d12;have e44:=hdE (HD 4 _ 44 rfl rfl rfl);have e46:=hdE (HD 6 _ 46 rfl rfl rfl);have e47:=hdE (HD 7 _ 47 rfl rfl rfl);exact wpo_callF 49 #[.pointer (some ⟨gm,0,none⟩),.pointer (some ⟨gp,0,none⟩)] (.tmp 44) #[.tmp 46,.tmp 47] _ rfl (by simpa [Act.eval] using e44) #[.int .i64 ((a+1:Nat):Int),.int .i64 m] (by simp [Act.eval,e46,e47]) (fun _ _=>rfl) ((HCALL.out w1 hbe).mono fun e w' h=>⟨_,h.1,kk _ _ (by simp) ⟨fun _=>hbe.trans (h.2.mono hbe.size),fun hq=>absurd (show dn 12=true from hq) (by rw [d12];decide)⟩ trivial rfl⟩)
      ·intro a' w1 vs K dn Hd Hb HJ HK HD HN kk;have d12:dn 12=false:=by cases hq:dn 12 with | false=>rfl | true=>exact absurd (Hd 12 hq).2 (by decide)
       have hbe:=HJ.1 d12;have e48:=hdE (HD 8 _ 48 rfl rfl rfl);go_simp;exact kk _ _ (by simp) HJ trivial rfl
      ·intro a' w1 vs K dn Hd Hb HJ HK HD HN kk;have d12:dn 12=false:=by cases hq:dn 12 with | false=>rfl | true=>exact absurd (Hd 12 hq).2 (by decide)
       have hbe:=HJ.1 d12;have e39:=hdE (HD 9 _ 39 rfl rfl rfl);go_simp;exact kk _ _ (by simp) HJ trivial rfl
      ·intro a' w1 vs K dn Hd Hb HJ HK HD HN kk;have d12:dn 12=false:=by cases hq:dn 12 with | false=>rfl | true=>exact absurd (Hd 12 hq).2 (by decide)
       have hbe:=HJ.1 d12;have e39:=hdE (HD 9 _ 39 rfl rfl rfl);go_simp;exact kk _ _ (by simp) HJ trivial rfl
      ·intro a' w1 vs K dn Hd Hb HJ HK HD HN kk;have d12:dn 12=false:=by cases hq:dn 12 with | false=>rfl | true=>exact absurd rfl (Hd 12 hq).1
       have hbe:=HJ.1 d12;have e40:=hdE (HD 0 _ 40 rfl rfl rfl);have e43:=hdE (HD 3 _ 43 rfl rfl rfl);have e50:=hdE (HD 11 _ 50 rfl rfl rfl);obtain ⟨w',ks',F',hrun,hmp,hon,hsy⟩:=put_int (HPW.out.to hbe).map (x:=(a:Int)) (y:=m) (by unfold I64;omega) (by unfold I64;omega) p2
       exact wpo_mapPut 138 _ _ _ rfl _ _ _ (by simpa [Act.eval] using e40) (by simpa [Act.eval] using e43) (by simpa [Act.eval] using e50) hrun (kk _ _ (by simp) ⟨(fun hq=>by cases hq),fun _=>⟨ks',F',(HPW.out.to hbe).put hon hmp,(HBK.out.below hbe HBK.out.lt).only hon HGL.out,hsy⟩⟩ trivial trivial)
     ·intro vs dn w6 hdn hJ hrr;obtain ⟨ks',F',hpw,hbk,hsy⟩:=hJ.2 (hdn 12 (by decide))
      rw [HDD.out] at hsy;have HP6:=hZ hpw;have HB6:=hZ hbk;have HS6:=hZ hsy;clear hrr hJ hdn hpw hbk hsy;simp only [putAll,Act.put,List.setIfInBounds_toArray,List.set_cons_zero,List.set_cons_succ];obtain ⟨w7,rfl⟩:∃ u:World,u=w6:=⟨_,rfl⟩;go_wp2_with fail
      go_roundw
      case rel=>exact ⟨x+1,by have:=HLT.out;omega,by go_num,hZ ⟨ks',F',HP6.out,HB6.out,by rw [HS6.out];exact HSTP.out⟩⟩
      case measure=>simp [intOf];omega
end Go.Proofs.YtmkoegljnebdiaaGreat
namespace Go.Proofs.YtmkoegljnebdiaaGreat
open Go.RowKit
set_option maxRecDepth 100000
set_option maxHeartbeats 16000000

theorem chs_neg {x:Nat} {m:Int} (h:m ∈ chs x):(m<0 ↔ x=0)∧(0≤m→x.testBit m.toNat=true):=by
 unfold chs at h;split at h
 ·rename_i h0
  simp at h
  subst h;exact ⟨⟨fun _=>h0,fun _=>by omega⟩,fun h=>absurd h (by omega)⟩
 ·rename_i h0
  obtain ⟨k,hk,rfl⟩:=List.mem_map.1 h;have hb:=(List.mem_filter.1 hk).2;exact ⟨⟨fun h=>absurd h (by show ¬ (k:Int)<0;omega),fun h=>absurd h h0⟩,fun _=>hb⟩
def noneB (f:Nat→Int):Nat→Nat
 | 0=>0
 | k+1=>if f k<0 then noneB f k+1 else noneB f k
theorem none_zeros {f:Nat→Int} {M:Nat→Nat}:∀ n,(∀ i,i<n→f i ∈ chs (M i))→noneB f n=zerosB (fun k=>(M k:Nat)) n
 | 0,_=>rfl
 | n+1,h=>by
  have h1:=(chs_neg (h n (by omega))).1
  unfold noneB zerosB;rw [none_zeros n fun i hi=>h i (by omega)]
  by_cases hc:M n=0
  ·rw [if_pos (h1.2 hc),if_pos (by omega)]
  ·rw [if_neg (fun q=>hc (h1.1 q)),if_neg (by omega)]
end Go.Proofs.YtmkoegljnebdiaaGreat
namespace Go.Proofs.YtmkoegljnebdiaaGreat
open Go.RowKit Go.Shelf
set_option maxRecDepth 100000
set_option maxHeartbeats 16000000

theorem runs53_any (u:Value) (h1:u.oneCell'=true) (w:World):Calls Tryz.prog 53 #[u] w fun e w'=>∃ g,e=.returned (.func (.func 107) #[] #[.pointer (some ⟨g,0,none⟩)])∧Fr w [] [(g,77,#[u])] w':=by
 refine pQ fun PQ hPQ=>?_
 have HFIN:Hid (∀ w' g,Fr w [] [(g,77,#[u])] w'→PQ (.returned (.func (.func 107) #[] #[.pointer (some ⟨g,0,none⟩)])) w'):=hZ fun w' g h=>by rw [← hPQ];exact ⟨g,rfl,h⟩
 clear hPQ;obtain ⟨g,hg⟩:=eX w.heap.size;obtain ⟨W0,hW0⟩:=eX (w.alloc (.cells #[u] 77));have HF:Hid (Fr w [] [(g,77,#[u])] W0):=hZ (by rw [← hW0];exact (Fr.start w).alloc hg.symm 77 #[u])
 go_enter Tryz.func53,Tryz.ntmps53;go_wp2_with fail
 rw [hW0];exact HFIN.out _ _ HF.out
end Go.Proofs.YtmkoegljnebdiaaGreat
namespace Go.Proofs.YtmkoegljnebdiaaGreat
open Go.RowKit Go.Shelf
set_option maxRecDepth 100000
set_option maxHeartbeats 16000000
attribute [local go_sem] Oper.semAt_some

def runN (f:Nat→Int) (n:Nat):Nat:=(runL f n n).1.length
def runP (f:Nat→Int) (n x:Nat):Nat × Nat:=(runL f n n).1.getD x (0,0)
theorem run_le (f:Nat→Int) (n:Nat):∀ k,(runL f n k).2≤k
 | 0=>Nat.le_refl _
 | k+1=>by
  have e2:runL f n (k+1)=if k+1<n∧f (k+1)=f k then runL f n k else ((runL f n k).1 ++ [((runL f n k).2,k)],k+1):=rfl;rw [e2];split
  ·exact Nat.le_succ_of_le (run_le f n k)
  ·exact Nat.le_refl _
theorem run_sub (f:Nat→Int) (n k:Nat):∀ d,(runL f n k).1 <+: (runL f n (k+d)).1
 | 0=>List.prefix_refl _
 | d+1=>by
  have e2:runL f n (k+d+1)=if k+d+1<n∧f (k+d+1)=f (k+d) then runL f n (k+d) else ((runL f n (k+d)).1 ++ [((runL f n (k+d)).2,k+d)],k+d+1):=rfl;rw [← Nat.add_assoc,e2];split
  ·exact run_sub f n k d
  ·exact (run_sub f n k d).trans (List.prefix_append _ _)
theorem run_idx {f:Nat→Int} {n k:Nat} (hk:k<n) (h:¬ (k+1<n∧f (k+1)=f k)):(runL f n k).1.length<runN f n∧runP f n (runL f n k).1.length=((runL f n k).2,k):=by
 have e2:runL f n (k+1)=if k+1<n∧f (k+1)=f k then runL f n k else ((runL f n k).1 ++ [((runL f n k).2,k)],k+1):=rfl;rw [if_neg h] at e2;have h1:=run_sub f n (k+1) (n - (k+1));rw [show k+1+(n - (k+1))=n by omega,e2] at h1
 obtain ⟨t,ht⟩:=h1;unfold runN runP;rw [← ht];dsimp only;refine ⟨by simp,?_⟩
 simp [List.getD]
theorem run_same {f:Nat→Int} {n k:Nat} (h:k+1<n∧f (k+1)=f k):runL f n (k+1)=runL f n k:=if_pos h
theorem run_other {f:Nat→Int} {n k:Nat} (h:¬ (k+1<n∧f (k+1)=f k)):runL f n (k+1)=((runL f n k).1 ++ [((runL f n k).2,k)],k+1):=if_neg h
theorem run_el (f:Nat→Int) (n:Nat):∀ k x,x ∈ (runL f n k).1→x.1≤x.2∧x.2<k
 | 0,x,h=>absurd h (List.not_mem_nil (a:=x))
 | k+1,x,h=>by
  have e2:runL f n (k+1)=if k+1<n∧f (k+1)=f k then runL f n k else ((runL f n k).1 ++ [((runL f n k).2,k)],k+1):=rfl;rw [e2] at h;split at h
  ·have:=run_el f n k x h;omega
  ·rcases List.mem_append.1 h with h | h
   ·have:=run_el f n k x h;omega
   ·rw [List.mem_singleton] at h;subst h;have:=run_le f n k
    exact ⟨this,Nat.lt_succ_self _⟩
theorem runP_el {f:Nat→Int} {n x:Nat} (hx:x<runN f n):(runP f n x).1≤(runP f n x).2∧(runP f n x).2<n:=by
 refine run_el f n n _ ?_
 unfold runP;rw [List.getD_eq_getElem?_getD,List.getElem?_eq_getElem hx];exact List.getElem_mem hx
theorem runN_le (f:Nat→Int) (n:Nat) (h:0<n):(runN f n:Int)=chgF f n+1:=by
 obtain ⟨m,rfl⟩:∃ m,n=m+1:=⟨n - 1,by omega⟩
 exact run_number f m
theorem runP_first (f:Nat→Int) (n:Nat) (h:0<n):(runP f n 0).1=0:=by
 unfold runP;rcases run_first f n n with ⟨h1,_⟩ | ⟨j,t,h1⟩
 ·have:=runN_le f n h
  have h2:=chg_nonneg f n;unfold runN at this;rw [h1] at this;simp at this
  omega
 ·rw [h1];rfl
theorem runP_last (f:Nat→Int) (n:Nat) (h:0<n):(runP f n (runN f n - 1)).2=n - 1:=by
 obtain ⟨m,rfl⟩:∃ m,n=m+1:=⟨n - 1,by omega⟩
 unfold runP runN;rw [run_last];simp [List.getD]
theorem runs107_in (l g B n c:Nat) (f:Nat→Int) (hn:n≤4096) (J Jx:List (Fin (runN f n))→World→Prop) (W:World) (hJ:AbidesFrom W.heap.size J)
  (hY:∀ pre (x:Fin (runN f n)) W,J pre W→pre.length<runN f n→YieldAt Fence.wide 4 Tryz.prog l #[.int .i64 ((runP f n x.val).1:Int),.int .i64 ((runP f n x.val).2:Int)] W fun e W' =>
   (e=.returned (.bool true)∧J (pre ++ [x]) W'∧KeepL [g,B] W W') ∨ (e=.returned (.bool false)∧Jx (pre ++ [x]) W'))
  (hgk:Bk W g 77 #[.slice (some ⟨B,0,none⟩) n c]) (hI:IntAt W B n f) (h0:J [] W) :
  CallsIn Fence.wide 5 Tryz.prog 107 #[.func (.yield l) #[] #[],.pointer (some ⟨g,0,none⟩)] W fun e W'=>(∃ v,e=.returned v) ∧
   ((∃ ys,Fin.vals ys=List.range (runN f n)∧J ys W') ∨ (∃ pre,Fin.vals pre <+: List.range (runN f n)∧pre ≠ []∧Jx pre W')):=by
 refine callsIn_of_wp Tryz.func107 rfl trivial ?_ rfl
 simp only [Tryz.ntmps107,List.size_toArray,List.length_cons,List.length_nil,Nat.reduceAdd,Nat.reduceSub,Array.replicate_succ,Array.replicate_zero,List.push_toArray,List.append_toArray,List.nil_append,List.cons_append];have HI:=hZ hI;have HG:=hZ hgk;have HJ:=hZ hJ;have hbc:=hgk.cell 0;clear hgk hI hJ;gi_wp2
 clear hbc;gi_loopw [3,7] (fun fi p wr=>∃ (k:Nat) (ys:List (Fin (runN f n))),k≤n∧fi=.int .i64 ((runL f n k).2:Int)∧p=.int .i64 (k:Int)∧Hid (Fin.vals ys=List.range (runL f n k).1.length∧J ys wr∧KeepL [g,B] W wr))
  (fun _ p _=>n - (intOf p).toNat)
 case atStart=>exact ⟨0,[],Nat.zero_le _,rfl,rfl,hZ ⟨rfl,h0,KeepL.refl _ _⟩⟩
 case round =>
  obtain ⟨k,ys,hk,rfl,rfl,hs'⟩:=hrel;by_cases hlt:k<n
  rotate_left
  ·obtain rfl:k=n:=by omega
   have hneg:¬ (k:Int)<(k:Int):=by omega
   gi_wp2
   go_end0
   exact ⟨⟨_,rfl⟩,.inl ⟨ys,hs'.out.1,hs'.out.2.1⟩⟩
  have HKL:=hZ hs'.out.2.2;have HGW0:Hid (Bk wr g 77 #[.slice (some ⟨B,0,none⟩) n c]):=hZ ((HKL.out g (by simp)).trans HG.out)
  have HBW0:Hid (B<wr.heap.size):=hZ (by
   have h1:=HKL.out B (by simp)
   rw [Array.getElem?_eq_getElem HI.out.lt] at h1;exact (Array.getElem?_eq_some_iff.1 h1).1)
  have HGC:Hid (∀ w',Below wr.heap.size wr w'→w'.cell? ⟨g,0,none⟩=some (.slice (some ⟨B,0,none⟩) n c)):=hZ fun w' hb=>(hb.cell (p:=⟨g,0,none⟩) HGW0.out.lt).trans (HGW0.out.cell 0);have HCB:Hid (∀ w',Below wr.heap.size wr w'→∀ j,j<n→w'.cell? ⟨B,j,none⟩=some (.int .i64 (f j))):=hZ fun w' hb j hj=>(hb.cell (p:=⟨B,j,none⟩) HBW0.out).trans ((HKL.out.cell (p:=⟨B,j,none⟩) (by simp)).trans (HI.out.cell j hj))
  have HKK:Hid (∀ w',Fr wr [] [] w'→KeepL [g,B] W w'):=hZ fun w' h b hb=>by
   have h1:=HKL.out b hb;refine (h.toBelow.block b ?_).trans h1
   simp only [List.mem_cons,List.not_mem_nil,or_false] at hb;rcases hb with rfl | rfl
   ·exact HGW0.out.lt
   ·exact HBW0.out
  have HJW:Hid (∀ W1,Fr wr [] [] W1→J ys W1):=hZ fun W1 h=>HJ.out _ _ _ none hs'.out.2.1 ⟨h.os,h.tape,h.output,h.size,fun i hi _=>h.far i hi (by simp)⟩ (fun r e=>by cases e)
  have HV:=hZ hs'.out.1;have HS0:Hid (Fr wr [] [] wr):=hZ (Fr.start wr);have hki:(k:Int)<(n:Int):=by omega
  have h0k:(0:Int)≤(k:Int):=by omega
  have w1:IntKind.i64.wrap ((k:Int)+1)=(k:Int)+1:=IntWalk.i64_in _ (by omega)
  have w2:wrap64 ((k:Int)+1)=(k:Int)+1:=w64_in (by omega) (by omega)
  have HLT:=hZ hlt;have hle:=run_le f n k;have HCK:Hid (∀ w',Below wr.heap.size wr w'→w'.cell? ⟨B,k,none⟩=some (.int .i64 (f k))):=hZ fun w' hb=>HCB.out w' hb k hlt;by_cases hc:k+1<n∧f (k+1)=f k
  ·obtain ⟨hk1,hff⟩:=hc;have HO:=hZ (run_same ⟨hk1,hff⟩);obtain ⟨fk,hfk⟩:=eX (f k);obtain ⟨fk1,hfk1⟩:=eX (f (k+1));have HCB1:Hid (∀ w',Below wr.heap.size wr w'→w'.cell? ⟨B,k+1,none⟩=some (.int .i64 (f (k+1)))):=hZ fun w' hb=>HCB.out w' hb (k+1) hk1;rw [hfk] at HCK;rw [hfk1] at HCB1;have hki1:(k:Int)+1<(n:Int):=by omega
   have h0k1:(0:Int)≤(k:Int)+1:=by omega
   have htn:((k:Int)+1).toNat=k+1:=by omega
   have hfe:fk=fk1:=by rw [← hfk,← hfk1];exact hff.symm
   clear hY hfk hfk1 hff hs';subst hfe;gi_wp2
   refine wpIn_wide.2 ?_
   refine wr0 (rV [.int .i64 (k:Int),.int .i64 ((k:Int)+1),.slice (some ⟨B,0,none⟩) n c,.int .i64 (n:Int),.bool true,.bool true,.slice (some ⟨B,0,none⟩) n c,.int .i64 (k:Int),.int .i64 ((k:Int)+1),.pointer (some ⟨B,k+1,none⟩),.int .i64 fk,.slice (some ⟨B,0,none⟩) n c,.int .i64 (k:Int),.pointer (some ⟨B,k,none⟩),.int .i64 fk,.bool true,.bool true]) HS0.out ?_ ?_
   ·refine ⟨?_,?_,?_,?_,?_,?_,?_,?_,?_,?_,?_,?_,?_,?_,?_,?_,?_,trivial⟩
    all_goals intro a w1 vs dn k K S hpre KE DE kk
    ·have e4:=KE 4;go_simp;exact kk _ _
    ·have e10:=dep (DE 0 10);go_simp;exact kk _ _
    ·have e1:=KE 1;have ca:=HGC.out w1 S.fr.toBelow;go_simp;exact kk _ _
    ·have e12:=dep (DE 2 12);go_simp;exact kk _ _
    ·have e11:=dep (DE 1 11);have e13:=dep (DE 3 13);go_simp;exact kk _ _
    ·have e14:=dep (DE 4 14);go_simp;exact kk _ _
    ·have e1:=KE 1;have ca:=HGC.out w1 S.fr.toBelow;refine wY 5 true (dep (DE 5 15)) ?_
     go_simp;exact kk _ _
    ·have e4:=KE 4;refine wY 5 true (dep (DE 5 15)) ?_
     go_simp;exact kk _ _
    ·have e17:=dep (DE 7 17);refine wY 5 true (dep (DE 5 15)) ?_
     go_simp;exact kk _ _
    ·have e16:=dep (DE 6 16);have e18:=dep (DE 8 18);refine wY 5 true (dep (DE 5 15)) ?_
     go_simp;exact kk _ _
    ·have e19:=dep (DE 9 19);have ca:=HCB1.out w1 S.fr.toBelow;refine wY 5 true (dep (DE 5 15)) ?_
     go_simp;exact kk _ _
    ·have e1:=KE 1;have ca:=HGC.out w1 S.fr.toBelow;refine wY 5 true (dep (DE 5 15)) ?_
     go_simp;exact kk _ _
    ·have e4:=KE 4;refine wY 5 true (dep (DE 5 15)) ?_
     go_simp;exact kk _ _
    ·have e21:=dep (DE 11 21);have e22:=dep (DE 12 22);refine wY 5 true (dep (DE 5 15)) ?_
     go_simp;exact kk _ _
    ·have e23:=dep (DE 13 23);have ca:=HCK.out w1 S.fr.toBelow;refine wY 5 true (dep (DE 5 15)) ?_
     go_simp;exact kk _ _
    ·have e20:=dep (DE 10 20);have e24:=dep (DE 14 24);refine wY 5 true (dep (DE 5 15)) ?_
     go_simp;exact kk _ _
    ·have e15:=dep (DE 5 15);have e25:=dep (DE 15 25);go_simp;exact kk _ _
   ·intro vs w1 HFr HR;have v16:vs 16=.bool true:=HR 16 _ rfl;have HF1:=hZ HFr;clear HFr HR;simp only [putAll,Act.put,List.setIfInBounds_toArray,List.set_cons_zero,List.set_cons_succ,v16];clear v16;gi_wp2
    go_roundw
    case rel=>exact ⟨k+1,ys,by have:=HLT.out;omega,by rw [HO.out],by go_num,hZ ⟨by rw [HO.out,HV.out],HJW.out _ HF1.out,HKK.out _ HF1.out⟩⟩
    case measure=>simp [intOf];omega
  ·have HIX:=hZ (run_idx hlt hc);have HNC:=hZ hc;by_cases hk1:k+1<n
   ·have hff:¬ f (k+1)=f k:=fun h=>hc ⟨hk1,h⟩;obtain ⟨fk,hfk⟩:=eX (f k);obtain ⟨fk1,hfk1⟩:=eX (f (k+1));have HCB1:Hid (∀ w',Below wr.heap.size wr w'→w'.cell? ⟨B,k+1,none⟩=some (.int .i64 (f (k+1)))):=hZ fun w' hb=>HCB.out w' hb (k+1) hk1;rw [hfk] at HCK;rw [hfk1] at HCB1;have hki1:(k:Int)+1<(n:Int):=by omega
    have h0k1:(0:Int)≤(k:Int)+1:=by omega
    have htn:((k:Int)+1).toNat=k+1:=by omega
    have hfe:¬ fk1=fk:=by rw [← hfk,← hfk1];exact hff
    have hfe2:(fk1 == fk)=false:=by simpa using hfe
    clear hfk hfk1 hff hc hs';gi_wp2
    refine wpIn_wide.2 ?_
    refine wr0 (rV [.int .i64 (k:Int),.int .i64 ((k:Int)+1),.slice (some ⟨B,0,none⟩) n c,.int .i64 (n:Int),.bool true,.bool true,.slice (some ⟨B,0,none⟩) n c,.int .i64 (k:Int),.int .i64 ((k:Int)+1),.pointer (some ⟨B,k+1,none⟩),.int .i64 fk1,.slice (some ⟨B,0,none⟩) n c,.int .i64 (k:Int),.pointer (some ⟨B,k,none⟩),.int .i64 fk,.bool false,.bool false]) HS0.out ?_ ?_
    ·refine ⟨?_,?_,?_,?_,?_,?_,?_,?_,?_,?_,?_,?_,?_,?_,?_,?_,?_,trivial⟩
     all_goals intro a w1 vs dn k K S hpre KE DE kk
     ·have e4:=KE 4;go_simp;exact kk _ _
     ·have e10:=dep (DE 0 10);go_simp;exact kk _ _
     ·have e1:=KE 1;have ca:=HGC.out w1 S.fr.toBelow;go_simp;exact kk _ _
     ·have e12:=dep (DE 2 12);go_simp;exact kk _ _
     ·have e11:=dep (DE 1 11);have e13:=dep (DE 3 13);go_simp;exact kk _ _
     ·have e14:=dep (DE 4 14);go_simp;exact kk _ _
     ·have e1:=KE 1;have ca:=HGC.out w1 S.fr.toBelow;refine wY 5 true (dep (DE 5 15)) ?_
      go_simp;exact kk _ _
     ·have e4:=KE 4;refine wY 5 true (dep (DE 5 15)) ?_
      go_simp;exact kk _ _
     ·have e17:=dep (DE 7 17);refine wY 5 true (dep (DE 5 15)) ?_
      go_simp;exact kk _ _
     ·have e16:=dep (DE 6 16);have e18:=dep (DE 8 18);refine wY 5 true (dep (DE 5 15)) ?_
      go_simp;exact kk _ _
     ·have e19:=dep (DE 9 19);have ca:=HCB1.out w1 S.fr.toBelow;refine wY 5 true (dep (DE 5 15)) ?_
      go_simp;exact kk _ _
     ·have e1:=KE 1;have ca:=HGC.out w1 S.fr.toBelow;refine wY 5 true (dep (DE 5 15)) ?_
      go_simp;exact kk _ _
     ·have e4:=KE 4;refine wY 5 true (dep (DE 5 15)) ?_
      go_simp;exact kk _ _
     ·have e21:=dep (DE 11 21);have e22:=dep (DE 12 22);refine wY 5 true (dep (DE 5 15)) ?_
      go_simp;exact kk _ _
     ·have e23:=dep (DE 13 23);have ca:=HCK.out w1 S.fr.toBelow;refine wY 5 true (dep (DE 5 15)) ?_
      go_simp;exact kk _ _
     ·have e20:=dep (DE 10 20);have e24:=dep (DE 14 24);refine wY 5 true (dep (DE 5 15)) ?_
      go_simp;exact kk _ _
     ·have e15:=dep (DE 5 15);have e25:=dep (DE 15 25);go_simp;exact kk _ _
    ·intro vs w1 HFr HR;have v16:vs 16=.bool false:=HR 16 _ rfl;have HF1:=hZ HFr;clear HFr HR;simp only [putAll,Act.put,List.setIfInBounds_toArray,List.set_cons_zero,List.set_cons_succ,v16];clear v16;have HQ:=hZ (HKK.out _ HF1.out);obtain ⟨hxN,hxP⟩:=HIX.out;have hyy:=hY ys ⟨(runL f n k).1.length,hxN⟩ w1 (HJW.out _ HF1.out) (by have:=congrArg List.length HV.out;rw [List.length_range] at this;unfold Fin.vals at this;rw [List.length_map] at this;omega)
     dsimp only at hyy;rw [hxP] at hyy;dsimp only at hyy;obtain ⟨fn,tmps,assign,body,hy,hR⟩:=hyy;try dsimp only at hy hR
     have HTK:Hid (Fin.vals (ys ++ [⟨(runL f n k).1.length,hxN⟩])=List.range ((runL f n k).1.length+1)):=hZ (by
      rw [List.range_succ,← HV.out];simp [Fin.vals])
     have HO:=hZ (run_other HNC.out);have hR':=hR.mono (R':=fun e W'=>∃ b,e=.returned (.bool b)∧Hid ((b=true∧J (ys ++ [⟨(runL f n k).1.length,hxN⟩]) W'∧KeepL [g,B] W W') ∨ (b=false∧Jx (ys ++ [⟨(runL f n k).1.length,hxN⟩]) W'))) (by
      rintro e W' (⟨rfl,h1,h2⟩ | ⟨rfl,h1⟩)
      ·exact ⟨true,rfl,hZ (.inl ⟨rfl,h1,HQ.out.trans h2⟩)⟩
      ·exact ⟨false,rfl,hZ (.inr ⟨rfl,h1⟩)⟩)
     have HXN:=hZ hxN;clear hR hY hxP HQ;gi_wp2
     refine hR'.mono ?_
     clear hR';rintro e W3 ⟨b,rfl,hb3⟩;cases b with
     | true =>
      have hb4:J (ys ++ [⟨(runL f n k).1.length,hxN⟩]) W3∧KeepL [g,B] W W3:=by
       rcases hb3.out with ⟨_,h3,h4⟩ | ⟨h3,_⟩
       ·exact ⟨h3,h4⟩
       ·cases h3
      have HB4:=hZ hb4;clear hb4;gi_wp2
      go_roundw
      case rel=>exact ⟨k+1,ys ++ [⟨(runL f n k).1.length,hxN⟩],by have:=HLT.out;omega,by rw [HO.out];go_num,by go_num,hZ ⟨by rw [HO.out,HTK.out];simp,HB4.out.1,HB4.out.2⟩⟩
      case measure=>simp [intOf];omega
     | false =>
      gi_wp2
      refine bodyPost_ret (results_none rfl _ _ _) rfl ⟨⟨_,rfl⟩,.inr ⟨ys ++ [⟨(runL f n k).1.length,hxN⟩],?_,?_,?_⟩⟩
      ·rw [HTK.out];have:List.range ((runL f n k).1.length+1)=(List.range (runN f n)).take ((runL f n k).1.length+1):=by rw [List.take_range];congr 1;have:=HXN.out;omega
       rw [this];exact List.take_prefix _ _
      ·simp
      ·rcases hb3.out with ⟨h3,_⟩ | ⟨_,h3⟩
       ·cases h3
       ·exact h3
   ·have hki1:¬ (k:Int)+1<(n:Int):=by omega
    have hki2:decide ((k:Int)+1<(n:Int))=false:=decide_eq_false hki1;clear hc hs';gi_wp2
    refine wpIn_wide.2 ?_
    refine wr0 (rM [(0,.int .i64 (k:Int)),(1,.int .i64 ((k:Int)+1)),(2,.slice (some ⟨B,0,none⟩) n c),(3,.int .i64 (n:Int)),(4,.bool false),(5,.bool false),(16,.bool false)]) HS0.out ?_ ?_
    ·refine ⟨?_,?_,?_,?_,?_,?_,?_,?_,?_,?_,?_,?_,?_,?_,?_,?_,?_,trivial⟩
     all_goals intro a w1 vs dn k K S hpre KE DE kk
     ·have e4:=KE 4;go_simp;exact kk _ _
     ·have e10:=dep (DE 0 10);go_simp;exact kk _ _
     ·have e1:=KE 1;have ca:=HGC.out w1 S.fr.toBelow;go_simp;exact kk _ _
     ·have e12:=dep (DE 2 12);go_simp;exact kk _ _
     ·have e11:=dep (DE 1 11);have e13:=dep (DE 3 13);go_simp;exact kk _ _
     ·have e14:=dep (DE 4 14);go_simp;exact kk _ _
     iterate 10 exact wN 5 true (dep (DE 5 15)) (kk undef _)
     ·have e15:=dep (DE 5 15);go_simp;exact kk _ _
    ·intro vs w1 HFr HR;have v16:vs 16=.bool false:=HR 16 _ rfl;have HF1:=hZ HFr;clear HFr HR;simp only [putAll,Act.put,List.setIfInBounds_toArray,List.set_cons_zero,List.set_cons_succ,v16];clear v16;have HQ:=hZ (HKK.out _ HF1.out);obtain ⟨hxN,hxP⟩:=HIX.out;have hyy:=hY ys ⟨(runL f n k).1.length,hxN⟩ w1 (HJW.out _ HF1.out) (by have:=congrArg List.length HV.out;rw [List.length_range] at this;unfold Fin.vals at this;rw [List.length_map] at this;omega)
     dsimp only at hyy;rw [hxP] at hyy;dsimp only at hyy;obtain ⟨fn,tmps,assign,body,hy,hR⟩:=hyy;try dsimp only at hy hR
     have HTK:Hid (Fin.vals (ys ++ [⟨(runL f n k).1.length,hxN⟩])=List.range ((runL f n k).1.length+1)):=hZ (by
      rw [List.range_succ,← HV.out];simp [Fin.vals])
     have HO:=hZ (run_other HNC.out);have hR':=hR.mono (R':=fun e W'=>∃ b,e=.returned (.bool b)∧Hid ((b=true∧J (ys ++ [⟨(runL f n k).1.length,hxN⟩]) W'∧KeepL [g,B] W W') ∨ (b=false∧Jx (ys ++ [⟨(runL f n k).1.length,hxN⟩]) W'))) (by
      rintro e W' (⟨rfl,h1,h2⟩ | ⟨rfl,h1⟩)
      ·exact ⟨true,rfl,hZ (.inl ⟨rfl,h1,HQ.out.trans h2⟩)⟩
      ·exact ⟨false,rfl,hZ (.inr ⟨rfl,h1⟩)⟩)
     have HXN:=hZ hxN;clear hR hY hxP HQ;gi_wp2
     refine hR'.mono ?_
     clear hR';rintro e W3 ⟨b,rfl,hb3⟩;cases b with
     | true =>
      have hb4:J (ys ++ [⟨(runL f n k).1.length,hxN⟩]) W3∧KeepL [g,B] W W3:=by
       rcases hb3.out with ⟨_,h3,h4⟩ | ⟨h3,_⟩
       ·exact ⟨h3,h4⟩
       ·cases h3
      have HB4:=hZ hb4;clear hb4;gi_wp2
      go_roundw
      case rel=>exact ⟨k+1,ys ++ [⟨(runL f n k).1.length,hxN⟩],by have:=HLT.out;omega,by rw [HO.out];go_num,by go_num,hZ ⟨by rw [HO.out,HTK.out];simp,HB4.out.1,HB4.out.2⟩⟩
      case measure=>simp [intOf];omega
     | false =>
      gi_wp2
      refine bodyPost_ret (results_none rfl _ _ _) rfl ⟨⟨_,rfl⟩,.inr ⟨ys ++ [⟨(runL f n k).1.length,hxN⟩],?_,?_,?_⟩⟩
      ·rw [HTK.out];have:List.range ((runL f n k).1.length+1)=(List.range (runN f n)).take ((runL f n k).1.length+1):=by rw [List.take_range];congr 1;have:=HXN.out;omega
       rw [this];exact List.take_prefix _ _
      ·simp
      ·rcases hb3.out with ⟨h3,_⟩ | ⟨_,h3⟩
       ·cases h3
       ·exact h3
theorem runs107_stops (g B n c:Nat) (f:Nat→Int) (hn:n≤4096) (w:World) (hgk:Bk w g 77 #[.slice (some ⟨B,0,none⟩) n c]) (hI:IntAt w B n f) :
  SeqStopsK Fence.wide 5 Tryz.prog 107 #[.pointer (some ⟨g,0,none⟩)] (fun x:Fin (runN f n)=>#[Value.int .i64 ((runP f n x.val).1:Int),.int .i64 ((runP f n x.val).2:Int)]) (KeepL [g,B])
   (fun ys=>Fin.vals ys=List.range (runN f n)) (fun pre=>Fin.vals pre <+: List.range (runN f n)∧pre ≠ []) (runN f n) w:=fun l J Jx W hW hJ _ hY h0=>by
 refine (runs107_in l g B n c f hn J Jx W hJ hY (hgk.below hW hgk.lt) (hI.to hW) h0).mono ?_
 rintro e W' ⟨he,⟨ys,h1,h2⟩ | ⟨pre,h1,h2,h3⟩⟩
 ·exact ⟨he,.inl ⟨ys,h1,h2⟩⟩
 ·exact ⟨he,.inr ⟨pre,⟨h1,h2⟩,h3⟩⟩
end Go.Proofs.YtmkoegljnebdiaaGreat
