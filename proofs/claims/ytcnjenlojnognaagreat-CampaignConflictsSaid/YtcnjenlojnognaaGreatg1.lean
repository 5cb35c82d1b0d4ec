/- What is proved: the texts Lib Set Row Reg Reg2 Reg3 Q Q2 A Pa Pb Pc Pd Pe Pf Pg Ph Pi Pj Pk, one behind the other; each says at its head what it proves, and under which conditions. -/
import Derived.WalkKit
import Derived.WalkSpells
import Derived.WalkLawsBesides
import Derived.Lib.Hide
import Derived.Orders
import Derived.BigQuiet
import Derived.Test.YtcnjenlojnognaaGreatRows
import Derived.Lib.SliceRun
import Derived.Laws.AppendOwn
/- What is proved: small lemmas on memory (a slice that reads as a list of rows of cells), over whatever program. Conditions: none beyond those that each lemma states. -/
namespace Go.Proofs.YtcnjenlojnognaaGreat
theorem hdE {α : Type} {a b c : α} (h : a = b ∧ b = c) : a = c := h.1.trans h.2
open Go.RowKit

/-- The slice (its address 'A', its length 'n') lies below block 'B'; row i holds the k cells 'f i 0', .. -/
def Sl (w:World) (B k:Nat) (A:Option Addr) (n:Nat) (f:Nat→Nat→Value):Prop :=
 n≤9223372036854775807∧(0<n→∃ b off,A=some ⟨b,off,none⟩∧b<B∧∀ i,i<n→∀ j,j<k→w.cell? ⟨b,off+i * k+j,none⟩=some (f i j))

theorem Sl.below {w w':World} {B k n:Nat} {A:Option Addr} {f:Nat→Nat→Value} (h:Sl w B k A n f) (hb:Below B w w'):Sl w' B k A n f :=
 ⟨h.1,fun hn=>by
  obtain ⟨b,off,e,hB,hc⟩:=h.2 hn
  exact ⟨b,off,e,hB,fun i hi j hj=>(hb.cell (p:=⟨b,off+i * k+j,none⟩) hB).trans (hc i hi j hj)⟩⟩

theorem Sl.mono {w:World} {B B' k n:Nat} {A:Option Addr} {f:Nat→Nat→Value} (h:Sl w B k A n f) (hb:B≤B'):Sl w B' k A n f :=
 ⟨h.1,fun hn=>by
  obtain ⟨b,off,e,hB,hc⟩:=h.2 hn
  exact ⟨b,off,e,by omega,hc⟩⟩

theorem Sl.nil (w:World) (B k:Nat) (A:Option Addr) (f:Nat→Nat→Value):Sl w B k A 0 f:=⟨by omega,fun h=>absurd h (by omega)⟩

/-- Do all of the first n satisfy q? -/
def allN (n:Nat) (q:Nat→Bool):Bool:=(List.range n).all q
/-- Does one of the first n satisfy q? Its place, or -1. -/
def idxN (n:Nat) (q:Nat→Bool):Int:=match (List.range n).find? q with | some i=>(i:Int) | none=>-1

theorem bcells {W w1:World} {B:Nat} (hb:Below B W w1):(∀ b o,b<B→w1.cell? ⟨b,o,none⟩=W.cell? ⟨b,o,none⟩)∧(∀ b o,b<B→w1.frozen? ⟨b,o,none⟩=W.frozen? ⟨b,o,none⟩) :=
 ⟨fun b o h=>hb.cell (p:=⟨b,o,none⟩) h,fun b o h=>hb.frozen (p:=⟨b,o,none⟩) h⟩
theorem below_drewN {B:Nat} {a w:World} (h:Below B a w) (n:Nat):Below B a (w.drewN n):=⟨h.os,h.tape,h.output,h.size,h.block⟩
theorem ret_bool {a b:Bool} (h:a=b):Ending.returned (.bool a)=.returned (.bool b):=by rw [h]
theorem ret_int {k:IntKind} {a b:Int} (h:a=b):Ending.returned (.int k a)=.returned (.int k b):=by rw [h]

/-- n is from a to b. -/
def inB (n a b:Int):Bool:=decide (a≤n) && decide (n≤b)

theorem find_range_none {n:Nat} {q:Nat→Bool} (h:∀ i,i<n→q i=false):(List.range n).find? q=none:=by
 rw [List.find?_eq_none];intro x hx;simp at hx;simp [h x hx]
theorem find_range_some {n k:Nat} {q:Nat→Bool} (hk:k<n) (h:∀ i,i<k→q i=false) (hq:q k=true):(List.range n).find? q=some k:=by
 rw [List.find?_eq_some_iff_append]
 refine ⟨hq,List.range k,(List.range' (k+1) (n - (k+1))),?_,?_⟩
 ·rw [List.range_eq_range',List.range_eq_range',show k :: List.range' (k+1) (n-(k+1))=List.range' k (n - k) from by rw [show n - k=(n - (k+1))+1 from by omega,List.range'_succ]]
  rw [show List.range' k (n-k)=List.range' (0+k) (n - k) from by simp,List.range'_append_1];congr 1;omega
 ·intro a ha;simp at ha;simp [h a ha]
theorem idxN_none {n:Nat} {q:Nat→Bool} (h:∀ i,i<n→q i=false):idxN n q=-1:=by unfold idxN;rw [find_range_none h]
theorem idxN_some {n k:Nat} {q:Nat→Bool} (hk:k<n) (h:∀ i,i<k→q i=false) (hq:q k=true):idxN n q=k:=by unfold idxN;rw [find_range_some hk h hq]
theorem idxN_nonneg (n:Nat) (q:Nat→Bool):decide (0≤idxN n q)=!(allN n fun i=>!q i):=by
 by_cases h:∀ i,i<n→q i=false
 ·rw [idxN_none h];simp [allN];intro i hi;exact h i hi
 ·have:∃ k,k<n∧q k=true∧∀ i,i<k→q i=false:=by
   have hex:∃ k,k<n∧q k=true:=by
    apply Classical.byContradiction;intro hc;apply h;intro i hi
    cases hq:q i
    ·rfl
    ·exact absurd ⟨i,hi,hq⟩ hc
   obtain ⟨k,hk⟩:=hex
   induction k using Nat.strongRecOn with
   | _ k ih =>
    by_cases hm:∃ j,j<k∧q j=true
    ·obtain ⟨j,hj,hqj⟩:=hm;exact ih j hj ⟨by omega,hqj⟩
    ·refine ⟨k,hk.1,hk.2,fun i hi=>?_⟩
     cases hq:q i
     ·rfl
     ·exact absurd ⟨i,hi,hq⟩ hm
  obtain ⟨k,hk,hq,hl⟩:=this
  rw [idxN_some hk hl hq]
  have:(allN n fun i=>!q i)=false:=by
   unfold allN;rw [List.all_eq_false];exact ⟨k,by simpa using hk,by simp [hq]⟩
  rw [this];simp
theorem Sl.at1 {w:World} {B n i:Nat} {A:Option Addr} {f:Nat→Nat→Value} (h:Sl w B 1 A n f) (hi:i<n) :
  ∃ b off,A=some ⟨b,off,none⟩∧b<B∧w.cell? ⟨b,off+i,none⟩=some (f i 0):=by
 obtain ⟨b,off,rfl,hB,hc⟩:=h.2 (by omega)
 exact ⟨b,off,rfl,hB,by have:=hc i hi 0 (by omega);simpa using this⟩
theorem Sl.at2 {w:World} {B n i:Nat} {A:Option Addr} {f:Nat→Nat→Value} (h:Sl w B 2 A n f) (hi:i<n) :
  ∃ b off,A=some ⟨b,off,none⟩∧b<B∧w.cell? ⟨b,off+i * 2,none⟩=some (f i 0)∧w.cell? ⟨b,off+i * 2+1,none⟩=some (f i 1):=by
 obtain ⟨b,off,rfl,hB,hc⟩:=h.2 (by omega)
 exact ⟨b,off,rfl,hB,by have:=hc i hi 0 (by omega);simpa using this,by have:=hc i hi 1 (by omega);simpa using this⟩
theorem Sl.at3 {w:World} {B n i:Nat} {A:Option Addr} {f:Nat→Nat→Value} (h:Sl w B 3 A n f) (hi:i<n) :
  ∃ b off,A=some ⟨b,off,none⟩∧b<B∧w.cell? ⟨b,off+i * 3,none⟩=some (f i 0)∧w.cell? ⟨b,off+i * 3+1,none⟩=some (f i 1)∧w.cell? ⟨b,off+i * 3+2,none⟩=some (f i 2):=by
 obtain ⟨b,off,rfl,hB,hc⟩:=h.2 (by omega)
 exact ⟨b,off,rfl,hB,by have:=hc i hi 0 (by omega);simpa using this,by have:=hc i hi 1 (by omega);simpa using this,by have:=hc i hi 2 (by omega);simpa using this⟩
theorem Sl.at4 {w:World} {B n i:Nat} {A:Option Addr} {f:Nat→Nat→Value} (h:Sl w B 4 A n f) (hi:i<n) :
  ∃ b off,A=some ⟨b,off,none⟩∧b<B∧w.cell? ⟨b,off+i * 4,none⟩=some (f i 0)∧w.cell? ⟨b,off+i * 4+1,none⟩=some (f i 1)∧w.cell? ⟨b,off+i * 4+2,none⟩=some (f i 2)∧w.cell? ⟨b,off+i * 4+3,none⟩=some (f i 3):=by
 obtain ⟨b,off,rfl,hB,hc⟩:=h.2 (by omega)
 exact ⟨b,off,rfl,hB,by have:=hc i hi 0 (by omega);simpa using this,by have:=hc i hi 1 (by omega);simpa using this,by have:=hc i hi 2 (by omega);simpa using this,by have:=hc i hi 3 (by omega);simpa using this⟩
theorem Sl.at5 {w:World} {B n i:Nat} {A:Option Addr} {f:Nat→Nat→Value} (h:Sl w B 5 A n f) (hi:i<n) :
  ∃ b off,A=some ⟨b,off,none⟩∧b<B∧w.cell? ⟨b,off+i * 5,none⟩=some (f i 0)∧w.cell? ⟨b,off+i * 5+1,none⟩=some (f i 1)∧w.cell? ⟨b,off+i * 5+2,none⟩=some (f i 2)∧w.cell? ⟨b,off+i * 5+3,none⟩=some (f i 3)∧w.cell? ⟨b,off+i * 5+4,none⟩=some (f i 4):=by
 obtain ⟨b,off,rfl,hB,hc⟩:=h.2 (by omega)
 exact ⟨b,off,rfl,hB,by have:=hc i hi 0 (by omega);simpa using this,by have:=hc i hi 1 (by omega);simpa using this,by have:=hc i hi 2 (by omega);simpa using this,by have:=hc i hi 3 (by omega);simpa using this,by have:=hc i hi 4 (by omega);simpa using this⟩
end Go.Proofs.YtcnjenlojnognaaGreat
/- What is proved: a map from strings to bools that a call makes, as a list of its keys: looking up, storing a new key. Conditions: the map's block holds just these keys, each with true. -/
namespace Go.Proofs.YtcnjenlojnognaaGreat
open Go.RowKit

theorem beq_bytes (s x:ByteArray):(s == x)=decide (s=x):=by
 show ByteArray.beq s x=_
 unfold ByteArray.beq
 by_cases h:s=x
 ·subst h;simp
 ·have:s.data ≠ x.data:=fun e=>h (ByteArray.ext e)
  simp [h,this]
theorem run_getObj_map1 {P:Program} {w:World} {r:Nat} {es:Array MapEntry} {clock:Nat} (hb:w.heap[r]?=some (.map es clock)):(getObj r).run P w=.ok (.map es clock) w:=by
 simp [getObj,Sem.run,hb]
theorem run_setObj_map1 {P:Program} {w:World} {r:Nat} {es es':Array MapEntry} {clock clock':Nat} (hb:w.heap[r]?=some (.map es clock)):(setObj r (.map es' clock')).run P w=.ok () { w with heap:=w.heap.setIfInBounds r (.map es' clock') }:=by
 simp [setObj,Sem.run,hb]

/-- Block b is a map whose keys are l, each with true. -/
def SetS (w:World) (b:Nat) (l:List ByteArray):Prop :=
 ∃ arr clock,w.heap[b]?=some (.map arr clock)∧arr.toList.map (fun e=>(e.key,e.val))=l.map fun s=>(Value.string s,Value.bool true)

theorem SetS.made (w:World):SetS (w.alloc (.map #[] 0)) w.heap.size []:=⟨#[],0,by rw [heap_alloc_new],rfl⟩
theorem SetS.keep {w w':World} {b:Nat} {l:List ByteArray} (h:SetS w b l) (hk:w'.heap[b]?=w.heap[b]?):SetS w' b l:=by
 obtain ⟨arr,clock,h1,h2⟩:=h
 exact ⟨arr,clock,hk.trans h1,h2⟩
theorem SetS.lt {w:World} {b:Nat} {l:List ByteArray} (h:SetS w b l):b<w.heap.size:=by
 obtain ⟨arr,clock,h1,h2⟩:=h
 rcases Nat.lt_or_ge b w.heap.size with h | h
 ·exact h
 ·simp [Array.getElem?_eq_none h] at h1
theorem SetS.alloc {w:World} {b:Nat} {l:List ByteArray} (h:SetS w b l) (o:Obj):SetS (w.alloc o) b l:=h.keep (Below.heap_alloc w o b h.lt)

theorem findNow_keys (s:ByteArray):∀ (es:List MapEntry) (l:List ByteArray) (i:Nat),es.map (fun e=>(e.key,e.val))=l.map (fun s=>(Value.string s,Value.bool true)) →
  (s ∉ l→Instr.findNow .string (.string s) es i=some none)∧(s ∈ l→∃ j,Instr.findNow .string (.string s) es i=some (some (j,.bool true)))
 | [],[],i,_=>⟨fun _=>rfl,fun h=>by cases h⟩
 | [],_ :: _,_,h=>by simp at h
 | _ :: _,[],_,h=>by simp at h
 | e :: es,x :: l,i,h=>by
  simp only [List.map_cons,List.cons.injEq,Prod.mk.injEq] at h
  obtain ⟨⟨hk,hv⟩,ht⟩:=h
  obtain ⟨h1,h2⟩:=findNow_keys s es l (i+1) ht
  unfold Instr.findNow
  by_cases hs:s=x
  ·subst hs
   simp [hk,Instr.sameNow,hv,beq_bytes]
  ·have hb:(s == x)=false:=by rw [beq_bytes];simpa using hs
   simp only [hk,Instr.sameNow,hb]
   refine ⟨fun hm=>h1 (fun hc=>hm (List.mem_cons_of_mem _ hc)),fun hm=>h2 ?_⟩
   rcases List.mem_cons.1 hm with h | h
   ·exact absurd h hs
   ·exact h

section
variable {P:Program} {t k e:TypeId} (ht:P.underlying t=some (.map k e)) (hk:P.underlying k=some .string)

theorem run_checkKey_string (hk:P.underlying k=some .string) (em:Bool) (s:ByteArray) (w:World):(Instr.checkKey em 10000 k (.string s)).run P w=.ok () w:=by
 rw [show (10000:Nat)=9999+1 from rfl,Instr.checkKey]
 simp [run_underlying hk]

theorem SetS.lookup {w:World} {b:Nat} {l:List ByteArray} (h:SetS w b l) (ht:P.underlying t=some (.map k e)) (hk:P.underlying k=some .string)
  (hz:(zeroValue e).run P w=.ok (.bool false) w) (s:ByteArray):(Instr.lookup t (.map (some b)) (.string s) false).run P w=.ok (.bool (l.any fun x=>decide (x=s))) w:=by
 obtain ⟨arr,clock,h1,h2⟩:=h
 obtain ⟨f1,f2⟩:=findNow_keys s arr.toList l 0 h2
 have g:=run_getObj_map1 (P:=P) h1
 by_cases hs:s ∈ l
 ·obtain ⟨j,hj⟩:=f2 hs
  have:(l.any fun x=>decide (x=s))=true:=by simpa using hs
  rw [this]
  simp [Instr.lookup,run_underlying ht,run_checkKey_string hk,Instr.findKey,run_underlying hk,hj,g]
 ·have hj:=f1 hs
  have:(l.any fun x=>decide (x=s))=false:=by rw [List.any_eq_false];intro x hx;simp;rintro rfl;exact hs hx
  rw [this]
  simp [Instr.lookup,run_underlying ht,run_checkKey_string hk,Instr.findKey,run_underlying hk,hj,g,hz]

theorem SetS.update {w:World} {b:Nat} {l:List ByteArray} (h:SetS w b l) (ht:P.underlying t=some (.map k e)) (hk:P.underlying k=some .string)
  (s:ByteArray) (hs:s ∉ l):∃ w',(Instr.mapUpdate t (.map (some b)) (.string s) (.bool true)).run P w=.ok () w'∧SetS w' b (l ++ [s])∧w'.heap.size=w.heap.size∧∀ B,B≤b→Below B w w':=by
 have hlt:=h.lt
 obtain ⟨arr,clock,h1,h2⟩:=h
 obtain ⟨f1,_⟩:=findNow_keys s arr.toList l 0 h2
 have hj:=f1 hs
 refine ⟨{ w with heap:=w.heap.setIfInBounds b (.map (arr.push { key:=.string s,val:=.bool true,born:=clock }) (clock+1)) },?_,?_,?_,?_⟩
 ·simp [Instr.mapUpdate,run_underlying ht,run_checkKey_string hk,Instr.findKey,run_underlying hk,hj,run_getObj_map1 h1,run_setObj_map1 h1]
 ·exact ⟨arr.push { key:=.string s,val:=.bool true,born:=clock },clock+1,by simp [hlt],by simp [h2]⟩
 ·simp
 ·intro B hB
  refine ⟨rfl,rfl,rfl,by simp,fun i hi=>?_⟩
  simp only [Array.getElem?_setIfInBounds]
  rw [if_neg (by omega)]
end
end Go.Proofs.YtcnjenlojnognaaGreat
/- What is proved: laws for a load, a store and a result of several cells, at a block that is known whole. Conditions: those that each law states. -/
namespace Go.Proofs.YtcnjenlojnognaaGreat
open Go.RowKit

/-- Block g is just the cells cs, of type t, none frozen. -/
def Bk (w:World) (g:Nat) (t:TypeId) (cs:Array Value):Prop:=w.heap[g]?=some (.cells cs t (0,0))

section
variable {w w':World} {g:Nat} {t:TypeId} {cs:Array Value}
theorem Bk.lt (h:Bk w g t cs):g<w.heap.size:=by
 rcases Nat.lt_or_ge g w.heap.size with h1 | h1
 ·exact h1
 ·unfold Bk at h;rw [Array.getElem?_eq_none h1] at h;cases h
theorem Bk.cell (h:Bk w g t cs) (i:Nat):w.cell? ⟨g,i,none⟩=cs[i]?:=cell_of_row w g i cs t (0,0) h
theorem Bk.free (h:Bk w g t cs) (i:Nat):w.frozen? ⟨g,i,none⟩=false:=by unfold Bk at h;simp [World.frozen?,h]
theorem Bk.new (w:World) (t:TypeId) (cs:Array Value):Bk (w.alloc (.cells cs t)) w.heap.size t cs:=heap_alloc_new w _
theorem Bk.newAt (w:World) (t:TypeId) (cs:Array Value) (n:Nat) (hn:n=w.heap.size):Bk (w.alloc (.cells cs t)) n t cs:=by subst hn;exact Bk.new w t cs
theorem Bk.alloc (h:Bk w g t cs) (o:Obj):Bk (w.alloc o) g t cs:=(Below.heap_alloc w o g h.lt).trans h
theorem Bk.set (h:Bk w g t cs) (i:Nat) (u:Value):Bk (w.setCell ⟨g,i,none⟩ u) g t (cs.setIfInBounds i u):=by
 unfold Bk at h ⊢
 simp [World.setCell,Array.getElem?_modify,h]
theorem Bk.far (h:Bk w g t cs) {p:Addr} (hp:g ≠ p.block) (u:Value):Bk (w.setCell p u) g t cs:=(Below.heap_setCell w p u g hp).trans h
theorem Bk.below {B:Nat} (h:Bk w g t cs) (hb:Below B w w') (hg:g<B):Bk w' g t cs:=(hb.block g hg).trans h
theorem Bk.drewN (h:Bk w g t cs) (n:Nat):Bk (w.drewN n) g t cs:=h
end

/-- cs with S written over it from place o on. -/
def splA (cs:Array Value) (o:Nat):List Value→Array Value
 | []=>cs
 | u :: S=>splA (cs.setIfInBounds o u) (o+1) S
theorem splA_size (S:List Value):∀ (cs:Array Value) (o:Nat),(splA cs o S).size=cs.size:=by
 induction S with
 | nil=>intro cs o;rfl
 | cons u S ih=>intro cs o;simp [splA,ih]
theorem splA_get (S:List Value):∀ (cs:Array Value) (o i:Nat),o+S.length≤cs.size→(splA cs o S)[i]?=if o≤i∧i<o+S.length then S[i - o]? else cs[i]?:=by
 induction S with
 | nil=>intro cs o i _;simp [splA];intro h1 h2;omega
 | cons u S ih =>
  intro cs o i h
  simp only [List.length_cons] at h
  rw [splA,ih _ _ _ (by simp;omega)]
  simp only [List.length_cons,Array.getElem?_setIfInBounds]
  by_cases h1:o+1≤i∧i<o+1+S.length
  ·rw [if_pos h1,if_pos (by omega),show i - o=(i - (o+1))+1 from by omega,List.getElem?_cons_succ]
  ·rw [if_neg h1]
   by_cases h2:i=o
   ·subst h2;rw [if_pos rfl,if_pos (by omega),if_pos (by omega)];simp
   ·rw [if_neg (by omega),if_neg (by omega)]

/-- w' is w but that block g has turned. -/
structure Only (g:Nat) (w w':World):Prop where
 os:w'.os=w.os
 tape:w'.tape=w.tape
 output:w'.output=w.output
 size:w'.heap.size=w.heap.size
 block:∀ k,k ≠ g→w'.heap[k]?=w.heap[k]?
theorem Only.refl (g:Nat) (w:World):Only g w w:=⟨rfl,rfl,rfl,rfl,fun _ _=>rfl⟩
theorem Only.trans {g:Nat} {a b c:World} (h:Only g a b) (k:Only g b c):Only g a c :=
 ⟨k.os.trans h.os,k.tape.trans h.tape,k.output.trans h.output,k.size.trans h.size,fun i hi=>(k.block i hi).trans (h.block i hi)⟩
theorem Only.setCell (w:World) (g i:Nat) (u:Value):Only g w (w.setCell ⟨g,i,none⟩ u):=⟨rfl,rfl,rfl,by simp,fun k hk=>Below.heap_setCell w _ u k hk⟩
theorem Only.below {g B:Nat} {w w':World} (h:Only g w w') (hB:B≤g):Below B w w':=⟨h.os,h.tape,h.output,by rw [h.size];exact Nat.le_refl _,fun k hk=>h.block k (by omega)⟩
theorem Bk.only {w w':World} {g g':Nat} {t:TypeId} {cs:Array Value} (h:Bk w g t cs) (ho:Only g' w w') (hne:g ≠ g'):Bk w' g t cs:=(ho.block g hne).trans h

section
variable {P:Program}
theorem run_storeCells_row (t:TypeId) (g:Nat):∀ (S:List Value) (w:World) (cs:Array Value) (o i:Nat),Bk w g t cs→o+i+S.length≤cs.size→(∀ u ∈ S,u.oneCell'=true) →
  ∃ w',(storeCells ⟨g,o,none⟩ S i).run P w=.ok () w'∧Bk w' g t (splA cs (o+i) S)∧Only g w w'
 | [],w,cs,o,i,h,_,_=>⟨w,by simp [storeCells],h,Only.refl g w⟩
 | u :: S,w,cs,o,i,h,hl,h1=>by
  simp only [List.length_cons] at hl
  have hc:(w.cell? ⟨g,o+i,none⟩).isSome=true:=by rw [h.cell];simp;omega
  have hst:(store ⟨g,o+i,none⟩ u).run P w=.ok () (w.setCell ⟨g,o+i,none⟩ u):=by
   have hu:=h1 u (List.mem_cons_self ..)
   obtain ⟨x,hx⟩:=Option.isSome_iff_exists.1 hc
   have hf:=h.free (o+i)
   unfold store
   cases u <;> simp_all [Sem.run,Value.oneCell']
  obtain ⟨w',r1,r2,r3⟩:=run_storeCells_row t g S (w.setCell ⟨g,o+i,none⟩ u) (cs.setIfInBounds (o+i) u) o (i+1) (h.set _ _) (by simp;omega) (fun x hx=>h1 x (List.mem_cons_of_mem _ hx))
  refine ⟨w',?_,?_,(Only.setCell w g (o+i) u).trans r3⟩
  ·simp only [storeCells,Sem.run_bind,Addr.add_lit,hst,Result.andThen_ok]
   exact r1
  ·rw [splA];exact r2

theorem run_loadVar_at (w:World) (g o:Nat) (ty:TypeId) (S:Array Value) (d:TypeDesc) (hc:∀ j u,S[j]?=some u→w.cell? ⟨g,o+j,none⟩=some u)
  (hu:P.underlying ty=some d) (hd:(match d with | .struct _ | .array _ _=>true | _=>false)=true) (hi:(P.info? ty).map (·.size)=some S.size) :
  (loadVar ty ⟨g,o,none⟩).run P w=.ok (.agg S) w:=by
 have hl:(loadCells ⟨g,o,none⟩ S.toList.length).run P w=.ok S.toList.toArray w :=
  run_loadCells_list (P:=P) w ⟨g,o,none⟩ S.toList (fun j v hv=>by
   rw [Addr.add_lit]
   exact hc j v (by simpa using hv))
 cases hq:P.info? ty with
 | none=>simp [hq] at hi
 | some i =>
  have hs:i.size=S.size:=by simpa [hq] using hi
  have hagg:(isAgg ty).run P w=.ok true w:=by
   unfold isAgg
   rw [Sem.run_bind,run_underlying hu w]
   cases d <;> simp_all
  simp only [Array.length_toList,Array.toArray_toList] at hl
  simp [loadVar,Sem.run_bind,hagg,sizeOf,typeInfo,hq,hs,hl]

theorem run_storeVar_at (w:World) (g o:Nat) (t ty:TypeId) (cs S:Array Value) (h:Bk w g t cs) (hl:o+S.size≤cs.size) (h1:∀ u ∈ S.toList,u.oneCell'=true) (hi:(P.info? ty).map (·.size)=some S.size) :
  ∃ w',(storeVar ty ⟨g,o,none⟩ (.agg S)).run P w=.ok () w'∧Bk w' g t (splA cs o S.toList)∧Only g w w':=by
 obtain ⟨w',r1,r2,r3⟩:=run_storeCells_row (P:=P) t g S.toList w cs o 0 h (by simpa using hl) h1
 refine ⟨w',?_,by simpa using r2,r3⟩
 cases hq:P.info? ty with
 | none=>simp [hq] at hi
 | some i =>
  have hs:i.size=S.size:=by simpa [hq] using hi
  simp [storeVar,Sem.run_bind,Value.cells,sizeOf,typeInfo,hq,hs,r1]

/-- A load of several cells. -/
theorem wpLoadAt {ops:Array Oper} {rest:List Oper} {o:Oper} {a:Act} {w:World} {Q:Exit→Act→World→Prop} (hgd:o.guard=none) (ty:TypeId) (x:Operand) (ho:o.op=.load ty x)
  (g off:Nat) (hx:a.eval x=.pointer (some ⟨g,off,none⟩)) (S:Array Value) (d:TypeDesc) (hc:∀ j u,S[j]?=some u→w.cell? ⟨g,off+j,none⟩=some u)
  (hu:P.underlying ty=some d) (hd:(match d with | .struct _ | .array _ _=>true | _=>false)=true) (hi:(P.info? ty).map (·.size)=some S.size)
  (h:wpList P ops Q rest (a.put o.dst (.agg S)) w):wpList P ops Q (o :: rest) a w :=
 wpList_plain hgd fun _ hK=>by
  unfold Oper.wp execOp
  simp only [ho,hx,Instr.loadAt,Instr.sureAddr,Sem.run_bind,Sem.run_pure,Result.andThen_ok,run_loadVar_at w g off ty S d hc hu hd hi]
  exact hK _ _ h

/-- A store of several cells into a block that is known whole. -/
theorem wpStoreAt {ops:Array Oper} {rest:List Oper} {o:Oper} {a:Act} {w:World} {Q:Exit→Act→World→Prop} (hgd:o.guard=none) (hdst:o.dst=none) (ty:TypeId) (x y:Operand) (ho:o.op=.store ty x y)
  (g off:Nat) (hx:a.eval x=.pointer (some ⟨g,off,none⟩)) (S:Array Value) (hy:a.eval y=.agg S) (t:TypeId) (cs:Array Value) (hb:Bk w g t cs)
  (hl:off+S.size≤cs.size) (h1:∀ u ∈ S.toList,u.oneCell'=true) (hi:(P.info? ty).map (·.size)=some S.size)
  (h:∀ w',Bk w' g t (splA cs off S.toList)→Only g w w'→wpList P ops Q rest a w'):wpList P ops Q (o :: rest) a w :=
 wpList_plain hgd fun _ hK=>by
  obtain ⟨w',r1,r2,r3⟩:=run_storeVar_at (P:=P) w g off t ty cs S hb hl h1 hi
  unfold Oper.wp execOp
  simp only [ho,hx,hy,Instr.storeAt,Instr.sureAddr,Sem.run_bind,Sem.run_pure,Result.andThen_ok,r1]
  have:=hK _ _ (h w' r2 r3)
  simpa [Oper.upon,hdst,Act.put] using this

theorem results_cellS {fn:Func} {p:Tmp} {ty:TypeId} (h:fn.results=#[.cell p ty]) (tmps:Array Value) (w:World) (g:Nat) (t:TypeId) (cs:Array Value) (d:TypeDesc)
  (hp:tmps.getD p undef=.pointer (some ⟨g,0,none⟩)) (hg:Bk w g t cs)
  (hu:P.underlying ty=some d) (hd:(match d with | .struct _ | .array _ _=>true | _=>false)=true) (hi:(P.info? ty).map (·.size)=some cs.size) :
  (results fn tmps).run P w=.ok (.agg cs) w:=results_cell_row h tmps w g t cs (0,0) d hp hg hu hd hi
theorem results_cellS_tmp {fn:Func} {p u:Tmp} {ty:TypeId} (h:fn.results=#[.cell p ty,.tmp u]) (tmps:Array Value) (w:World) (g:Nat) (t:TypeId) (cs:Array Value) (d:TypeDesc)
  (hp:tmps.getD p undef=.pointer (some ⟨g,0,none⟩)) (hg:Bk w g t cs)
  (hu:P.underlying ty=some d) (hd:(match d with | .struct _ | .array _ _=>true | _=>false)=true) (hi:(P.info? ty).map (·.size)=some cs.size) :
  (results fn tmps).run P w=.ok (.tuple #[.agg cs,tmps.getD u undef]) w:=by
 have hl:=run_loadVar_at (P:=P) w g 0 ty cs d (fun j v hj=>by rw [Nat.zero_add,hg.cell];exact hj) hu hd hi
 have hp':tmps[p]?.getD undef=.pointer (some ⟨g,0,none⟩):=by simpa using hp
 simp [results,h,hp',asAddr,hl]
end
end Go.Proofs.YtcnjenlojnognaaGreat
/- What is proved: a rule for a region whose order is drawn: what each operation leaves is stated once, and holds in whatever order they come up. Conditions: those that the rule states. -/
namespace Go.Proofs.YtcnjenlojnognaaGreat
open Go.RowKit

/-- Does this operation wait for operation j? -/
def afterB (o:Oper) (j:Nat):Bool:=o.after.toList.any fun e=>Region.binds .any e && e.on == j
def afterI (l:List Oper) (i j:Nat):Bool:=match l[i]? with | some o=>afterB o j | none=>false
/-- Does operation i wait for j, at however many removes? -/
def ancB (l:List Oper):Nat→Nat→Nat→Bool
 | 0,_,_=>false
 | n+1,i,j=>(List.range l.length).any fun k=>afterI l i k && (k == j || ancB l n k j)
def maskV (o:Oper) (vs:Nat→Value):Nat→Value:=fun j=>if afterB o j then vs j else undef
def vsOf (l:List Oper) (a:Act):Nat→Value:=fun j=>match l[j]? with | some o=>(match o.dst with | some d=>a.tmps.getD d undef | none=>undef) | none=>undef
def putAll:List Oper→(Nat→Value)→Nat→Act→Act
 | [],_,_,a=>a
 | o :: l,vs,i,a=>putAll l vs (i+1) (a.put o.dst (vs i))
/-- No slot is written twice; each operation waits for earlier ones alone; slots lie in the frame. -/
def regB (l:List Oper) (n:Nat):Bool :=
 (List.range l.length).all fun i=>match l[i]? with
  | none=>true
  | some o=>(o.after.toList.all fun e=>!Region.binds .any e || decide (e.on<i)) && (match o.dst with
   | none=>true
   | some d=>decide (d<n) && (List.range i).all fun j=>match l[j]? with | some o'=>o'.dst != some d | none=>true)
/-- Nobody who may have come up ahead of operation i writes slot t. -/
def keepB (l:List Oper) (i t:Nat):Bool :=
 (List.range l.length).all fun j=>match l[j]? with | some o=>o.dst != some t || j == i || afterB o i | none=>true

section
variable {l:List Oper} {n:Nat}
theorem regB_after (h:regB l n=true) {i:Nat} {o:Oper} (hi:l[i]?=some o) {e:Edge} (he:e ∈ o.after) (hb:Region.binds .any e=true):e.on<i:=by
 unfold regB at h
 rw [List.all_eq_true] at h
 have hlt:=(List.getElem?_eq_some_iff.1 hi).1
 have h1:=h i (by simpa using hlt)
 simp only [hi,Bool.and_eq_true,List.all_eq_true,decide_eq_true_eq,Bool.or_eq_true,Bool.not_eq_true'] at h1
 exact (h1.1 e (Array.mem_toList_iff.2 he)).resolve_left (by rw [hb];simp)
theorem regB_dst (h:regB l n=true) {i:Nat} {o:Oper} (hi:l[i]?=some o) {d:Nat} (hd:o.dst=some d):d<n∧∀ j o',j<i→l[j]?=some o'→o'.dst ≠ some d:=by
 unfold regB at h
 rw [List.all_eq_true] at h
 have hlt:=(List.getElem?_eq_some_iff.1 hi).1
 have h1:=h i (by simpa using hlt)
 simp only [hi,hd,Bool.and_eq_true,decide_eq_true_eq,List.all_eq_true,List.mem_range] at h1
 refine ⟨h1.2.1,fun j o' hj ho'=>?_⟩
 have:=h1.2.2 j hj
 simp only [ho'] at this
 simpa using this
theorem regB_ne (h:regB l n=true) {i j:Nat} {o o':Oper} (hi:l[i]?=some o) (hj:l[j]?=some o') {d:Nat} (hd:o.dst=some d) (hd':o'.dst=some d):i=j:=by
 rcases Nat.lt_trichotomy i j with h1 | h1 | h1
 ·exact absurd hd ((regB_dst h hj hd').2 i o h1 hi)
 ·exact h1
 ·exact absurd hd' ((regB_dst h hi hd).2 j o' h1 hj)

theorem afterB_lt (h:regB l n=true) {i j:Nat} {o:Oper} (hi:l[i]?=some o) (ha:afterB o j=true):j<i:=by
 unfold afterB at ha
 rw [List.any_eq_true] at ha
 obtain ⟨e,he,hh⟩:=ha
 simp only [Bool.and_eq_true,beq_iff_eq] at hh
 have:=regB_after h hi (Array.mem_toList_iff.1 he) hh.1
 omega

theorem put_getD (a:Act) (d t:Nat) (v:Value):(a.put (some d) v).tmps.getD t undef=if t=d∧d<a.tmps.size then v else a.tmps.getD t undef:=by
 simp only [Act.put,Array.getD_eq_getD_getElem?,Array.getElem?_setIfInBounds]
 by_cases h1:d=t
 ·subst h1
  by_cases h2:d<a.tmps.size
  ·simp [h2]
  ·simp [h2]
 ·simp [h1,Ne.symm h1]
theorem put_size (a:Act) (d:Option Nat) (v:Value):(a.put d v).tmps.size=a.tmps.size:=by cases d <;> simp [Act.put]
theorem put_defers (a:Act) (d:Option Nat) (v:Value):(a.put d v).defers=a.defers:=by cases d <;> rfl

theorem vsOf_put (h:regB l n=true) {a:Act} {i:Nat} {o:Oper} (hi:l[i]?=some o) (v:Value) {k:Nat} (hk:k ≠ i):vsOf l (a.put o.dst v) k=vsOf l a k:=by
 unfold vsOf
 cases hlk:l[k]? with
 | none=>rfl
 | some o' =>
  cases hd':o'.dst with
  | none=>simp only [hd']
  | some d' =>
   cases hd:o.dst with
   | none=>rfl
   | some d =>
    simp only [hd']
    rw [put_getD,if_neg]
    rintro ⟨rfl,_⟩
    exact hk (regB_ne h hlk hi hd' hd)
theorem vsOf_put_same {a:Act} {i:Nat} {o:Oper} (hi:l[i]?=some o) (v:Value) (hv:o.dst=none→v=undef) (hd:∀ d,o.dst=some d→d<a.tmps.size):vsOf l (a.put o.dst v) i=v:=by
 unfold vsOf
 simp only [hi]
 cases hd':o.dst with
 | none=>exact (hv hd').symm
 | some d =>
  simp only
  rw [put_getD,if_pos ⟨rfl,hd d hd'⟩]

theorem putAll_size (l:List Oper):∀ (vs:Nat→Value) (i:Nat) (a:Act),(putAll l vs i a).tmps.size=a.tmps.size∧(putAll l vs i a).defers=a.defers:=by
 induction l with
 | nil=>intro vs i a;exact ⟨rfl,rfl⟩
 | cons o l ih=>intro vs i a;rw [putAll];obtain ⟨h1,h2⟩:=ih vs (i+1) (a.put o.dst (vs i));exact ⟨h1.trans (put_size ..),h2.trans (put_defers ..)⟩
theorem putAll_other (l:List Oper) (t:Nat):∀ (vs:Nat→Value) (i:Nat) (a:Act),(∀ (j:Nat) (o:Oper),l[j]?=some o→o.dst ≠ some t)→(putAll l vs i a).tmps.getD t undef=a.tmps.getD t undef:=by
 induction l with
 | nil=>intro vs i a _;rfl
 | cons o l ih =>
  intro vs i a h
  rw [putAll,ih vs (i+1) _ (fun j o' hj=>h (j+1) o' (by simpa using hj))]
  cases hd:o.dst with
  | none=>rfl
  | some d=>rw [put_getD,if_neg];rintro ⟨rfl,_⟩;exact h 0 o rfl hd
theorem putAll_at (l:List Oper) (t:Nat):∀ (vs:Nat→Value) (i:Nat) (a:Act) (j:Nat) (o:Oper),l[j]?=some o→o.dst=some t→t<a.tmps.size→(∀ (j':Nat) (o':Oper),j<j'→l[j']?=some o'→o'.dst ≠ some t) →
  (putAll l vs i a).tmps.getD t undef=vs (i+j):=by
 induction l with
 | nil=>intro vs i a j o h;simp at h
 | cons x l ih =>
  intro vs i a j o hj hd ht hl
  rw [putAll]
  cases j with
  | zero =>
   simp at hj;subst hj
   rw [putAll_other l t vs (i+1) _ (fun j' o' hj'=>hl (j'+1) o' (by omega) (by simpa using hj')),hd,put_getD,if_pos ⟨rfl,ht⟩];rfl
  | succ j =>
   rw [ih vs (i+1) _ j o (by simpa using hj) hd (by rw [put_size];exact ht) (fun j' o' h1 h2=>hl (j'+1) o' (by omega) (by simpa using h2))]
   congr 1;omega

def updB (d:Nat→Bool) (i:Nat):Nat→Bool:=fun k=>if k=i then true else d k
def updV (vs:Nat→Value) (i:Nat) (v:Value):Nat→Value:=fun k=>if k=i then v else vs k
theorem anc_listed {listed:Nat→Bool} (hcl:∀ i o,l[i]?=some o→listed i=true→∀ j,afterB o j=true→listed j=true) :
  ∀ (m i j:Nat),listed i=true→ancB l m i j=true→listed j=true
 | 0,_,_,_,h=>by simp [ancB] at h
 | m+1,i,j,hi,h=>by
  unfold ancB at h
  rw [List.any_eq_true] at h
  obtain ⟨k,_,hk⟩:=h
  simp only [Bool.and_eq_true,Bool.or_eq_true,beq_iff_eq] at hk
  obtain ⟨h1,h2⟩:=hk
  have hlk:listed k=true:=by
   unfold afterI at h1
   cases hl:l[i]? with
   | none=>simp [hl] at h1
   | some o=>simp only [hl] at h1;exact hcl i o hl hi k h1
  rcases h2 with rfl | h2
  ·exact hlk
  ·exact anc_listed hcl m k j hlk h2
end

section
variable {P:Program} {l:List Oper} {Q:Exit→Act→World→Prop} {a0:Act}

/-- **A REGION WHOSE ORDER IS DRAWN.** R i v d w: what operation i leaves: its value v, by the values d of those that it waits for, in the world w. E j w w': what operation j does to the world. J: what holds of the world throughout, by which operations are done and what they have left. -/
theorem wp_region_extJ {id:Nat} {w0:World} (hm:P.follows .mixedOrders=true) (hB:regB l a0.tmps.size=true)
  (J:(Nat→Bool)→(Nat→Value)→World→Prop) (E:Nat→World→World→Prop) (R:Nat→Value→(Nat→Value)→World→Prop) (hJ:∀ vs,J (fun _=>false) vs w0.drew)
  (hR:∀ i j,i ≠ j→ancB l l.length i j=false→∀ v d w w',R i v d w→E j w w'→R i v d w')
  (hstep:∀ i o,l[i]?=some o→∀ (a:Act) (w:World) (vs:Nat→Value) (dn:Nat→Bool),a.defers=a0.defers→a.tmps.size=a0.tmps.size→(∀ m,dn m=true→i ≠ m∧ancB l l.length m i=false)→(∀ j,afterB o j=true→dn j=true)→J dn vs w→(∀ t,keepB l i t=true→a.tmps.getD t undef=a0.tmps.getD t undef) →
   (∀ j oj d,afterB o j=true→l[j]?=some oj→oj.dst=some d→a.tmps.getD d undef=vs j)→(∀ j oj,afterB o j=true→l[j]?=some oj→R j (vs j) (maskV oj vs) w) →
   if Region.wanted o (yielded l.toArray a.tmps) then o.wp P a w (fun a' w'=>∃ v,(o.dst=none→v=undef)∧a'=a.put o.dst v∧J (updB dn i) (updV vs i v) w'∧E i w w'∧R i v (maskV o vs) w') Q else J (updB dn i) (updV vs i undef) w∧E i w w∧R i undef (maskV o vs) w)
  (hend:∀ (vs:Nat→Value) (dn:Nat→Bool) (w:World),(∀ i,i<l.length→dn i=true)→J dn vs w→(∀ i o,l[i]?=some o→R i (vs i) (maskV o vs) w)→Q .normal (putAll l vs 0 a0) w) :
  (Code.region id l.toArray true).wp P Q a0 w0:=by
 refine wp_region_any hm ?_
 have key:∀ (fuel:Nat) (listed:Array Bool) (a:Act) (w:World),listed.size=l.length→(listed.toList.filter (!·)).length≤fuel→a.defers=a0.defers→a.tmps.size=a0.tmps.size→J (fun k=>listed.getD k false) (vsOf l a) w →
   (∀ t,(∀ (i:Nat) (o:Oper),l[i]?=some o→listed.getD i false=true→o.dst ≠ some t)→a.tmps.getD t undef=a0.tmps.getD t undef) →
   (∀ i o,l[i]?=some o→listed.getD i false=true→R i (vsOf l a i) (maskV o (vsOf l a)) w) →
   (∀ i o,l[i]?=some o→listed.getD i false=true→∀ j,afterB o j=true→listed.getD j false=true) →
   wpAny P .any l.toArray Q fuel listed a w:=by
  -- nothing is ready: all have come up
  have fin:∀ (listed:Array Bool) (a:Act) (w:World),listed.size=l.length→Region.ready .any l.toArray listed=[]→a.defers=a0.defers→a.tmps.size=a0.tmps.size→J (fun k=>listed.getD k false) (vsOf l a) w →
    (∀ t,(∀ (i:Nat) (o:Oper),l[i]?=some o→listed.getD i false=true→o.dst ≠ some t)→a.tmps.getD t undef=a0.tmps.getD t undef) →
    (∀ (i:Nat) (o:Oper),l[i]?=some o→listed.getD i false=true→R i (vsOf l a i) (maskV o (vsOf l a)) w)→Q .normal a w:=by
   intro listed a w hs hr hd hz hj hk hRR
   have hall:∀ m i,i<m→i<l.length→listed.getD i false=true:=by
    intro m
    induction m with
    | zero=>intro i h;omega
    | succ m ih =>
     intro i him hil
     cases hli:listed.getD i false with
     | true=>rfl
     | false =>
      exfalso
      have hmem:i ∈ Region.ready .any l.toArray listed:=by
       rw [mem_ready]
       refine ⟨?_,l[i],by simp [hil],fun e he hb=>?_⟩
       ·have:i<listed.size:=by omega
        simp [this] at hli ⊢;exact hli
       ·have:=regB_after hB (i:=i) (o:=l[i]) (by simp [hil]) he hb
        exact ih e.on (by omega) (by omega)
      rw [hr] at hmem;cases hmem
   have hall':∀ i o,l[i]?=some o→listed.getD i false=true:=fun i o hi=>hall (i+1) i (by omega) (List.getElem?_eq_some_iff.1 hi).1
   have ha:a=putAll l (vsOf l a) 0 a0:=by
    obtain ⟨p1,p2⟩:=putAll_size l (vsOf l a) 0 a0
    have ht:a.tmps=(putAll l (vsOf l a) 0 a0).tmps:=by
     apply Array.ext (by rw [p1,hz])
     intro t h1 h2
     have e1:a.tmps[t]=a.tmps.getD t undef:=by simp [h1]
     have e2:(putAll l (vsOf l a) 0 a0).tmps[t]=(putAll l (vsOf l a) 0 a0).tmps.getD t undef:=by simp [h2]
     rw [e1,e2]
     by_cases hex:∃ (i:Nat) (o:Oper),l[i]?=some o∧o.dst=some t
     ·obtain ⟨i,o,hi,hdt⟩:=hex
      rw [putAll_at l t (vsOf l a) 0 a0 i o hi hdt (by omega) (fun j' o' hlt hj' hdj=>by have:=regB_ne hB hi hj' hdt hdj;omega),Nat.zero_add]
      simp only [vsOf,hi,hdt]
     ·rw [putAll_other l t _ _ _ (fun j o hj hd=>hex ⟨j,o,hj,hd⟩)]
      exact hk t (fun i o hi _ hd=>hex ⟨i,o,hi,hd⟩)
    cases a with
    | mk tm df =>
     simp only at ht hd
     generalize putAll l (vsOf l ⟨tm,df⟩) 0 a0=b at ht p2
     cases b
     simp only at ht p2
     subst ht;rw [hd,← p2]
   rw [ha]
   exact hend _ _ _ (fun i hi=>hall (i+1) i (by omega) hi) hj (fun i o hi=>hRR i o hi (hall' i o hi))
  intro fuel
  induction fuel with
  | zero =>
   intro listed a w hs hf hd hz hj hk hRR hcl
   have hr:Region.ready .any l.toArray listed=[]:=by
    cases hr:Region.ready .any l.toArray listed with
    | nil=>rfl
    | cons i _ =>
     exfalso
     have hi:i ∈ Region.ready .any l.toArray listed:=by rw [hr];exact List.mem_cons_self ..
     obtain ⟨h0,o,ho,_⟩:=mem_ready.1 hi
     have hlt:i<listed.size:=by
      rcases Nat.lt_or_ge i listed.size with h | h
      ·exact h
      ·simp [Array.getElem?_eq_none h] at h0
     have:false ∈ listed.toList:=by
      simp [hlt] at h0
      rw [← h0];simp
     have h1:false ∈ listed.toList.filter (!·):=by simp [this]
     have:=List.length_pos_of_mem h1
     omega
   exact ⟨hr,fin listed a w hs hr hd hz hj hk hRR⟩
  | succ fuel ih =>
   intro listed a w hs hf hd hz hj hk hRR hcl
   refine ⟨fun hr=>fin listed a w hs hr hd hz hj hk hRR,fun i hi=>?_⟩
   obtain ⟨h0,o,ho,hpre⟩:=mem_ready.1 hi
   have hlt:i<listed.size:=by
    rcases Nat.lt_or_ge i listed.size with h | h
    ·exact h
    ·simp [Array.getElem?_eq_none h] at h0
   have hio:l[i]?=some o:=by simpa using ho
   have hi0:listed.getD i false=false:=by simp [hlt] at h0 ⊢;exact h0
   have hpre':∀ j,afterB o j=true→listed.getD j false=true:=by
    intro j hja
    unfold afterB at hja
    rw [List.any_eq_true] at hja
    obtain ⟨e,he,hh⟩:=hja
    simp only [Bool.and_eq_true,beq_iff_eq] at hh
    rw [← hh.2];exact hpre e (Array.mem_toList_iff.1 he) hh.1
   have hnew:∀ k,(listed.setIfInBounds i true).getD k false=true ↔ (k=i ∨ listed.getD k false=true):=by
    intro k
    by_cases hki:k=i
    ·subst hki;simp [hlt]
    ·rw [getD_set_ne false (Ne.symm hki)];simp [hki]
   have hcnt:((listed.setIfInBounds i true).toList.filter (!·)).length≤fuel:=by
    have:∀ (L:List Bool) (i:Nat),L[i]?=some false→(L.filter (!·)).length=((L.set i true).filter (!·)).length+1:=by
     intro L
     induction L with
     | nil=>intro i h;simp at h
     | cons b L ihL =>
      intro i h
      cases i with
      | zero=>simp at h;subst h;simp
      | succ i =>
       simp at h
       have:=ihL i h
       cases b <;> simp_all
    have h1:=this listed.toList i (by simp [hlt] at hi0;simp [hlt,hi0])
    rw [Array.toList_setIfInBounds]
    omega
   have cont:∀ (v:Value) (w':World),(o.dst=none→v=undef)→J (updB (fun k=>listed.getD k false) i) (updV (vsOf l a) i v) w'→E i w w'→R i v (maskV o (vsOf l a)) w' →
     wpAny P .any l.toArray Q fuel (listed.setIfInBounds i true) (a.put o.dst v) w':=by
    intro v w' hv hj' he hr
    have hvk:∀ k,k ≠ i→vsOf l (a.put o.dst v) k=vsOf l a k:=fun k hk=>vsOf_put hB hio v hk
    have hvi:vsOf l (a.put o.dst v) i=v:=vsOf_put_same hio v hv (fun d hdd=>by rw [hz];exact (regB_dst hB hio hdd).1)
    refine ih _ _ _ (by simpa using hs) hcnt ((put_defers ..).trans hd) ((put_size ..).trans hz) (by
     have e1:(fun k=>(listed.setIfInBounds i true).getD k false)=updB (fun k=>listed.getD k false) i:=by
      funext k
      unfold updB
      by_cases hki:k=i
      ·rw [if_pos hki];exact (hnew k).2 (.inl hki)
      ·rw [if_neg hki,getD_set_ne false (Ne.symm hki)]
     have e2:vsOf l (a.put o.dst v)=updV (vsOf l a) i v:=by
      funext k
      unfold updV
      by_cases hki:k=i
      ·rw [if_pos hki,hki];exact hvi
      ·rw [if_neg hki];exact hvk k hki
     rw [e1,e2];exact hj') ?_ ?_ ?_
    ·intro t ht
     have h1:o.dst ≠ some t:=ht i o hio ((hnew i).2 (.inl rfl))
     rw [← hk t (fun k ok hkk hlk=>ht k ok hkk ((hnew k).2 (.inr hlk)))]
     cases hd':o.dst with
     | none=>rfl
     | some d=>rw [put_getD,if_neg];rintro ⟨rfl,_⟩;exact h1 hd'
    ·intro k ok hkk hlk
     by_cases hki:k=i
     ·subst hki
      rw [hio] at hkk;obtain rfl:=Option.some.inj hkk
      have hmask:maskV o (vsOf l (a.put o.dst v))=maskV o (vsOf l a):=by
       funext j
       unfold maskV
       by_cases hja:afterB o j=true
       ·rw [if_pos hja,if_pos hja,hvk j (by have:=afterB_lt hB hio hja;omega)]
       ·rw [if_neg hja,if_neg hja]
      rw [hvi,hmask];exact hr
     ·have hlk':listed.getD k false=true:=((hnew k).1 hlk).resolve_left hki
      have hmask:maskV ok (vsOf l (a.put o.dst v))=maskV ok (vsOf l a):=by
       funext j
       unfold maskV
       by_cases hja:afterB ok j=true
       ·have hlj:=hcl k ok hkk hlk' j hja
        rw [if_pos hja,if_pos hja,hvk j (by rintro rfl;rw [hi0] at hlj;cases hlj)]
       ·rw [if_neg hja,if_neg hja]
      rw [hvk k hki,hmask]
      refine hR k i hki ?_ _ _ w w' (hRR k ok hkk hlk') he
      cases hanc:ancB l l.length k i with
      | false=>rfl
      | true =>
       have:=anc_listed (listed:=fun i=>listed.getD i false) hcl l.length k i hlk' hanc
       rw [show listed.getD i false=true from this] at hi0;cases hi0
    ·intro k ok hkk hlk j hja
     rw [hnew]
     by_cases hki:k=i
     ·subst hki
      rw [hio] at hkk;obtain rfl:=Option.some.inj hkk
      exact .inr (hpre' j hja)
     ·exact .inr (hcl k ok hkk (((hnew k).1 hlk).resolve_left hki) j hja)
   have hst:=hstep i o hio a w (vsOf l a) (fun k=>listed.getD k false) hd hz (fun m hm=>⟨(by rintro rfl;rw [hi0] at hm;cases hm),by
     cases hanc:ancB l l.length m i with
     | false=>rfl
     | true =>
      have:=anc_listed (listed:=fun i=>listed.getD i false) hcl l.length m i hm hanc
      rw [show listed.getD i false=true from this] at hi0;cases hi0⟩) hpre' hj
    (fun t ht=>hk t (fun k ok hkk hlk hdk=>by
     unfold keepB at ht
     rw [List.all_eq_true] at ht
     have h1:=ht k (by simpa using (List.getElem?_eq_some_iff.1 hkk).1)
     simp only [hkk,Bool.or_eq_true,bne_iff_ne,ne_eq,beq_iff_eq] at h1
     rcases h1 with (h1 | h1) | h1
     ·exact h1 hdk
     ·subst h1;rw [hi0] at hlk;cases hlk
     ·have:=hcl k ok hkk hlk i h1
      rw [hi0] at this;cases this))
    (fun j oj d _ hjl hdj=>by simp only [vsOf,hjl,hdj])
    (fun j oj hja hjl=>hRR j oj hjl (hpre' j hja))
   unfold wpOp
   simp only [ho]
   by_cases hw:Region.wanted o (yielded l.toArray a.tmps)=true
   ·rw [if_pos hw] at hst ⊢
    exact .inl (Oper.wp_mono (fun a' w' ⟨v,h1,h2,h3,h4,h5⟩=>by subst h2;exact cont v w' h1 h3 h4 h5) hst)
   ·rw [if_neg hw] at hst ⊢
    exact cont undef w (fun _=>rfl) hst.1 hst.2.1 hst.2.2
 have h00:∀ k,(Array.replicate l.toArray.size false).getD k false=false:=fun k=>by
  by_cases h:k<l.length <;> simp [h]
 refine key l.toArray.size (Array.replicate l.toArray.size false) a0 _ (by simp) ?_ rfl rfl (by rw [show (fun k=>(Array.replicate l.toArray.size false).getD k false)=fun _=>false from funext h00];exact hJ _) (fun _ _=>rfl) ?_ ?_
 ·refine Nat.le_trans (List.length_filter_le _ _) ?_
  simp
 ·intro i o hi hl
  have h0:(Array.replicate l.toArray.size false).getD i false=false:=by
   by_cases h:i<l.length <;> simp [h]
  rw [h0] at hl;cases hl
 ·intro i o hi hl
  have h0:(Array.replicate l.toArray.size false).getD i false=false:=by
   by_cases h:i<l.length <;> simp [h]
  rw [h0] at hl;cases hl

theorem wp_region_extM {id:Nat} {w0:World} (hm:P.follows .mixedOrders=true) (hB:regB l a0.tmps.size=true)
  (m:Nat) (J:Bool→World→Prop) (E:Nat→World→World→Prop) (R:Nat→Value→(Nat→Value)→World→Prop) (hJ:J false w0.drew)
  (hR:∀ i j,i ≠ j→ancB l l.length i j=false→∀ v d w w',R i v d w→E j w w'→R i v d w')
  (hstep:∀ i o,l[i]?=some o→∀ (a:Act) (w:World) (vs:Nat→Value) (b:Bool),a.defers=a0.defers→a.tmps.size=a0.tmps.size→(b=true→i ≠ m∧ancB l l.length m i=false)→J b w→(∀ t,keepB l i t=true→a.tmps.getD t undef=a0.tmps.getD t undef) →
   (∀ j oj d,afterB o j=true→l[j]?=some oj→oj.dst=some d→a.tmps.getD d undef=vs j)→(∀ j oj,afterB o j=true→l[j]?=some oj→R j (vs j) (maskV oj vs) w) →
   if Region.wanted o (yielded l.toArray a.tmps) then o.wp P a w (fun a' w'=>∃ v,(o.dst=none→v=undef)∧a'=a.put o.dst v∧J (b || i == m) w'∧E i w w'∧R i v (maskV o vs) w') Q else J (b || i == m) w∧E i w w∧R i undef (maskV o vs) w)
  (hend:∀ (vs:Nat→Value) (w:World),(m<l.length→J true w)→(∀ i o,l[i]?=some o→R i (vs i) (maskV o vs) w)→Q .normal (putAll l vs 0 a0) w) :
  (Code.region id l.toArray true).wp P Q a0 w0:=by
 refine wp_region_extJ hm hB (fun dn _ w=>J (dn m) w) E R (fun _=>hJ) hR ?_ (fun vs dn w h1 h2 h3=>hend vs w (fun hl=>by have:=h1 m hl;simp only [this] at h2;exact h2) h3)
 intro i o hi a w vs dn h1 h2 h3 _ h5 h6 h7 h8
 have e:∀ i,updB dn i m=(dn m || i == m):=fun i=>by
  unfold updB
  by_cases h:m=i
  ·subst h;simp
  ·rw [if_neg h,show (i == m)=false from by rw [beq_eq_false_iff_ne];exact Ne.symm h];simp
 simp only [e]
 exact hstep i o hi a w vs (dn m) h1 h2 (h3 m) h5 h6 h7 h8

theorem wp_region_ext {id:Nat} {w0:World} (hm:P.follows .mixedOrders=true) (hB:regB l a0.tmps.size=true)
  (J:World→Prop) (E:Nat→World→World→Prop) (R:Nat→Value→(Nat→Value)→World→Prop) (hJ:J w0.drew)
  (hR:∀ i j,i ≠ j→ancB l l.length i j=false→∀ v d w w',R i v d w→J w→E j w w'→R i v d w')
  (hstep:∀ i o,l[i]?=some o→∀ (a:Act) (w:World) (vs:Nat→Value),a.defers=a0.defers→a.tmps.size=a0.tmps.size→J w→(∀ t,keepB l i t=true→a.tmps.getD t undef=a0.tmps.getD t undef) →
   (∀ j oj d,afterB o j=true→l[j]?=some oj→oj.dst=some d→a.tmps.getD d undef=vs j)→(∀ j oj,afterB o j=true→l[j]?=some oj→R j (vs j) (maskV oj vs) w) →
   if Region.wanted o (yielded l.toArray a.tmps) then o.wp P a w (fun a' w'=>∃ v,(o.dst=none→v=undef)∧a'=a.put o.dst v∧J w'∧E i w w'∧R i v (maskV o vs) w') Q else E i w w∧R i undef (maskV o vs) w)
  (hend:∀ (vs:Nat→Value) (w:World),J w→(∀ i o,l[i]?=some o→R i (vs i) (maskV o vs) w)→Q .normal (putAll l vs 0 a0) w) :
  (Code.region id l.toArray true).wp P Q a0 w0:=by
 refine wp_region_extJ hm hB (fun _ _=>J) (fun j w w'=>J w∧E j w w') R (fun _=>hJ) (fun i j h1 h2 v d w w' h3 h4=>hR i j h1 h2 v d w w' h3 h4.1 h4.2) ?_ (fun vs dn w _ h2 h3=>hend vs w h2 h3)
 intro i o hi a w vs b h1 h2 _ _ h4 h5 h6 h7
 have:=hstep i o hi a w vs h1 h2 h4 h5 h6 h7
 split at this
 ·rename_i hw;rw [if_pos hw];exact Oper.wp_mono (fun a' w' ⟨v,x1,x2,x3,x4,x5⟩=>⟨v,x1,x2,x3,⟨h4,x4⟩,x5⟩) this
 ·rename_i hw;rw [if_neg hw];exact ⟨h4,⟨h4,this.1⟩,this.2⟩
end
end Go.Proofs.YtcnjenlojnognaaGreat
/- What is proved: the rule for a region whose order is drawn, operation by operation. Conditions: those that the rule states. -/
namespace Go.Proofs.YtcnjenlojnognaaGreat
open Go.RowKit

/-- What is owed for operation i, o: from a frame that holds what it waits for, it leaves what R says. -/
def StepOk (P:Program) (l:List Oper) (Q:Exit→Act→World→Prop) (a0:Act) (J:World→Prop) (E:Nat→World→World→Prop) (R:Nat→Value→(Nat→Value)→World→Prop) (i:Nat) (o:Oper):Prop :=
 ∀ (a:Act) (w:World) (vs:Nat→Value) (K:Act→World→Prop),J w→(∀ t,keepB l i t=true→a.tmps[t]?.getD undef=a0.tmps[t]?.getD undef) →
  (∀ j oj d,l[j]?=some oj→oj.dst=some d→afterB o j=true→a.tmps[d]?.getD undef=vs j∧R j (vs j) (maskV oj vs) w) →
  (∀ j oj,l[j]?=some oj→afterB o j=true→R j (vs j) (maskV oj vs) w) →
  (∀ v w',(o.dst=none→v=undef)→J w'→E i w w'→R i v (maskV o vs) w'→K (a.put o.dst v) w') →
  if Region.wanted o (yielded l.toArray a.tmps) then o.wp P a w K Q else K (a.put o.dst undef) w
def StepsOk (P:Program) (l:List Oper) (Q:Exit→Act→World→Prop) (a0:Act) (J:World→Prop) (E:Nat→World→World→Prop) (R:Nat→Value→(Nat→Value)→World→Prop):List Oper→Nat→Prop
 | [],_=>True
 | o :: rest,i=>StepOk P l Q a0 J E R i o∧StepsOk P l Q a0 J E R rest (i+1)

theorem StepsOk.at {P:Program} {l:List Oper} {Q:Exit→Act→World→Prop} {a0:Act} {J:World→Prop} {E:Nat→World→World→Prop} {R:Nat→Value→(Nat→Value)→World→Prop} :
  ∀ (r:List Oper) (k:Nat),StepsOk P l Q a0 J E R r k→∀ i o,r[i]?=some o→StepOk P l Q a0 J E R (k+i) o
 | [],_,_,i,o,h=>by simp at h
 | x :: r,k,hs,0,o,h=>by simp at h;subst h;exact hs.1
 | x :: r,k,hs,i+1,o,h=>by
  have:=StepsOk.at r (k+1) hs.2 i o (by simpa using h)
  rwa [show k+(i+1)=k+1+i from by omega]

theorem wp_region_steps {P:Program} {l:List Oper} {Q:Exit→Act→World→Prop} {a0:Act} {id:Nat} {w0:World} (hm:P.follows .mixedOrders=true) (hB:regB l a0.tmps.size=true)
  (J:World→Prop) (E:Nat→World→World→Prop) (R:Nat→Value→(Nat→Value)→World→Prop) (hJ:J w0.drew)
  (hR:∀ i j,i ≠ j→ancB l l.length i j=false→∀ v d w w',R i v d w→J w→E j w w'→R i v d w')
  (hs:StepsOk P l Q a0 J E R l 0)
  (hend:∀ (vs:Nat→Value) (w:World),J w→(∀ i o,l[i]?=some o→R i (vs i) (maskV o vs) w)→Q .normal (putAll l vs 0 a0) w) :
  (Code.region id l.toArray true).wp P Q a0 w0:=by
 refine wp_region_ext hm hB J E R hJ hR ?_ hend
 intro i o hi a w vs _ hz hj hk hv hr
 have h:=StepsOk.at l 0 hs i o hi
 rw [Nat.zero_add] at h
 have h1:=fun K hK=>h a w vs K hj (fun t ht=>by have:=hk t ht;simpa using this) (fun j oj d h1 h2 h3=>⟨by have:=hv j oj d h3 h1 h2;simpa using this,hr j oj h3 h1⟩) (fun j oj h1 h3=>hr j oj h3 h1) hK
 have h2:=h1 (fun a' w'=>∃ v,(o.dst=none→v=undef)∧a'=a.put o.dst v∧J w'∧E i w w'∧R i v (maskV o vs) w') (fun v w' x1 x2 x3 x4=>⟨v,x1,rfl,x2,x3,x4⟩)
 by_cases hw:Region.wanted o (yielded l.toArray a.tmps)=true
 ·rw [if_pos hw] at h2 ⊢
  exact h2
 ·rw [if_neg hw] at h2 ⊢
  obtain ⟨v,x1,x2,_,x3,x4⟩:=h2
  have hv':v=undef:=by
   cases hd:o.dst with
   | none=>exact x1 hd
   | some d =>
    rw [hd] at x2
    have hlt:=(regB_dst hB hi hd).1
    have:=congrArg (fun b:Act=>b.tmps.getD d undef) x2
    rw [put_getD,put_getD,if_pos ⟨rfl,by omega⟩,if_pos ⟨rfl,by omega⟩] at this
    exact this.symm
  subst hv'
  exact ⟨x3,x4⟩

theorem getD_bool {x:Option Value} {b:Bool} (h:x.getD undef=.bool b):x=some (.bool b):=by
 cases x with
 | none=>simp [undef] at h
 | some v=>simp at h;rw [h]
theorem wanted_yes {l:List Oper} {a:Act} {o:Oper} (j:Nat) (want:Bool) (hg:o.guard=some (j,want)) {oj:Oper} {d:Nat} (hj:l[j]?=some oj) (hd:oj.dst=some d) (hv:a.tmps[d]?.getD undef=.bool want) :
  Region.wanted o (yielded l.toArray a.tmps)=true:=by
 simp [Region.wanted,hg,yielded,hj,hd,getD_bool hv]
theorem wanted_no {l:List Oper} {a:Act} {o:Oper} (j:Nat) (want:Bool) (hg:o.guard=some (j,want)) {oj:Oper} {d:Nat} (hj:l[j]?=some oj) (hd:oj.dst=some d) (hv:a.tmps[d]?.getD undef=.bool (!want)) :
  ¬ Region.wanted o (yielded l.toArray a.tmps)=true:=by
 cases want <;> simp [Region.wanted,hg,yielded,hj,hd,getD_bool hv]

/-! Operations, one by one: each law asks what its operands hold. -/
section
variable {P:Program} {o:Oper} {a:Act} {w:World} {K:Act→World→Prop} {Q:Exit→Act→World→Prop}
theorem wpo_move (x:Operand) (v:Value) (ho:o.op=.move x ∨ o.op=.assign x) (hx:a.eval x=v) (h:K (a.put o.dst v) w):o.wp P a w K Q:=by
 unfold Oper.wp execOp
 rcases ho with ho | ho <;> simp only [ho,hx,Sem.run_pure] <;> exact h
theorem wpo_loadS (ty:TypeId) (x:Operand) (ho:o.op=.load ty x)
  (g off:Nat) (hx:a.eval x=.pointer (some ⟨g,off,none⟩)) (S:Array Value) (d:TypeDesc) (hc:∀ j u,S[j]?=some u→w.cell? ⟨g,off+j,none⟩=some u)
  (hu:P.underlying ty=some d) (hd:(match d with | .struct _ | .array _ _=>true | _=>false)=true) (hi:(P.info? ty).map (·.size)=some S.size)
  (h:K (a.put o.dst (.agg S)) w):o.wp P a w K Q:=by
 unfold Oper.wp execOp
 simp only [ho,hx,Instr.loadAt,Instr.sureAddr,Sem.run_bind,Sem.run_pure,Result.andThen_ok,run_loadVar_at w g off ty S d hc hu hd hi]
 exact h
theorem wpo_storeS (ty:TypeId) (x y:Operand) (ho:o.op=.store ty x y) (hdst:o.dst=none)
  (g off:Nat) (hx:a.eval x=.pointer (some ⟨g,off,none⟩)) (S:Array Value) (hy:a.eval y=.agg S) (t:TypeId) (cs:Array Value) (hb:Bk w g t cs)
  (hl:off+S.size≤cs.size) (h1:∀ u ∈ S.toList,u.oneCell'=true) (hi:(P.info? ty).map (·.size)=some S.size)
  (h:∀ w',Bk w' g t (splA cs off S.toList)→Only g w w'→K (a.put o.dst undef) w'):o.wp P a w K Q:=by
 obtain ⟨w',r1,r2,r3⟩:=run_storeVar_at (P:=P) w g off t ty cs S hb hl h1 hi
 unfold Oper.wp execOp
 simp only [ho,hx,hy,Instr.storeAt,Instr.sureAddr,Sem.run_bind,Sem.run_pure,Result.andThen_ok,r1]
 have:=h w' r2 r3
 simpa [Oper.upon,hdst,Act.put] using this
theorem wpo_call (f:Nat) (xs:Array Operand) (ts:Array TypeId) (ho:o.op=.call { callee:=.value (.func f),args:=xs,argTypes:=ts }) (vs:Array Value) (hx:xs.map a.eval=vs)
  (eg:∀ args w,(callFunc f args).run P w=.ok (.enter f args) w) (h:Calls P f vs w fun e w'=>∃ v,e=.returned v∧K (a.put o.dst v) w'):o.wp P a w K Q:=by
 unfold Oper.wp execOp
 simp only [ho,resolve,hx,Act.eval,Deferred.ofValue,Sem.run_bind,Sem.run_pure,Result.andThen_ok,invoke]
 simp [eg,Oper.upon]
 refine h.mono ?_
 rintro e w' ⟨v,rfl,hk⟩
 exact hk
end
end Go.Proofs.YtcnjenlojnognaaGreat
/- What is proved: the rule for a region whose order is drawn, with one operation that turns old memory. Conditions: those that the rule states. -/
namespace Go.Proofs.YtcnjenlojnognaaGreat
open Go.RowKit

/-- What is owed for operation i, o; J false: ahead of operation m, J true: behind it. -/
def StepOkM (P:Program) (l:List Oper) (Q:Exit→Act→World→Prop) (a0:Act) (m:Nat) (J:Bool→World→Prop) (E:Nat→World→World→Prop) (R:Nat→Value→(Nat→Value)→World→Prop) (i:Nat) (o:Oper):Prop :=
 ∀ (a:Act) (w:World) (vs:Nat→Value) (K:Act→World→Prop) (b:Bool),(b=true→i ≠ m∧ancB l l.length m i=false)→J b w→(∀ t,keepB l i t=true→a.tmps[t]?.getD undef=a0.tmps[t]?.getD undef) →
  (∀ j oj d,l[j]?=some oj→oj.dst=some d→afterB o j=true→a.tmps[d]?.getD undef=vs j∧R j (vs j) (maskV oj vs) w) →
  (∀ j oj,l[j]?=some oj→afterB o j=true→R j (vs j) (maskV oj vs) w) →
  (∀ v w',(o.dst=none→v=undef)→J (b || i == m) w'→E i w w'→R i v (maskV o vs) w'→K (a.put o.dst v) w') →
  if Region.wanted o (yielded l.toArray a.tmps) then o.wp P a w K Q else K (a.put o.dst undef) w
def StepsOkM (P:Program) (l:List Oper) (Q:Exit→Act→World→Prop) (a0:Act) (m:Nat) (J:Bool→World→Prop) (E:Nat→World→World→Prop) (R:Nat→Value→(Nat→Value)→World→Prop):List Oper→Nat→Prop
 | [],_=>True
 | o :: rest,i=>StepOkM P l Q a0 m J E R i o∧StepsOkM P l Q a0 m J E R rest (i+1)
theorem StepsOkM.at {P:Program} {l:List Oper} {Q:Exit→Act→World→Prop} {a0:Act} {m:Nat} {J:Bool→World→Prop} {E:Nat→World→World→Prop} {R:Nat→Value→(Nat→Value)→World→Prop} :
  ∀ (r:List Oper) (k:Nat),StepsOkM P l Q a0 m J E R r k→∀ i o,r[i]?=some o→StepOkM P l Q a0 m J E R (k+i) o
 | [],_,_,i,o,h=>by simp at h
 | x :: r,k,hs,0,o,h=>by simp at h;subst h;exact hs.1
 | x :: r,k,hs,i+1,o,h=>by
  have:=StepsOkM.at r (k+1) hs.2 i o (by simpa using h)
  rwa [show k+(i+1)=k+1+i from by omega]

theorem wp_region_stepsM {P:Program} {l:List Oper} {Q:Exit→Act→World→Prop} {a0:Act} {id:Nat} {w0:World} (hm:P.follows .mixedOrders=true) (hB:regB l a0.tmps.size=true)
  (m:Nat) (hml:m<l.length) (J:Bool→World→Prop) (E:Nat→World→World→Prop) (R:Nat→Value→(Nat→Value)→World→Prop) (hJ:J false w0.drew)
  (hR:∀ i j,i ≠ j→ancB l l.length i j=false→∀ v d w w',R i v d w→E j w w'→R i v d w')
  (hs:StepsOkM P l Q a0 m J E R l 0)
  (hend:∀ (vs:Nat→Value) (w:World),J true w→(∀ i o,l[i]?=some o→R i (vs i) (maskV o vs) w)→Q .normal (putAll l vs 0 a0) w) :
  (Code.region id l.toArray true).wp P Q a0 w0:=by
 refine wp_region_extM hm hB m J E R hJ hR ?_ (fun vs w h1 h2=>hend vs w (h1 hml) h2)
 intro i o hi a w vs b _ hz hb hj hk hv hr
 have h:=StepsOkM.at l 0 hs i o hi
 rw [Nat.zero_add] at h
 have h1:=fun K hK=>h a w vs K b hb hj (fun t ht=>by have:=hk t ht;simpa using this) (fun j oj d h1 h2 h3=>⟨by have:=hv j oj d h3 h1 h2;simpa using this,hr j oj h3 h1⟩) (fun j oj h1 h3=>hr j oj h3 h1) hK
 have h2:=h1 (fun a' w'=>∃ v,(o.dst=none→v=undef)∧a'=a.put o.dst v∧J (b || i == m) w'∧(w'=w→E i w w∧J (b || i == m) w)∧E i w w'∧R i v (maskV o vs) w') (fun v w' x1 x2 x3 x4=>⟨v,x1,rfl,x2,fun e=>by subst e;exact ⟨x3,x2⟩,x3,x4⟩)
 by_cases hw:Region.wanted o (yielded l.toArray a.tmps)=true
 ·rw [if_pos hw] at h2 ⊢
  exact Oper.wp_mono (fun a' w' ⟨v,y1,y2,y3,_,y5,y6⟩=>⟨v,y1,y2,y3,y5,y6⟩) h2
 ·rw [if_neg hw] at h2 ⊢
  obtain ⟨v,x1,x2,x3,_,x4,x5⟩:=h2
  have hv':v=undef:=by
   cases hd:o.dst with
   | none=>exact x1 hd
   | some d =>
    rw [hd] at x2
    have hlt:=(regB_dst hB hi hd).1
    have:=congrArg (fun b:Act=>b.tmps.getD d undef) x2
    rw [put_getD,put_getD,if_pos ⟨rfl,by omega⟩,if_pos ⟨rfl,by omega⟩] at this
    exact this.symm
  subst hv'
  exact ⟨x3,x4,x5⟩
/-- The like, J by which operations are done and what they left. -/
def StepOkJ (P:Program) (l:List Oper) (Q:Exit→Act→World→Prop) (a0:Act) (J:(Nat→Bool)→(Nat→Value)→World→Prop) (E:Nat→World→World→Prop) (R:Nat→Value→(Nat→Value)→World→Prop) (i:Nat) (o:Oper):Prop :=
 ∀ (a:Act) (w:World) (vs:Nat→Value) (K:Act→World→Prop) (dn:Nat→Bool),(∀ m,dn m=true→i ≠ m∧ancB l l.length m i=false)→(∀ j,afterB o j=true→dn j=true)→J dn vs w→(∀ t,keepB l i t=true→a.tmps[t]?.getD undef=a0.tmps[t]?.getD undef) →
  (∀ j oj d,l[j]?=some oj→oj.dst=some d→afterB o j=true→a.tmps[d]?.getD undef=vs j∧R j (vs j) (maskV oj vs) w) →
  (∀ j oj,l[j]?=some oj→afterB o j=true→R j (vs j) (maskV oj vs) w) →
  (∀ v w',(o.dst=none→v=undef)→J (updB dn i) (updV vs i v) w'→E i w w'→R i v (maskV o vs) w'→K (a.put o.dst v) w') →
  if Region.wanted o (yielded l.toArray a.tmps) then o.wp P a w K Q else K (a.put o.dst undef) w
def StepsOkJ (P:Program) (l:List Oper) (Q:Exit→Act→World→Prop) (a0:Act) (J:(Nat→Bool)→(Nat→Value)→World→Prop) (E:Nat→World→World→Prop) (R:Nat→Value→(Nat→Value)→World→Prop):List Oper→Nat→Prop
 | [],_=>True
 | o :: rest,i=>StepOkJ P l Q a0 J E R i o∧StepsOkJ P l Q a0 J E R rest (i+1)
theorem StepsOkJ.at {P:Program} {l:List Oper} {Q:Exit→Act→World→Prop} {a0:Act} {J:(Nat→Bool)→(Nat→Value)→World→Prop} {E:Nat→World→World→Prop} {R:Nat→Value→(Nat→Value)→World→Prop} :
  ∀ (r:List Oper) (k:Nat),StepsOkJ P l Q a0 J E R r k→∀ i o,r[i]?=some o→StepOkJ P l Q a0 J E R (k+i) o
 | [],_,_,i,o,h=>by simp at h
 | x :: r,k,hs,0,o,h=>by simp at h;subst h;exact hs.1
 | x :: r,k,hs,i+1,o,h=>by
  have:=StepsOkJ.at r (k+1) hs.2 i o (by simpa using h)
  rwa [show k+(i+1)=k+1+i from by omega]

theorem wp_region_stepsJ {P:Program} {l:List Oper} {Q:Exit→Act→World→Prop} {a0:Act} {id:Nat} {w0:World} (hm:P.follows .mixedOrders=true) (hB:regB l a0.tmps.size=true)
  (J:(Nat→Bool)→(Nat→Value)→World→Prop) (E:Nat→World→World→Prop) (R:Nat→Value→(Nat→Value)→World→Prop) (hJ:∀ vs,J (fun _=>false) vs w0.drew)
  (hR:∀ i j,i ≠ j→ancB l l.length i j=false→∀ v d w w',R i v d w→E j w w'→R i v d w')
  (hs:StepsOkJ P l Q a0 J E R l 0)
  (hend:∀ (vs:Nat→Value) (dn:Nat→Bool) (w:World),(∀ i,i<l.length→dn i=true)→J dn vs w→(∀ i o,l[i]?=some o→R i (vs i) (maskV o vs) w)→Q .normal (putAll l vs 0 a0) w) :
  (Code.region id l.toArray true).wp P Q a0 w0:=by
 refine wp_region_extJ hm hB J E R hJ hR ?_ hend
 intro i o hi a w vs b _ hz hb hb2 hj hk hv hr
 have h:=StepsOkJ.at l 0 hs i o hi
 rw [Nat.zero_add] at h
 have h1:=fun K hK=>h a w vs K b hb hb2 hj (fun t ht=>by have:=hk t ht;simpa using this) (fun j oj d h1 h2 h3=>⟨by have:=hv j oj d h3 h1 h2;simpa using this,hr j oj h3 h1⟩) (fun j oj h1 h3=>hr j oj h3 h1) hK
 have h2:=h1 (fun a' w'=>∃ v,(o.dst=none→v=undef)∧a'=a.put o.dst v∧J (updB b i) (updV vs i v) w'∧(w'=w→E i w w∧J (updB b i) (updV vs i v) w)∧E i w w'∧R i v (maskV o vs) w') (fun v w' x1 x2 x3 x4=>⟨v,x1,rfl,x2,fun e=>by subst e;exact ⟨x3,x2⟩,x3,x4⟩)
 by_cases hw:Region.wanted o (yielded l.toArray a.tmps)=true
 ·rw [if_pos hw] at h2 ⊢
  exact Oper.wp_mono (fun a' w' ⟨v,y1,y2,y3,_,y5,y6⟩=>⟨v,y1,y2,y3,y5,y6⟩) h2
 ·rw [if_neg hw] at h2 ⊢
  obtain ⟨v,x1,x2,x3,_,x4,x5⟩:=h2
  have hv':v=undef:=by
   cases hd:o.dst with
   | none=>exact x1 hd
   | some d =>
    rw [hd] at x2
    have hlt:=(regB_dst hB hi hd).1
    have:=congrArg (fun b:Act=>b.tmps.getD d undef) x2
    rw [put_getD,put_getD,if_pos ⟨rfl,by omega⟩,if_pos ⟨rfl,by omega⟩] at this
    exact this.symm
  subst hv'
  exact ⟨x3,x4,x5⟩
end Go.Proofs.YtcnjenlojnognaaGreat
/- What is proved: a class of worlds for regions whose operations read and whose callees only make memory. Conditions: those that each lemma states. -/
namespace Go.Proofs.YtcnjenlojnognaaGreat
open Go.RowKit

/-- A world that keeps all that W had. -/
structure Ext (W:World) where
 w:World
 h:Below W.heap.size W w
instance (W:World):Nonempty (Ext W):=⟨⟨W,Below.refl _ _⟩⟩
/-- The class: W, with new memory. -/
def Ext.C (W:World) (w':World):Prop:=∃ x:Ext W,w'=x.w
theorem Ext.c_drew (W:World):∃ x:Ext W,{ W with drawn:=W.drawn+1 }=x.w:=⟨⟨_,(Below.refl _ _).drew⟩,rfl⟩
theorem Ext.cell {W:World} {b o:Nat} {v:Value} (h:W.cell? ⟨b,o,none⟩=some v):∀ x:Ext W,x.w.cell? ⟨b,o,none⟩=some v:=fun x=>by
 have hb:b<W.heap.size:=World.block_lt_of_cell? W _ h
 exact (x.h.cell (p:=⟨b,o,none⟩) hb).trans h
theorem Ext.calls {P:Program} {f:FuncId} {args:Array Value} {W:World} {x:Ext W} {v:Value} (h:Calls P f args x.w fun e w'=>e=.returned v∧Below x.w.heap.size x.w w') :
  Calls P f args x.w fun e w''=>e=.returned v∧∃ y:Ext W,w''=y.w :=
 h.mono fun _ _ ⟨he,hb⟩=>⟨he,⟨_,x.h.trans (hb.mono x.h.size)⟩,rfl⟩
theorem Ext.same {P:Program} {f:FuncId} {args:Array Value} {W:World} {x:Ext W} {v:Value} (h:Calls P f args x.w fun e w'=>e=.returned v∧x.w=w') :
  Calls P f args x.w fun e w''=>e=.returned v∧∃ y:Ext W,w''=y.w :=
 h.mono fun _ _ ⟨he,hb⟩=>⟨he,x,hb.symm⟩
theorem Ext.drew {P:Program} {f:FuncId} {args:Array Value} {W:World} {x:Ext W} {v:Value} (h:Calls P f args x.w fun e w'=>e=.returned v∧∃ n,w'=x.w.drewN n) :
  Calls P f args x.w fun e w''=>e=.returned v∧∃ y:Ext W,w''=y.w :=
 h.mono fun _ _ ⟨he,n,hb⟩=>⟨he,⟨_,hb ▸ below_drewN x.h n⟩,rfl⟩
theorem wp_region_ext_quiet {P:Program} {id:Nat} {Q:Exit→Act→World→Prop} {a:Act} {W:World} {l:List Oper} (hm:P.follows .mixedOrders=true) (hB:Region.lexB .any l.toArray=true)
  (h:wpQuiet P l.toArray (fun w'=>∃ x:Ext W,w'=x.w) (fun a'=>∀ w',Below W.heap.size W w'→Q .normal a' w') l a):(Code.region id l.toArray true).wp P Q a W :=
 wp_region_quiet (C:=fun w'=>∃ x:Ext W,w'=x.w) hm hB (Ext.c_drew W) (by
  have e:(fun a'=>∀ w',(∃ x:Ext W,w'=x.w)→Q .normal a' w')=fun a'=>∀ w',Below W.heap.size W w'→Q .normal a' w':=by
   funext a';apply propext
   exact ⟨fun h w' hb=>h w' ⟨⟨w',hb⟩,rfl⟩,fun h w' ⟨x,hx⟩=>by subst hx;exact h _ x.h⟩
  rw [e];exact h)
end Go.Proofs.YtcnjenlojnognaaGreat
/- What is proved: a rule for a region whose order is drawn, in which all is read, then one call makes memory, then one store turns old memory: one walk in the order of the text. Conditions: those that the rule states. -/
namespace Go.Proofs.YtcnjenlojnognaaGreat
open Go.RowKit

def readsOk (l:List Oper) (o:Oper):Bool :=
 o.op.operands.toList.all fun x=>match x with
  | .tmp t=>((List.range l.length).any fun j=>afterB o j && (match l[j]? with | some oj=>oj.dst == some t | none=>false)) || l.all fun oj=>oj.dst != some t
  | _=>true
def isAddr (o:Oper):Bool:=match o.op with | .fieldAddr _ _ _=>true | .move _=>true | _=>false
def updOk (l:List Oper) (c m:Nat):Bool :=
 decide (m+1=l.length) && decide (c<m) && (l.all fun o=>o.guard.isNone) && ((List.range m).all fun i=>ancB l l.length m i) && afterI l m c &&
 ((List.range m).all fun i=>decide (i=c) || ((ancB l l.length c i || (match l[i]? with | some o=>isAddr o | none=>false)) && !afterI l i c)) &&
 ((List.range m).all fun i=>match l[i]? with | some o=>o.dst.isSome | none=>false) && l.all (readsOk l) && Region.noSelect l.toArray

section
variable {P:Program} {l:List Oper} {ops:Array Oper} {C:World→Prop}
theorem frame_ext {a b:Act} (hs:a.tmps.size=b.tmps.size) (hd:a.defers=b.defers) (h:∀ t,a.tmps.getD t undef=b.tmps.getD t undef):a=b:=by
 obtain ⟨ta,da⟩:=a
 obtain ⟨tb,db⟩:=b
 simp only at hs hd h
 subst hd
 congr 1
 apply Array.ext hs
 intro i h1 h2
 have:=h i
 simpa [h1,h2] using this
/-- What a lexical walk of reads shows: the frame at its end, and of each operation a frame in which it yields what that end holds. -/
theorem quiet_all {Q:Act→Prop}:∀ (L:List Oper) (a:Act),(∀ o ∈ L,o.guard=none)→(∀ o ∈ L,∃ d,o.dst=some d∧d<a.tmps.size)→L.Pairwise (fun x y=>x.dst ≠ y.dst)→wpQuiet P ops C Q L a →
  ∃ F:Act,Q F∧F.tmps.size=a.tmps.size∧F.defers=a.defers∧(∀ t,(∀ o ∈ L,o.dst ≠ some t)→F.tmps.getD t undef=a.tmps.getD t undef) ∧
   ∀ pre o post,L=pre ++ o :: post→∃ (A:Act) (v:Value),(∀ w,C w→o.quietAt P A C w v)∧(∀ d,o.dst=some d→F.tmps.getD d undef=v)∧(∀ t,(∀ x ∈ o :: post,x.dst ≠ some t)→A.tmps.getD t undef=F.tmps.getD t undef)
 | [],a,_,_,_,h=>⟨a,h,rfl,rfl,fun _ _=>rfl,fun pre o post e=>by simp at e⟩
 | o :: L,a,hg,hd,hp,h=>by
  have hgo:=hg o (List.mem_cons_self ..)
  obtain ⟨d,hdo,hlt⟩:=hd o (List.mem_cons_self ..)
  unfold wpQuiet at h
  have hw:Region.wanted o (yielded ops a.tmps)=true:=by unfold Region.wanted;rw [hgo]
  rw [if_pos hw] at h
  obtain ⟨v,h1,h2⟩:=h
  rw [List.pairwise_cons] at hp
  obtain ⟨F,q1,q2,q3,q4,q5⟩:=quiet_all L (a.put o.dst v) (fun x hx=>hg x (List.mem_cons_of_mem _ hx)) (fun x hx=>by rw [put_size];exact hd x (List.mem_cons_of_mem _ hx)) hp.2 h2
  refine ⟨F,q1,q2.trans (put_size ..),q3.trans (put_defers ..),fun t ht=>?_,fun pre x post e=>?_⟩
  ·rw [q4 t (fun x hx=>ht x (List.mem_cons_of_mem _ hx)),hdo,put_getD,if_neg]
   rintro ⟨rfl,_⟩
   exact ht o (List.mem_cons_self ..) hdo
  ·cases pre with
   | nil =>
    simp only [List.nil_append,List.cons.injEq] at e
    obtain ⟨rfl,rfl⟩:=e
    refine ⟨a,v,h1,fun d' hd'=>?_,fun t ht=>?_⟩
    ·obtain rfl:d=d':=by rw [hdo] at hd';exact Option.some.inj hd'
     rw [q4 d (fun x hx e=>hp.1 x hx (hdo.trans e.symm)),hdo,put_getD,if_pos ⟨rfl,hlt⟩]
    ·rw [q4 t (fun x hx=>ht x (List.mem_cons_of_mem _ hx)),hdo,put_getD,if_neg]
     rintro ⟨rfl,_⟩
     exact ht o (List.mem_cons_self ..) hdo
   | cons y pre =>
    simp only [List.cons_append,List.cons.injEq] at e
    obtain ⟨rfl,rfl⟩:=e
    exact q5 pre x post rfl
theorem eval_same {a b:Act} {o:Oper} (hs:∀ cs b',o.op ≠ .select cs b') (h:∀ t,Operand.tmp t ∈ o.op.operands→a.tmps.getD t undef=b.tmps.getD t undef):execOp a.eval o=execOp b.eval o :=
 execOp_congr o hs fun x hx=>by
  cases x with
  | tmp t=>have:=h t hx;simpa [Act.eval] using this
  | _=>rfl
theorem wp_transfer {o:Oper} {a F:Act} {w:World} {G:Value→World→Prop} {Q:Exit→Act→World→Prop} (he:execOp a.eval o=execOp F.eval o) (hd:∀ d,o.dst=some d→d<F.tmps.size)
  (h:o.wp P F w (fun a' w'=>∃ v,a'=F.put o.dst v∧G v w') (fun _ _ _=>False)):o.wp P a w (fun a' w'=>∃ v,a'=a.put o.dst v∧G v w') Q:=by
 have hput:∀ u v,F.put o.dst u=F.put o.dst v→a.put o.dst u=a.put o.dst v:=fun u v e=>by
  cases hdo:o.dst with
  | none=>rfl
  | some d =>
   rw [hdo] at e
   have:=congrArg (fun b:Act=>b.tmps.getD d undef) e
   rw [put_getD,put_getD,if_pos ⟨rfl,hd d hdo⟩,if_pos ⟨rfl,hd d hdo⟩] at this
   rw [this]
 unfold Oper.wp at *
 rw [he]
 generalize (execOp F.eval o).run P w=r at *
 cases r with
 | ok n w' =>
  cases n <;> simp only [Oper.upon] at h ⊢
  case value u=>obtain ⟨v,e,g⟩:=h;exact ⟨v,hput _ _ e,g⟩
  case skip=>obtain ⟨v,e,g⟩:=h;exact ⟨v,hput _ _ e,g⟩
  case defer d =>
   obtain ⟨v,e,_⟩:=h
   have:=congrArg (fun b:Act=>b.defers.length) e
   simp [put_defers] at this
  case enter f args =>
   refine Calls.mono h fun e w'' he=>?_
   cases e with
   | returned u=>obtain ⟨v,e,g⟩:=he;exact ⟨v,hput _ _ e,g⟩
   | panicked c=>exact (he:False).elim
   | outgrown=>obtain ⟨_,_,hf⟩:=he;exact (hf:False).elim
  case row row args=>exact Rows.mono h fun u w'' he=>by obtain ⟨v,e,g⟩:=he;exact ⟨v,hput _ _ e,g⟩
 | halt x w' =>
  cases x <;> simp only [Oper.upon] at h
theorem wp_of_quiet {o:Oper} {a F:Act} {w:World} {v:Value} {K:Act→World→Prop} {Q:Exit→Act→World→Prop} (he:execOp a.eval o=execOp F.eval o) (hw:C w) (h:o.quietAt P F C w v) (hk:∀ w',C w'→(isAddr o=true→w'=w)→K (a.put o.dst v) w'):o.wp P a w K Q:=by
 unfold Oper.quietAt at h
 unfold Oper.wp
 rw [he]
 have haddr:isAddr o=true→∀ f args w',(execOp F.eval o).run P w ≠ .ok (.enter f args) w':=by
  intro ha f args w'
  obtain ⟨dst,op,ty,pos,after,guard⟩:=o
  unfold isAddr at ha
  cases op <;> simp at ha <;> simp [execOp,Sem.run_pure]
  case fieldAddr t x k =>
   intro hh
   generalize Sem.run P (Instr.fieldAt t (F.eval x) k) w=r at hh
   cases r <;> simp [Result.andThen] at hh
 generalize (execOp F.eval o).run P w=r at *
 cases r with
 | ok n w' =>
  cases n <;> simp only [Oper.quietUpon] at h <;> simp only [Oper.upon]
  case value u=>obtain ⟨rfl,rfl⟩:=h;exact hk _ hw fun _=>rfl
  case skip=>obtain ⟨rfl,rfl⟩:=h;exact hk _ hw fun _=>rfl
  case enter f args =>
   obtain ⟨rfl,hc⟩:=h
   refine hc.mono fun e w'' ⟨he,hw''⟩=>?_
   subst he
   exact hk _ hw'' fun ha=>absurd rfl (haddr ha f args _)
 | halt x w'=>simp only [Oper.quietUpon] at h
theorem take_split (c m:Nat) (hcm:c<m) (i:Nat) (him:i<m) (hic:i ≠ c) (o:Oper) (hi:l[i]?=some o) :
  ∃ pre post,l.take c ++ (l.take m).drop (c+1)=pre ++ o :: post∧(∀ x ∈ o :: post,∃ k,i≤k∧l[k]?=some x):=by
 have hil:i<l.length:=(List.getElem?_eq_some_iff.1 hi).1
 have hio:l[i]=o:=(List.getElem?_eq_some_iff.1 hi).2
 rcases Nat.lt_or_ge i c with h | h
 ·refine ⟨l.take i,(l.take c).drop (i+1) ++ (l.take m).drop (c+1),?_,fun x hx=>?_⟩
  ·have e1:l.take c=l.take i ++ o :: (l.take c).drop (i+1):=by
    have h1:i<(l.take c).length:=by simp;omega
    have:=List.take_append_drop i (l.take c)
    rw [List.drop_eq_getElem_cons h1] at this
    rw [List.take_take,Nat.min_eq_left (by omega)] at this
    refine this.symm.trans ?_
    rw [show (List.take c l)[i]=o from by simp [hio]]
   rw [← List.cons_append,← List.append_assoc,← e1]
  ·rw [List.mem_cons,List.mem_append] at hx
   rcases hx with rfl | hx | hx
   ·exact ⟨i,Nat.le_refl _,hi⟩
   ·obtain ⟨k,hk⟩:=List.getElem?_of_mem hx
    rw [List.getElem?_drop,List.getElem?_take] at hk
    split at hk
    ·exact ⟨i+1+k,by omega,hk⟩
    ·cases hk
   ·obtain ⟨k,hk⟩:=List.getElem?_of_mem hx
    rw [List.getElem?_drop,List.getElem?_take] at hk
    split at hk
    ·exact ⟨c+1+k,by omega,hk⟩
    ·cases hk
 ·have hgt:c<i:=by omega
  refine ⟨l.take c ++ ((l.take m).drop (c+1)).take (i - (c+1)),(l.take m).drop (i+1),?_,fun x hx=>?_⟩
  ·rw [List.append_assoc]
   congr 1
   have h1:i - (c+1)<((l.take m).drop (c+1)).length:=by simp;omega
   have:=List.take_append_drop (i - (c+1)) ((l.take m).drop (c+1))
   rw [List.drop_eq_getElem_cons h1] at this
   refine this.symm.trans ?_
   congr 1
   congr 1
   ·simp only [List.getElem_drop,List.getElem_take]
    rw [← hio];congr 1;omega
   ·rw [List.drop_drop];congr 1;omega
  ·rw [List.mem_cons] at hx
   rcases hx with rfl | hx
   ·exact ⟨i,Nat.le_refl _,hi⟩
   ·obtain ⟨k,hk⟩:=List.getElem?_of_mem hx
    rw [List.getElem?_drop,List.getElem?_take] at hk
    split at hk
    ·exact ⟨i+1+k,by omega,hk⟩
    ·cases hk
theorem take_mem (c m:Nat) (hcm:c<m) {x:Oper} (hx:x ∈ l.take c ++ (l.take m).drop (c+1)):∃ k,k<m∧k ≠ c∧l[k]?=some x:=by
 rw [List.mem_append] at hx
 rcases hx with hx | hx
 ·obtain ⟨k,hk⟩:=List.getElem?_of_mem hx
  rw [List.getElem?_take] at hk
  split at hk
  ·exact ⟨k,by omega,by omega,hk⟩
  ·cases hk
 ·obtain ⟨k,hk⟩:=List.getElem?_of_mem hx
  rw [List.getElem?_drop,List.getElem?_take] at hk
  split at hk
  ·exact ⟨c+1+k,by omega,by omega,hk⟩
  ·cases hk
theorem wp_region_upd {Q:Exit→Act→World→Prop} {a0:Act} {id:Nat} {W:World} (c m:Nat) (oc om:Oper) (hc:l[c]?=some oc) (hmm:l[m]?=some om) (hom:om.dst=none) (hm:P.follows .mixedOrders=true)
  (hB:regB l a0.tmps.size=true) (hU:updOk l c m=true) (Val:Value→World→Prop) (End:World→Prop)
  (h:wpQuiet P l.toArray (fun w'=>∃ x:Ext W,w'=x.w) (fun F =>
   (∀ w1,Below W.heap.size W w1→∀ K:Act→World→Prop,(∀ v w2,Below W.heap.size W w2→Val v w2→K (F.put oc.dst v) w2)→oc.wp P F w1 K (fun _ _ _=>False)) ∧
   (∀ v w1,Below W.heap.size W w1→Val v w1→∀ K:Act→World→Prop,(∀ w2,End w2→K ((F.put oc.dst v).put om.dst undef) w2)→om.wp P (F.put oc.dst v) w1 K (fun _ _ _=>False)) ∧
   (∀ v w2,End w2→Q .normal ((F.put oc.dst v).put om.dst undef) w2)) (l.take c ++ (l.take m).drop (c+1)) a0):(Code.region id l.toArray true).wp P Q a0 W:=by
 unfold updOk at hU
 simp only [Bool.and_eq_true,decide_eq_true_eq] at hU
 obtain ⟨⟨⟨⟨⟨⟨⟨⟨u1,u2⟩,u3⟩,u4⟩,u5⟩,u6⟩,u7⟩,u8⟩,u9⟩:=hU
 rw [List.all_eq_true] at u3 u4 u6 u7 u8
 have hcl:c<l.length:=by omega
 have hsel:∀ (i:Nat) (o:Oper),l[i]?=some o→∀ cs b',o.op ≠ .select cs b':=fun i o hi cs b'=>Region.noSelect_spec u9 i o cs b' (by simpa using hi)
 have hguard:∀ (i:Nat) (o:Oper),l[i]?=some o→o.guard=none:=fun i o hi=>by
  have:=u3 o (List.mem_of_getElem? hi)
  simpa using this
 have hdst:∀ (i:Nat) (o:Oper),i<m→l[i]?=some o→∃ d,o.dst=some d∧d<a0.tmps.size:=fun i o him hi=>by
  have:=u7 i (by simpa using him)
  rw [hi] at this
  obtain ⟨d,hd⟩:=Option.isSome_iff_exists.1 this
  exact ⟨d,hd,(regB_dst hB hi hd).1⟩
 have hdm:∀ d,om.dst=some d→d<a0.tmps.size:=fun d hd=>(regB_dst hB hmm hd).1
 obtain ⟨dc,hdc,hdcl⟩:=hdst c oc u2 hc
 have hpw:(l.take c ++ (l.take m).drop (c+1)).Pairwise (fun x y=>x.dst ≠ y.dst):=by
  have hsub:List.Sublist (l.take c ++ (l.take m).drop (c+1)) l:=by
   have h1:List.Sublist (l.take c ++ (l.take m).drop (c+1)) (l.take m):=by
    have e:l.take m=l.take c ++ (l.take m).drop c:=by
     have:=List.take_append_drop c (l.take m)
     rw [List.take_take,Nat.min_eq_left (by omega)] at this
     exact this.symm
    conv=>arg 2;rw [e]
    exact List.Sublist.append (List.Sublist.refl _) (by rw [← List.drop_drop];exact List.drop_sublist _ _)
   exact h1.trans (List.take_sublist _ _)
  have hall:l.Pairwise (fun x y=>x.dst=none ∨ x.dst ≠ y.dst):=by
   rw [List.pairwise_iff_getElem]
   intro i j hi hj hij
   cases hx:l[i].dst with
   | none=>exact Or.inl rfl
   | some d =>
    right
    intro e
    have:=regB_ne hB (i:=i) (j:=j) (o:=l[i]) (o':=l[j]) (by simp) (by simp) hx e.symm
    omega
  have h2:=hall.sublist hsub
  refine List.Pairwise.imp_of_mem (fun {x y} hx _ hxy=>?_) h2
  obtain ⟨k,hk1,_,hk3⟩:=take_mem c m u2 hx
  obtain ⟨d,hd,_⟩:=hdst k x hk1 hk3
  rcases hxy with h' | h'
  ·rw [hd] at h';cases h'
  ·exact h'
 obtain ⟨F,⟨hcall,hstore,hfin⟩,f2,f3,f4,f5⟩:=quiet_all _ a0 (fun x hx=>by obtain ⟨k,_,_,hk⟩:=take_mem c m u2 hx;exact hguard k x hk)
  (fun x hx=>by obtain ⟨k,hk1,_,hk⟩:=take_mem c m u2 hx;exact hdst k x hk1 hk) hpw h
 -- a slot that no operation but the call and the store writes
 have f4':∀ t,(∀ o ∈ l,o.dst ≠ some t)→F.tmps.getD t undef=a0.tmps.getD t undef:=fun t ht=>f4 t fun x hx=>by
  obtain ⟨k,_,_,hk⟩:=take_mem c m u2 hx
  exact ht x (List.mem_of_getElem? hk)
 have hFc:∀ i o d,l[i]?=some o→i<m→i ≠ c→o.dst=some d→∃ A v,(∀ w,(∃ x:Ext W,w=x.w)→o.quietAt P A (fun w'=>∃ x:Ext W,w'=x.w) w v)∧F.tmps.getD d undef=v∧(∀ t,(∀ k x,i≤k→l[k]?=some x→x.dst ≠ some t)→A.tmps.getD t undef=F.tmps.getD t undef):=by
  intro i o d hi him hic hd
  obtain ⟨pre,post,e,hpost⟩:=take_split c m u2 i him hic o hi
  obtain ⟨A,v,q1,q2,q3⟩:=f5 pre o post e
  refine ⟨A,v,q1,q2 d hd,fun t ht=>q3 t fun x hx=>?_⟩
  obtain ⟨k,hk1,hk2⟩:=hpost x hx
  exact ht k x hk1 hk2
 refine wp_region_extJ hm hB (fun dn vs w=>if dn m=true then End w else (Below W.heap.size W w∧(dn c=true→Val (vs c) w))) (fun _ _ _=>True)
  (fun i v _ _=>i ≠ c→i ≠ m→∀ o d,l[i]?=some o→o.dst=some d→v=F.tmps.getD d undef) (fun vs=>?_) (fun i j _ _ v d w w' h _=>h) ?_ ?_
 ·rw [if_neg (by simp)]
  exact ⟨(Below.refl _ _).drew,fun h=>by cases h⟩
 ·intro i o hi a w vs dn hdf hsz hdone hafter hJ hkeep hval hR
  have hw:Region.wanted o (yielded l.toArray a.tmps)=true:=by unfold Region.wanted;rw [hguard i o hi]
  rw [if_pos hw]
  have hil:i<l.length:=(List.getElem?_eq_some_iff.1 hi).1
  have hread:=u8 o (List.mem_of_getElem? hi)
  unfold readsOk at hread
  rw [List.all_eq_true] at hread
  have hslot:∀ t,Operand.tmp t ∈ o.op.operands→(∃ j oj,afterB o j=true∧l[j]?=some oj∧oj.dst=some t) ∨ ∀ x ∈ l,x.dst ≠ some t:=fun t ht=>by
   have:=hread (.tmp t) (Array.mem_toList_iff.2 ht)
   simp only [Bool.or_eq_true,List.any_eq_true,List.all_eq_true,Bool.and_eq_true,List.mem_range] at this
   rcases this with ⟨j,hj,h1,h2⟩ | h'
   ·left
    rw [List.getElem?_eq_getElem hj] at h2
    exact ⟨j,l[j],h1,List.getElem?_eq_getElem hj,by simpa using h2⟩
   ·right
    intro x hx
    have:=h' x hx
    simpa using this
  have hkeep':∀ t,(∀ x ∈ l,x.dst ≠ some t)→a.tmps.getD t undef=a0.tmps.getD t undef:=fun t ht=>hkeep t (by
   unfold keepB
   rw [List.all_eq_true]
   intro j hj
   have hj':j<l.length:=by simpa using hj
   rw [List.getElem?_eq_getElem hj']
   have:=ht l[j] (List.getElem_mem hj')
   simp [this])
  by_cases him:i=m
  ·subst him
   obtain rfl:om=o:=Option.some.inj (hmm.symm.trans hi)
   have hdc':dn c=true:=hafter c (by unfold afterI at u5;rw [hmm] at u5;exact u5)
   have hnm:dn i ≠ true:=fun h'=>(hdone i h').1 rfl
   rw [if_neg hnm] at hJ
   have hEq:execOp a.eval om=execOp (F.put oc.dst (vs c)).eval om:=eval_same (hsel i om hi) fun t ht=>by
    rcases hslot t ht with ⟨j,oj,h1,h2,h3⟩ | hno
    ·have e1:=hval j oj t h1 h2 h3
     by_cases hjc:j=c
     ·subst hjc
      obtain rfl:oc=oj:=Option.some.inj (hc.symm.trans h2)
      rw [e1,h3,put_getD,if_pos ⟨rfl,by rw [f2];exact (regB_dst hB hc h3).1⟩]
     ·have hji:j<i:=afterB_lt hB hi h1
      have e2:=hR j oj h1 h2 hjc (by omega) oj t h2 h3
      rw [e1,e2,hdc,put_getD,if_neg]
      rintro ⟨rfl,_⟩
      exact hjc (regB_ne hB h2 hc h3 hdc)
    ·rw [hkeep' t hno,hdc,put_getD,if_neg,f4' t hno]
     rintro ⟨rfl,_⟩
     exact hno oc (List.mem_of_getElem? hc) hdc
   have hst:=hstore (vs c) w hJ.1 (hJ.2 hdc') (fun a' w'=>∃ v,a'=(F.put oc.dst (vs c)).put om.dst v∧End w') (fun w2 h2=>⟨undef,rfl,h2⟩)
   have ht:=wp_transfer (a:=a) (Q:=Q) hEq (fun d hd=>by rw [put_size,f2];exact hdm d hd) hst
   refine Oper.wp_mono (fun a' w' ⟨v,e,he⟩=>?_) ht
   refine ⟨undef,fun _=>rfl,by rw [e,hom];rfl,?_,trivial,fun _ h'=>absurd rfl h'⟩
   rw [if_pos (by simp [updB])];exact he
  ·have hlt:i<m:=by omega
   have hnm:dn m ≠ true:=fun h'=>by
    have:=(hdone m h').2
    have h4:=u4 i (by simpa using hlt)
    rw [h4] at this;cases this
   rw [if_neg hnm] at hJ
   have hnm':updB dn i m ≠ true:=by unfold updB;rw [if_neg (fun h=>him h.symm)];exact hnm
   obtain ⟨d,hd,hdl⟩:=hdst i o hlt hi
   by_cases hic:i=c
   ·subst hic
    obtain rfl:oc=o:=Option.some.inj (hc.symm.trans hi)
    have hEq:execOp a.eval oc=execOp F.eval oc:=eval_same (hsel i oc hi) fun t ht=>by
     rcases hslot t ht with ⟨j,oj,h1,h2,h3⟩ | hno
     ·have hji:j<i:=afterB_lt hB hi h1
      rw [hval j oj t h1 h2 h3,hR j oj h1 h2 (by omega) (by omega) oj t h2 h3]
     ·rw [hkeep' t hno,f4' t hno]
    have hca:=hcall w hJ.1 (fun a' w'=>∃ v,a'=F.put oc.dst v∧(Below W.heap.size W w'∧Val v w')) (fun v w2 h1 h2=>⟨v,rfl,h1,h2⟩)
    have ht:=wp_transfer (a:=a) (Q:=Q) hEq (fun d hd=>by rw [f2];exact (regB_dst hB hi hd).1) hca
    refine Oper.wp_mono (fun a' w' ⟨v,e,hb,hv⟩=>?_) ht
    refine ⟨v,(fun h'=>by rw [hd] at h';cases h'),e,?_,trivial,fun h'=>absurd rfl h'⟩
    rw [if_neg hnm']
    exact ⟨hb,fun _=>by simp only [updV,if_pos];exact hv⟩
   ·obtain ⟨A,v,q1,q2,q3⟩:=hFc i o d hi hlt hic hd
    have h6:=u6 i (by simpa using hlt)
    rw [Bool.or_eq_true,decide_eq_true_eq] at h6
    have h6':=h6.resolve_left hic
    rw [Bool.and_eq_true,hi] at h6'
    obtain ⟨h61,h62⟩:=h6'
    have hEq:execOp a.eval o=execOp A.eval o:=eval_same (hsel i o hi) fun t ht=>by
     rcases hslot t ht with ⟨j,oj,h1,h2,h3⟩ | hno
     ·have hji:j<i:=afterB_lt hB hi h1
      have hjc:j ≠ c:=by
       rintro rfl
       unfold afterI at h62
       rw [hi] at h62
       simp [h1] at h62
      rw [hval j oj t h1 h2 h3,hR j oj h1 h2 hjc (by omega) oj t h2 h3,q3 t]
      intro k x hk hx e
      have:=regB_ne hB hx h2 e h3
      omega
     ·rw [hkeep' t hno,q3 t (fun k x _ hx=>hno x (List.mem_of_getElem? hx)),f4' t hno]
    refine wp_of_quiet (C:=fun w'=>∃ x:Ext W,w'=x.w) hEq ⟨⟨w,hJ.1⟩,rfl⟩ (q1 w ⟨⟨w,hJ.1⟩,rfl⟩) fun w' hw' ha=>?_
    obtain ⟨x,rfl⟩:=hw'
    refine ⟨v,(fun h'=>by rw [hd] at h';cases h'),rfl,?_,trivial,fun _ _ o' d' ho' hd'=>?_⟩
    ·rw [if_neg hnm']
     refine ⟨x.h,fun hdc'=>?_⟩
     have hdc2:dn c=true:=by unfold updB at hdc';rwa [if_neg (fun h=>hic h.symm)] at hdc'
     have haddr:isAddr o=true:=by
      rw [Bool.or_eq_true] at h61
      rcases h61 with h' | h'
      ·have:=(hdone c hdc2).2
       rw [h'] at this;cases this
      ·exact h'
     have e:=ha haddr
     rw [e]
     have hv:=hJ.2 hdc2
     simpa [updV,Ne.symm hic] using hv
    ·obtain rfl:o=o':=Option.some.inj (hi.symm.trans ho')
     obtain rfl:d=d':=Option.some.inj (hd.symm.trans hd')
     exact q2.symm
 ·intro vs dn w hdn hJ hR
  rw [if_pos (hdn m (by omega))] at hJ
  have hfr:putAll l vs 0 a0=(F.put oc.dst (vs c)).put om.dst (vs m):=by
   obtain ⟨p1,p2⟩:=putAll_size l vs 0 a0
   refine frame_ext (by rw [p1,put_size,put_size,f2]) (by rw [p2,put_defers,put_defers,f3]) fun t=>?_
   by_cases ht:∃ (j:Nat) (oj:Oper),l[j]?=some oj∧oj.dst=some t
   ·obtain ⟨j,oj,h1,h2⟩:=ht
    have htl:=(regB_dst hB h1 h2).1
    rw [putAll_at l t vs 0 a0 j oj h1 h2 htl (fun j' o' hj' ho' e=>by have:=regB_ne hB ho' h1 e h2;omega),Nat.zero_add]
    by_cases hjm:j=m
    ·subst hjm
     obtain rfl:om=oj:=Option.some.inj (hmm.symm.trans h1)
     rw [h2,put_getD,if_pos ⟨rfl,by rw [put_size,f2];exact htl⟩]
    ·have hne:(((F.put oc.dst (vs c)).put om.dst (vs m)).tmps.getD t undef)=((F.put oc.dst (vs c)).tmps.getD t undef):=by
      cases hdo:om.dst with
      | none=>rfl
      | some d =>
       rw [put_getD,if_neg]
       rintro ⟨rfl,_⟩
       exact hjm (regB_ne hB h1 hmm h2 hdo)
     rw [hne]
     by_cases hjc:j=c
     ·subst hjc
      obtain rfl:oc=oj:=Option.some.inj (hc.symm.trans h1)
      rw [h2,put_getD,if_pos ⟨rfl,by rw [f2];exact htl⟩]
     ·rw [hR j oj h1 hjc hjm oj t h1 h2,hdc,put_getD,if_neg]
      rintro ⟨rfl,_⟩
      exact hjc (regB_ne hB h1 hc h2 hdc)
   ·have hno:∀ x ∈ l,x.dst ≠ some t:=fun x hx e=>by
     obtain ⟨j,hj⟩:=List.getElem?_of_mem hx
     exact ht ⟨j,x,hj,e⟩
    rw [putAll_other l t vs 0 a0 (fun j o hj=>hno o (List.mem_of_getElem? hj))]
    have hne:(((F.put oc.dst (vs c)).put om.dst (vs m)).tmps.getD t undef)=((F.put oc.dst (vs c)).tmps.getD t undef):=by
     cases hdo:om.dst with
     | none=>rfl
     | some d =>
      rw [put_getD,if_neg]
      rintro ⟨rfl,_⟩
      exact hno om (List.mem_of_getElem? hmm) hdo
    rw [hne,hdc,put_getD,if_neg,f4' t hno]
    rintro ⟨rfl,_⟩
    exact hno oc (List.mem_of_getElem? hc) hdc
  rw [hfr,hom]
  have hf:=hfin (vs c) w hJ
  rw [hom] at hf
  exact hf
end
end Go.Proofs.YtcnjenlojnognaaGreat
/- What is proved: lists of one's own; contracts of within, in, of slices.Clone at int and bool, of slices.IndexFunc and ContainsFunc. Conditions: those that each lemma states. -/
namespace Go.Proofs.YtcnjenlojnognaaGreat
open Go.RowKit

theorem inB_iff {n a b:Int}:inB n a b=true ↔ a≤n∧n≤b:=by unfold inB;rw [Bool.and_eq_true,decide_eq_true_eq,decide_eq_true_eq]
theorem allN_iff {n:Nat} {f:Nat→Bool}:allN n f=true ↔ ∀ i,i<n→f i=true:=by
 unfold allN;simp [List.all_eq_true]
set_option maxHeartbeats 400000 in
theorem within_any (a b c:Int) (w:World) :
  Calls Tryz.prog 46 #[.int .i64 a,.int .i64 b,.int .i64 c] w fun e w'=>e=.returned (.bool (inB a b c))∧w=w':=by
 go_enter Tryz.func46,Tryz.ntmps46
 go_wp2
 all_goals (go_ret;refine ⟨ret_bool ?_,rfl⟩;unfold inB;by_cases h1:b≤a <;> by_cases h2:a≤c <;> simp [h1,h2] <;> omega)
set_option maxHeartbeats 400000 in
theorem in_any (a b c:Int) (w:World) :
  Calls Tryz.prog 53 #[.int .i64 a,.int .i64 b,.int .i64 c] w fun e w'=>e=.returned (.bool (inB a b c))∧w=w':=by
 go_enter Tryz.func53,Tryz.ntmps53
 go_wp2
 all_goals (go_ret;refine ⟨ret_bool ?_,rfl⟩;unfold inB;by_cases h1:b≤a <;> by_cases h2:a≤c <;> simp [h1,h2] <;> omega)
theorem Sl.at6 {w:World} {B n i:Nat} {A:Option Addr} {f:Nat→Nat→Value} (h:Sl w B 6 A n f) (hi:i<n) :
  ∃ b off,A=some ⟨b,off,none⟩∧b<B∧w.cell? ⟨b,off+i * 6,none⟩=some (f i 0)∧w.cell? ⟨b,off+i * 6+1,none⟩=some (f i 1)∧w.cell? ⟨b,off+i * 6+2,none⟩=some (f i 2)∧w.cell? ⟨b,off+i * 6+3,none⟩=some (f i 3)∧w.cell? ⟨b,off+i * 6+4,none⟩=some (f i 4)∧w.cell? ⟨b,off+i * 6+5,none⟩=some (f i 5):=by
 obtain ⟨b,off,rfl,hB,hc⟩:=h.2 (by omega)
 exact ⟨b,off,rfl,hB,by have:=hc i hi 0 (by omega);simpa using this,by have:=hc i hi 1 (by omega);simpa using this,by have:=hc i hi 2 (by omega);simpa using this,by have:=hc i hi 3 (by omega);simpa using this,by have:=hc i hi 4 (by omega);simpa using this,by have:=hc i hi 5 (by omega);simpa using this⟩
/-- What a closure over rows says: q i of row i, in whatever later world. -/
def ClosAt (P:Program) (w:World) (g:Nat) (lb:Array Value) (n:Nat) (arg:Nat→Value) (q:Nat→Bool):Prop :=
 ∀ w',Below w.heap.size w w'→∀ i,i<n→Calls P g (#[arg i] ++ lb) w' fun e w''=>e=.returned (.bool (q i))∧Below w'.heap.size w' w''
/-- The slice (A, n) lies in a block of its own, from block B on. -/
def Cl (w:World) (B:Nat) (T:TypeId) (k:Nat) (A:Option Addr) (n:Nat) (f:Nat→Nat→Value):Prop :=
 n≤4096∧(0<n→∃ g cur,A=some ⟨g,0,none⟩∧B≤g∧Bk w g T cur∧∀ i,i<n→∀ j,j<k→cur[i * k+j]?=some (f i j))
theorem Cl.sl {w:World} {B k n:Nat} {T:TypeId} {A:Option Addr} {f:Nat→Nat→Value} (h:Cl w B T k A n f):Sl w w.heap.size k A n f :=
 ⟨by have:=h.1;omega,fun hn=>by
  obtain ⟨g,cur,e,_,hb,hc⟩:=h.2 hn
  exact ⟨g,0,e,hb.lt,fun i hi j hj=>by rw [Nat.zero_add,hb.cell];exact hc i hi j hj⟩⟩
theorem Cl.below {w w':World} {B k n:Nat} {T:TypeId} {A:Option Addr} {f:Nat→Nat→Value} (h:Cl w B T k A n f) (hb:Below w.heap.size w w'):Cl w' B T k A n f :=
 ⟨h.1,fun hn=>by obtain ⟨g,cur,e,h1,h2,h3⟩:=h.2 hn;exact ⟨g,cur,e,h1,h2.below hb h2.lt,h3⟩⟩
theorem Cl.nil (w:World) (B k:Nat) (T:TypeId) (A:Option Addr) (f:Nat→Nat→Value):Cl w B T k A 0 f:=⟨by omega,fun h=>absurd h (by omega)⟩

/-- The cells of n rows of k cells. -/
def rowsL (n k:Nat) (f:Nat→Nat→Value):List Value:=(List.range (n * k)).map fun m=>f (m / k) (m % k)
theorem rowsL_get (n k:Nat) (f:Nat→Nat→Value) (i j:Nat) (hi:i<n) (hj:j<k):(rowsL n k f)[i * k+j]?=some (f i j):=by
 have hm:i * k+j<n * k:=by
  have:(i+1) * k≤n * k:=Nat.mul_le_mul_right _ hi
  rw [Nat.add_mul,Nat.one_mul] at this;omega
 unfold rowsL
 rw [List.getElem?_map,List.getElem?_range hm]
 simp only [Option.map_some]
 rw [Nat.mul_comm i k,Nat.mul_add_div (by omega),Nat.div_eq_of_lt hj,Nat.mul_add_mod,Nat.mod_eq_of_lt hj,Nat.add_zero]
theorem rowsL_len (n k:Nat) (f:Nat→Nat→Value):(rowsL n k f).length=n * k:=by simp [rowsL]
theorem rowsL_cell {w:World} {b off n k:Nat} {f:Nat→Nat→Value} (hc:∀ i,i<n→∀ j,j<k→w.cell? ⟨b,off+i * k+j,none⟩=some (f i j)) (m:Nat) (u:Value) (hm:(rowsL n k f)[m]?=some u):w.cell? ⟨b,off+m,none⟩=some u:=by
 have hl:m<n * k:=by have:=(List.getElem?_eq_some_iff.1 hm).1;rwa [rowsL_len] at this
 have hk:0<k:=by
  rcases Nat.eq_zero_or_pos k with h | h
  ·subst h;simp at hl
  ·exact h
 have hi:m / k<n:=(Nat.div_lt_iff_lt_mul hk).2 hl
 have hj:m % k<k:=Nat.mod_lt _ hk
 have e:m / k * k+m % k=m:=by rw [Nat.mul_comm];exact Nat.div_add_mod m k
 have h1:=rowsL_get n k f (m / k) (m % k) hi hj
 rw [e] at h1
 rw [h1] at hm
 rw [← hm,← hc _ hi _ hj,Nat.add_assoc,e]
theorem rowsL_one {n k:Nat} {f:Nat→Nat→Value} (h1:∀ i j,(f i j).oneCell'=true):∀ u ∈ rowsL n k f,u.oneCell'=true:=by
 intro u hu
 unfold rowsL at hu
 obtain ⟨m,_,rfl⟩:=List.mem_map.1 hu
 exact h1 _ _
theorem Cl.of_own {w:World} {B k n:Nat} {T:TypeId} {v:Value} {f:Nat→Nat→Value} (hn:n≤4096) (h:w.ownsRow B T k v n (rowsL n k f)):∃ A c,v=.slice A n c∧Cl w B T k A n f:=by
 rcases h.2 with ⟨rfl,rfl⟩ | ⟨g,cap,cur,rfl,hb,hg,h1,h2,h3,h4⟩
 ·exact ⟨none,0,rfl,Cl.nil _ _ _ _ _ _⟩
 ·refine ⟨some ⟨g,0,none⟩,cap,rfl,hn,fun _=>⟨g,cur,rfl,hb,hg,fun i hi j hj=>?_⟩⟩
  have:=rowsL_get n k f i j hi hj
  rw [← h4,List.getElem?_take] at this
  split at this
  ·simpa using this
  ·cases this
theorem infoC_Int:(Tryz.prog.info? 3).map (fun i=>(i.zero,i.size,i.bytes))=some (some (.int .i64 0),1,8):=by kernel_rfl
set_option maxRecDepth 100000 in
set_option maxHeartbeats 1000000 in
theorem cloneInt (w:World) (A:Option Addr) (n c:Nat) (f:Nat→Nat→Value) (h:Sl w w.heap.size 1 A n f) (h1:∀ i j,(f i j).oneCell'=true) (hn:n≤4096) :
  Calls Tryz.prog 104 #[.slice A n c] w fun e w'=>∃ A' c',e=.returned (.slice A' n c')∧Cl w' w.heap.size 3 1 A' n f∧Below w.heap.size w w':=by
 cases A with
 | none =>
  have h0:n=0:=by
   rcases Nat.eq_zero_or_pos n with h0 | h0
   ·exact h0
   ·obtain ⟨b,off,e,_⟩:=h.2 h0;cases e
  subst h0
  clear h h1
  have q:∀ (w:World),(binOp .eql 48 (.slice none 0 c) (.slice none 0 0)).run Tryz.prog w=.ok (.bool true) w:=fun w=>Lib.run_eql_slice_nil w _ _ none 0 c 0 0 Tryz.underlying48
  go_enter Tryz.func104,Tryz.ntmps104
  go_wp2
  go_ret
  exact ⟨none,0,rfl,Cl.nil _ _ _ _ _ _,Below.refl _ _⟩
 | some ad =>
  obtain ⟨i0,hi,hz0,hz1,hz2⟩:=info_parts infoC_Int
  have q:∀ (w:World),(binOp .eql 48 (.slice (some ad) n c) (.slice none 0 0)).run Tryz.prog w=.ok (.bool false) w:=fun w=>Lib.run_eql_slice_nil w _ _ (some ad) n c 0 0 Tryz.underlying48
  have hcell:Hid (∀ o j u,(rowsL n 1 f)[j]?=some u→(w.alloc o).cell? (ad.add j)=some u):=Lib.hid fun o j u hj=>by
   have hl:j<n * 1:=by have:=(List.getElem?_eq_some_iff.1 hj).1;rwa [rowsL_len] at this
   obtain ⟨b,off,e,_,hc⟩:=h.2 (by omega)
   cases e
   rw [Addr.add_lit]
   exact Lib.cell?_alloc_some _ (rowsL_cell hc j u hj)
  have H1:=Lib.hid h1
  clear h h1
  go_enter Tryz.func104,Tryz.ntmps104
  go_wp2_with (at_builtin;refine wpList_append_own _ rfl _ _ 48 rfl w.heap.size 3 i0 (.int .i64 0) 1 8 Tryz.underlying48 hi hz0 hz1 hz2 rfl (by decide) _ _ _ rfl (World.ownsRow_made w #[] 0 (Nat.le_refl _) (Nat.zero_le _) rfl) ad n c (rowsL n 1 f) rfl ?qc1 ?qc2 ?qc3 ?qc4 ?qc5 ?qc6 ?_)
  case qc1=>exact rowsL_len _ _ _
  case qc2=>exact hcell.out _
  case qc3=>exact rowsL_one H1.out
  case qc4=>unfold maxLen;omega
  case qc5=>omega
  case qc6=>simp
  intro v' w1 hown hgrow _
  obtain ⟨A',c',rfl,hcl⟩:=Cl.of_own hn hown
  have hB:Below w.heap.size w w1:=((Below.refl _ w).alloc (Nat.le_refl _) _).grown hgrow (by simp) (by intro k hk;simp [Value.ownBlock] at hk;omega)
  clear hown hgrow
  have HCL:=Lib.hid hcl
  clear hcl
  go_wp2
  go_ret
  exact ⟨A',c',rfl,HCL.out,hB⟩

set_option maxRecDepth 100000 in
set_option maxHeartbeats 800000 in
theorem idxCra (w:World) (A:Option Addr) (n c:Nat) (f:Nat→Nat→Value) (h:Sl w w.heap.size 4 A n f) (g:Nat) (lb:Array Value) (q:Nat→Bool)
  (eg:∀ args w,(callFunc g args).run Tryz.prog w=.ok (.enter g args) w)
  (hq:ClosAt Tryz.prog w g lb n (fun i=>.agg #[f i 0,f i 1,f i 2,f i 3]) q) :
  Calls Tryz.prog 110 #[.slice A n c,.func (.func g) #[] lb] w fun e w'=>e=.returned (.int .i64 (idxN n q))∧Below w.heap.size w w':=by
 have hn:=h.1
 have HQ:=Lib.hid hq;clear hq
 go_enter Tryz.func110,Tryz.ntmps110
 go_wp2_with fail
 go_loopw [8] (fun i wr=>∃ k:Nat,k≤n∧i=.int .i64 k∧Hid (∀ j,j<k→q j=false)∧Below w.heap.size w wr) (fun i _=>n - (intOf i).toNat)
 case atStart=>exact ⟨0,Nat.zero_le _,rfl,Lib.hid fun j hj=>absurd hj (by omega),Below.refl _ _⟩
 case round =>
  obtain ⟨k,hk,rfl,hl,hb⟩:=hrel
  by_cases hlt:k<n
  ·obtain ⟨b,off,rfl,hB,c0,c1,c2,c3⟩:=(h.below hb).at4 hlt
   have hb2:=hb.size
   go_wp2_with fail
   refine (HQ.out wr hb k hlt).mono ?_
   rintro e w' ⟨rfl,hb'⟩
   have hbb:=hb.trans (hb'.mono hb2)
   cases hqk:q k with
   | true =>
    have HK:=Lib.hid hqk;clear hqk
    go_wp2_with fail
    go_ret
    exact ⟨ret_int (idxN_some hlt hl.out HK.out).symm,hbb⟩
   | false =>
    have HK:=Lib.hid hqk;clear hqk
    go_wp2_with fail
    go_roundw
    case rel=>exact ⟨k+1,by omega,by go_num,Lib.hid fun j hj=>if e:j=k then by subst e;exact HK.out else hl.out j (by omega),hbb⟩
    case measure=>simp [intOf];omega
  ·go_wp2_with fail
   go_ret
   obtain rfl:k=n:=by omega
   exact ⟨ret_int (idxN_none hl.out).symm,hb⟩

set_option maxHeartbeats 400000 in
theorem conCra (w:World) (A:Option Addr) (n c:Nat) (f:Nat→Nat→Value) (h:Sl w w.heap.size 4 A n f) (g:Nat) (lb:Array Value) (q:Nat→Bool)
  (eg:∀ args w,(callFunc g args).run Tryz.prog w=.ok (.enter g args) w)
  (hq:ClosAt Tryz.prog w g lb n (fun i=>.agg #[f i 0,f i 1,f i 2,f i 3]) q) :
  Calls Tryz.prog 87 #[.slice A n c,.func (.func g) #[] lb] w fun e w'=>e=.returned (.bool (!(allN n fun i=>!q i)))∧Below w.heap.size w w':=by
 have H:=Lib.hid (idxCra w A n c f h g lb q eg hq);clear hq h eg
 have hi:=Lib.hid (idxN_nonneg n q)
 go_enter Tryz.func87,Tryz.ntmps87
 go_wp2_with fail
 refine H.out.mono ?_
 rintro e w' ⟨rfl,hb⟩
 go_wp2_with fail
 go_ret
 exact ⟨ret_bool (by simpa using hi.out),hb⟩

set_option maxRecDepth 100000 in
set_option maxHeartbeats 800000 in
theorem idxPad (w:World) (A:Option Addr) (n c:Nat) (f:Nat→Nat→Value) (h:Sl w w.heap.size 3 A n f) (g:Nat) (lb:Array Value) (q:Nat→Bool)
  (eg:∀ args w,(callFunc g args).run Tryz.prog w=.ok (.enter g args) w)
  (hq:ClosAt Tryz.prog w g lb n (fun i=>.agg #[f i 0,f i 1,f i 2]) q) :
  Calls Tryz.prog 111 #[.slice A n c,.func (.func g) #[] lb] w fun e w'=>e=.returned (.int .i64 (idxN n q))∧Below w.heap.size w w':=by
 have hn:=h.1
 have HQ:=Lib.hid hq;clear hq
 go_enter Tryz.func111,Tryz.ntmps111
 go_wp2_with fail
 go_loopw [8] (fun i wr=>∃ k:Nat,k≤n∧i=.int .i64 k∧Hid (∀ j,j<k→q j=false)∧Below w.heap.size w wr) (fun i _=>n - (intOf i).toNat)
 case atStart=>exact ⟨0,Nat.zero_le _,rfl,Lib.hid fun j hj=>absurd hj (by omega),Below.refl _ _⟩
 case round =>
  obtain ⟨k,hk,rfl,hl,hb⟩:=hrel
  by_cases hlt:k<n
  ·obtain ⟨b,off,rfl,hB,c0,c1,c2⟩:=(h.below hb).at3 hlt
   have hb2:=hb.size
   go_wp2_with fail
   refine (HQ.out wr hb k hlt).mono ?_
   rintro e w' ⟨rfl,hb'⟩
   have hbb:=hb.trans (hb'.mono hb2)
   cases hqk:q k with
   | true =>
    have HK:=Lib.hid hqk;clear hqk
    go_wp2_with fail
    go_ret
    exact ⟨ret_int (idxN_some hlt hl.out HK.out).symm,hbb⟩
   | false =>
    have HK:=Lib.hid hqk;clear hqk
    go_wp2_with fail
    go_roundw
    case rel=>exact ⟨k+1,by omega,by go_num,Lib.hid fun j hj=>if e:j=k then by subst e;exact HK.out else hl.out j (by omega),hbb⟩
    case measure=>simp [intOf];omega
  ·go_wp2_with fail
   go_ret
   obtain rfl:k=n:=by omega
   exact ⟨ret_int (idxN_none hl.out).symm,hb⟩

set_option maxHeartbeats 400000 in
theorem conPad (w:World) (A:Option Addr) (n c:Nat) (f:Nat→Nat→Value) (h:Sl w w.heap.size 3 A n f) (g:Nat) (lb:Array Value) (q:Nat→Bool)
  (eg:∀ args w,(callFunc g args).run Tryz.prog w=.ok (.enter g args) w)
  (hq:ClosAt Tryz.prog w g lb n (fun i=>.agg #[f i 0,f i 1,f i 2]) q) :
  Calls Tryz.prog 89 #[.slice A n c,.func (.func g) #[] lb] w fun e w'=>e=.returned (.bool (!(allN n fun i=>!q i)))∧Below w.heap.size w w':=by
 have H:=Lib.hid (idxPad w A n c f h g lb q eg hq);clear hq h eg
 have hi:=Lib.hid (idxN_nonneg n q)
 go_enter Tryz.func89,Tryz.ntmps89
 go_wp2_with fail
 refine H.out.mono ?_
 rintro e w' ⟨rfl,hb⟩
 go_wp2_with fail
 go_ret
 exact ⟨ret_bool (by simpa using hi.out),hb⟩

set_option maxRecDepth 100000 in
set_option maxHeartbeats 800000 in
theorem idxCar (w:World) (A:Option Addr) (n c:Nat) (f:Nat→Nat→Value) (h:Sl w w.heap.size 6 A n f) (g:Nat) (lb:Array Value) (q:Nat→Bool)
  (eg:∀ args w,(callFunc g args).run Tryz.prog w=.ok (.enter g args) w)
  (hq:ClosAt Tryz.prog w g lb n (fun i=>.agg #[f i 0,f i 1,f i 2,f i 3,f i 4,f i 5]) q) :
  Calls Tryz.prog 112 #[.slice A n c,.func (.func g) #[] lb] w fun e w'=>e=.returned (.int .i64 (idxN n q))∧Below w.heap.size w w':=by
 have hn:=h.1
 have HQ:=Lib.hid hq;clear hq
 go_enter Tryz.func112,Tryz.ntmps112
 go_wp2_with fail
 go_loopw [8] (fun i wr=>∃ k:Nat,k≤n∧i=.int .i64 k∧Hid (∀ j,j<k→q j=false)∧Below w.heap.size w wr) (fun i _=>n - (intOf i).toNat)
 case atStart=>exact ⟨0,Nat.zero_le _,rfl,Lib.hid fun j hj=>absurd hj (by omega),Below.refl _ _⟩
 case round =>
  obtain ⟨k,hk,rfl,hl,hb⟩:=hrel
  by_cases hlt:k<n
  ·obtain ⟨b,off,rfl,hB,c0,c1,c2,c3,c4,c5⟩:=(h.below hb).at6 hlt
   have hb2:=hb.size
   go_wp2_with fail
   refine (HQ.out wr hb k hlt).mono ?_
   rintro e w' ⟨rfl,hb'⟩
   have hbb:=hb.trans (hb'.mono hb2)
   cases hqk:q k with
   | true =>
    have HK:=Lib.hid hqk;clear hqk
    go_wp2_with fail
    go_ret
    exact ⟨ret_int (idxN_some hlt hl.out HK.out).symm,hbb⟩
   | false =>
    have HK:=Lib.hid hqk;clear hqk
    go_wp2_with fail
    go_roundw
    case rel=>exact ⟨k+1,by omega,by go_num,Lib.hid fun j hj=>if e:j=k then by subst e;exact HK.out else hl.out j (by omega),hbb⟩
    case measure=>simp [intOf];omega
  ·go_wp2_with fail
   go_ret
   obtain rfl:k=n:=by omega
   exact ⟨ret_int (idxN_none hl.out).symm,hb⟩

set_option maxHeartbeats 400000 in
theorem conCar (w:World) (A:Option Addr) (n c:Nat) (f:Nat→Nat→Value) (h:Sl w w.heap.size 6 A n f) (g:Nat) (lb:Array Value) (q:Nat→Bool)
  (eg:∀ args w,(callFunc g args).run Tryz.prog w=.ok (.enter g args) w)
  (hq:ClosAt Tryz.prog w g lb n (fun i=>.agg #[f i 0,f i 1,f i 2,f i 3,f i 4,f i 5]) q) :
  Calls Tryz.prog 91 #[.slice A n c,.func (.func g) #[] lb] w fun e w'=>e=.returned (.bool (!(allN n fun i=>!q i)))∧Below w.heap.size w w':=by
 have H:=Lib.hid (idxCar w A n c f h g lb q eg hq);clear hq h eg
 have hi:=Lib.hid (idxN_nonneg n q)
 go_enter Tryz.func91,Tryz.ntmps91
 go_wp2_with fail
 refine H.out.mono ?_
 rintro e w' ⟨rfl,hb⟩
 go_wp2_with fail
 go_ret
 exact ⟨ret_bool (by simpa using hi.out),hb⟩

set_option maxRecDepth 100000 in
set_option maxHeartbeats 800000 in
theorem idxLau (w:World) (A:Option Addr) (n c:Nat) (f:Nat→Nat→Value) (h:Sl w w.heap.size 4 A n f) (g:Nat) (lb:Array Value) (q:Nat→Bool)
  (eg:∀ args w,(callFunc g args).run Tryz.prog w=.ok (.enter g args) w)
  (hq:ClosAt Tryz.prog w g lb n (fun i=>.agg #[f i 0,f i 1,f i 2,f i 3]) q) :
  Calls Tryz.prog 93 #[.slice A n c,.func (.func g) #[] lb] w fun e w'=>e=.returned (.int .i64 (idxN n q))∧Below w.heap.size w w':=by
 have hn:=h.1
 have HQ:=Lib.hid hq;clear hq
 go_enter Tryz.func93,Tryz.ntmps93
 go_wp2_with fail
 go_loopw [8] (fun i wr=>∃ k:Nat,k≤n∧i=.int .i64 k∧Hid (∀ j,j<k→q j=false)∧Below w.heap.size w wr) (fun i _=>n - (intOf i).toNat)
 case atStart=>exact ⟨0,Nat.zero_le _,rfl,Lib.hid fun j hj=>absurd hj (by omega),Below.refl _ _⟩
 case round =>
  obtain ⟨k,hk,rfl,hl,hb⟩:=hrel
  by_cases hlt:k<n
  ·obtain ⟨b,off,rfl,hB,c0,c1,c2,c3⟩:=(h.below hb).at4 hlt
   have hb2:=hb.size
   go_wp2_with fail
   refine (HQ.out wr hb k hlt).mono ?_
   rintro e w' ⟨rfl,hb'⟩
   have hbb:=hb.trans (hb'.mono hb2)
   cases hqk:q k with
   | true =>
    have HK:=Lib.hid hqk;clear hqk
    go_wp2_with fail
    go_ret
    exact ⟨ret_int (idxN_some hlt hl.out HK.out).symm,hbb⟩
   | false =>
    have HK:=Lib.hid hqk;clear hqk
    go_wp2_with fail
    go_roundw
    case rel=>exact ⟨k+1,by omega,by go_num,Lib.hid fun j hj=>if e:j=k then by subst e;exact HK.out else hl.out j (by omega),hbb⟩
    case measure=>simp [intOf];omega
  ·go_wp2_with fail
   go_ret
   obtain rfl:k=n:=by omega
   exact ⟨ret_int (idxN_none hl.out).symm,hb⟩

set_option maxHeartbeats 400000 in
theorem conLau (w:World) (A:Option Addr) (n c:Nat) (f:Nat→Nat→Value) (h:Sl w w.heap.size 4 A n f) (g:Nat) (lb:Array Value) (q:Nat→Bool)
  (eg:∀ args w,(callFunc g args).run Tryz.prog w=.ok (.enter g args) w)
  (hq:ClosAt Tryz.prog w g lb n (fun i=>.agg #[f i 0,f i 1,f i 2,f i 3]) q) :
  Calls Tryz.prog 57 #[.slice A n c,.func (.func g) #[] lb] w fun e w'=>e=.returned (.bool (!(allN n fun i=>!q i)))∧Below w.heap.size w w':=by
 have H:=Lib.hid (idxLau w A n c f h g lb q eg hq);clear hq h eg
 have hi:=Lib.hid (idxN_nonneg n q)
 go_enter Tryz.func57,Tryz.ntmps57
 go_wp2_with fail
 refine H.out.mono ?_
 rintro e w' ⟨rfl,hb⟩
 go_wp2_with fail
 go_ret
 exact ⟨ret_bool (by simpa using hi.out),hb⟩

set_option maxRecDepth 100000 in
set_option maxHeartbeats 800000 in
theorem idxInt (w:World) (A:Option Addr) (n c:Nat) (f:Nat→Nat→Value) (h:Sl w w.heap.size 1 A n f) (g:Nat) (lb:Array Value) (q:Nat→Bool)
  (eg:∀ args w,(callFunc g args).run Tryz.prog w=.ok (.enter g args) w)
  (hq:ClosAt Tryz.prog w g lb n (fun i=>f i 0) q) :
  Calls Tryz.prog 108 #[.slice A n c,.func (.func g) #[] lb] w fun e w'=>e=.returned (.int .i64 (idxN n q))∧Below w.heap.size w w':=by
 have hn:=h.1
 have HQ:=Lib.hid hq;clear hq
 go_enter Tryz.func108,Tryz.ntmps108
 go_wp2_with fail
 go_loopw [8] (fun i wr=>∃ k:Nat,k≤n∧i=.int .i64 k∧Hid (∀ j,j<k→q j=false)∧Below w.heap.size w wr) (fun i _=>n - (intOf i).toNat)
 case atStart=>exact ⟨0,Nat.zero_le _,rfl,Lib.hid fun j hj=>absurd hj (by omega),Below.refl _ _⟩
 case round =>
  obtain ⟨k,hk,rfl,hl,hb⟩:=hrel
  by_cases hlt:k<n
  ·obtain ⟨b,off,rfl,hB,c0⟩:=(h.below hb).at1 hlt
   have hb2:=hb.size
   go_wp2_with fail
   refine (HQ.out wr hb k hlt).mono ?_
   rintro e w' ⟨rfl,hb'⟩
   have hbb:=hb.trans (hb'.mono hb2)
   cases hqk:q k with
   | true =>
    have HK:=Lib.hid hqk;clear hqk
    go_wp2_with fail
    go_ret
    exact ⟨ret_int (idxN_some hlt hl.out HK.out).symm,hbb⟩
   | false =>
    have HK:=Lib.hid hqk;clear hqk
    go_wp2_with fail
    go_roundw
    case rel=>exact ⟨k+1,by omega,by go_num,Lib.hid fun j hj=>if e:j=k then by subst e;exact HK.out else hl.out j (by omega),hbb⟩
    case measure=>simp [intOf];omega
  ·go_wp2_with fail
   go_ret
   obtain rfl:k=n:=by omega
   exact ⟨ret_int (idxN_none hl.out).symm,hb⟩

set_option maxHeartbeats 400000 in
theorem conInt (w:World) (A:Option Addr) (n c:Nat) (f:Nat→Nat→Value) (h:Sl w w.heap.size 1 A n f) (g:Nat) (lb:Array Value) (q:Nat→Bool)
  (eg:∀ args w,(callFunc g args).run Tryz.prog w=.ok (.enter g args) w)
  (hq:ClosAt Tryz.prog w g lb n (fun i=>f i 0) q) :
  Calls Tryz.prog 80 #[.slice A n c,.func (.func g) #[] lb] w fun e w'=>e=.returned (.bool (!(allN n fun i=>!q i)))∧Below w.heap.size w w':=by
 have H:=Lib.hid (idxInt w A n c f h g lb q eg hq);clear hq h eg
 have hi:=Lib.hid (idxN_nonneg n q)
 go_enter Tryz.func80,Tryz.ntmps80
 go_wp2_with fail
 refine H.out.mono ?_
 rintro e w' ⟨rfl,hb⟩
 go_wp2_with fail
 go_ret
 exact ⟨ret_bool (by simpa using hi.out),hb⟩
end Go.Proofs.YtcnjenlojnognaaGreat
/- What is proved: plain laws of the order of launches. Conditions: none. -/
namespace Go.Proofs.YtcnjenlojnognaaGreat
open Go.RowKit

structure CraftD where
 name:ByteArray
 lift:Int
 ready:Int
 again:Int
structure PadD where
 name:ByteArray
 clean:Int
 takes:List Int
structure CargoD where
 name:ByteArray
 mass:Int
 value:Int
 frm:Int
 to:Int
 must:Bool
structure CampD where
 crafts:List CraftD
 pads:List PadD
 cargos:List CargoD
 margin:Int
structure LaunchD where
 day:Int
 craft:Int
 pad:Int
 cargos:List Int
/-- The order of two numbers; of two lists. -/
def cmpI (a b:Int):Int:=if a<b then -1 else if b<a then 1 else 0
def ordL:List Int→List Int→Int
 | [],[]=>0
 | [],_ :: _=>-1
 | _ :: _,[]=>1
 | a :: xs,b :: ys=>if a<b then -1 else if b<a then 1 else ordL xs ys
/-- The first number that is not 0. -/
def orI (a b:Int):Int:=if a=0 then b else a
def cmpL (x y:LaunchD):Int:=orI (cmpI x.day y.day) (orI (cmpI x.craft y.craft) (orI (cmpI x.pad y.pad) (ordL x.cargos y.cargos)))
theorem cmpI_zero {a b:Int}:cmpI a b=0 ↔ a=b:=by
 unfold cmpI;split
 ·simp;omega
 ·split
  ·simp;omega
  ·simp;omega
theorem cmpI_lt {a b:Int}:cmpI a b<0 ↔ a<b:=by
 unfold cmpI;split
 ·simp;omega
 ·split
  ·simp;omega
  ·simp;omega
theorem cmpI_swap (a b:Int):cmpI b a=-cmpI a b:=by
 unfold cmpI
 by_cases h:a<b
 ·rw [if_neg (by omega),if_pos h,if_pos h];rfl
 ·by_cases h':b<a
  ·rw [if_pos h',if_neg h,if_pos h']
  ·rw [if_neg h',if_neg h,if_neg h,if_neg h'];rfl
theorem ordL_zero:∀ {l m:List Int},ordL l m=0 ↔ l=m
 | [],[]=>by simp [ordL]
 | [],_ :: _=>by simp [ordL]
 | _ :: _,[]=>by simp [ordL]
 | a :: xs,b :: ys=>by
  unfold ordL
  by_cases h:a<b
  ·rw [if_pos h];simp;omega
  ·rw [if_neg h]
   by_cases h':b<a
   ·rw [if_pos h'];simp;omega
   ·rw [if_neg h',ordL_zero]
    have:a=b:=by omega
    simp [this]
theorem ordL_swap:∀ (l m:List Int),ordL m l=-ordL l m
 | [],[]=>rfl
 | [],_ :: _=>rfl
 | _ :: _,[]=>rfl
 | a :: xs,b :: ys=>by
  unfold ordL
  by_cases h:a<b
  ·rw [if_neg (by omega),if_pos h,if_pos h];rfl
  ·by_cases h':b<a
   ·rw [if_pos h',if_neg h,if_pos h']
   ·rw [if_neg h',if_neg h,if_neg h,if_neg h',ordL_swap xs ys]
theorem ordL_trans:∀ {l m n:List Int},ordL l m<0→ordL m n<0→ordL l n<0
 | [],_,_ :: _,_,_=>by simp [ordL]
 | [],[],[],h,_=>by simp [ordL] at h
 | [],_ :: _,[],_,h=>by simp [ordL] at h
 | _ :: _,[],_,h,_=>by simp [ordL] at h
 | _ :: _,_ :: _,[],_,h=>by simp [ordL] at h
 | a :: xs,b :: ys,c :: cs,h1,h2=>by
  unfold ordL at h1 h2 ⊢
  by_cases ha:a<b
  ·by_cases hb:b<c
   ·rw [if_pos (by omega)];decide
   ·rw [if_neg hb] at h2
    by_cases hc:c<b
    ·rw [if_pos hc] at h2;exact absurd h2 (by decide)
    ·rw [if_pos (by omega)];decide
  ·rw [if_neg ha] at h1
   by_cases ha':b<a
   ·rw [if_pos ha'] at h1;exact absurd h1 (by decide)
   ·rw [if_neg ha'] at h1
    obtain rfl:a=b:=by omega
    by_cases hb:a<c
    ·rw [if_pos hb];decide
    ·rw [if_neg hb] at h2 ⊢
     by_cases hc:c<a
     ·rw [if_pos hc] at h2;exact absurd h2 (by decide)
     ·rw [if_neg hc] at h2 ⊢
      exact ordL_trans h1 h2
theorem orI_zero {a b:Int}:orI a b=0 ↔ a=0∧b=0:=by
 unfold orI;split
 ·simp [*]
 ·simp [*]
theorem orI_neg (a b:Int):orI (-a) (-b)=-orI a b:=by
 unfold orI
 by_cases h:a=0
 ·rw [if_pos (by omega),if_pos h]
 ·rw [if_neg (by omega),if_neg h]
theorem orI_lt {a b:Int}:orI a b<0 ↔ a<0 ∨ (a=0∧b<0):=by
 unfold orI;split <;> omega
theorem cmpL_zero {x y:LaunchD}:cmpL x y=0 ↔ x=y:=by
 unfold cmpL
 rw [orI_zero,orI_zero,orI_zero,cmpI_zero,cmpI_zero,cmpI_zero,ordL_zero]
 cases x;cases y;simp
theorem cmpL_swap (x y:LaunchD):cmpL y x=-cmpL x y:=by
 unfold cmpL
 rw [cmpI_swap x.day,cmpI_swap x.craft,cmpI_swap x.pad,ordL_swap x.cargos,orI_neg,orI_neg,orI_neg]
theorem cmpL_trans {x y z:LaunchD} (h1:cmpL x y<0) (h2:cmpL y z<0):cmpL x z<0:=by
 unfold cmpL at *
 simp only [orI_lt,cmpI_lt,cmpI_zero] at *
 rcases h1 with h1 | ⟨h1,h1 | ⟨h1',h1 | ⟨h1'',h1⟩⟩⟩ <;> rcases h2 with h2 | ⟨h2,h2 | ⟨h2',h2 | ⟨h2'',h2⟩⟩⟩ <;> try omega
 right;refine ⟨by omega,Or.inr ⟨by omega,Or.inr ⟨by omega,ordL_trans h1 h2⟩⟩⟩
end Go.Proofs.YtcnjenlojnognaaGreat
/- What is proved: what a campaign and a plan of it are, in plain words; that the two ways to say what a craft can carry, and that indices rise, are one. Conditions: those that each lemma states. -/
namespace Go.Proofs.YtcnjenlojnognaaGreat
open Go.RowKit

def craft0:CraftD:=⟨⟨#[]⟩,0,0,0⟩
def pad0:PadD:=⟨⟨#[]⟩,0,[]⟩
def cargo0:CargoD:=⟨⟨#[]⟩,0,0,0,0,false⟩
def launch0:LaunchD:=⟨0,0,0,[]⟩
def CampD.craft (c:CampD) (i:Int):CraftD:=c.crafts.getD i.toNat craft0
def CampD.pad (c:CampD) (i:Int):PadD:=c.pads.getD i.toNat pad0
def CampD.cargo (c:CampD) (i:Int):CargoD:=c.cargos.getD i.toNat cargo0
def numI (l:List Int) (i:Nat):Int:=l.getD i 0
/-- Names are of the right lengths, and different. -/
def namesB (l:List ByteArray):Bool:=allN l.length fun k=>inB (l.getD k ⟨#[]⟩).size 1 32 && allN k fun j=>decide (l.getD j ⟨#[]⟩ ≠ l.getD k ⟨#[]⟩)
/-- Indices strictly rise, and exist. -/
def risingB (l:List Int) (many:Int):Bool:=allN l.length fun i=>inB (numI l i) 0 (many - 1) && (decide (i=0) || decide (numI l (i - 1)<numI l i))
/-- The same, told by a last one. -/
def riseL (many:Int):Int→List Int→Bool
 | _,[]=>true
 | last,n :: l=>decide (last<n) && decide (n<many) && riseL many n l
def craftB (x:CraftD):Bool:=inB x.lift 0 1073741824 && inB x.ready 0 10000 && inB x.again 0 10000
def padB (n:Int) (x:PadD):Bool:=inB x.clean 0 10000 && risingB x.takes n
def cargoB (x:CargoD):Bool:=inB x.mass 0 1073741824 && inB x.value 0 1073741824 && inB x.frm 0 x.to && decide (x.to≤10000)
def campB (c:CampD):Bool:=inB c.crafts.length 1 3 && inB c.pads.length 1 2 && inB c.cargos.length 1 6 && inB c.margin 0 1000 && c.crafts.all craftB && c.pads.all (padB c.crafts.length) && c.cargos.all cargoB &&
 namesB (c.crafts.map (·.name)) && namesB (c.pads.map (·.name)) && namesB (c.cargos.map (·.name))
def massL (c:CampD) (l:List Int):Int:=l.foldl (fun n i=>n+(c.cargo i).mass) 0
def mostB (c:CampD) (i:Int):Int:=(c.craft i).lift * 1000 / (1000+c.margin)
def possB (c:CampD) (x:LaunchD):Bool :=
 inB x.craft 0 (c.crafts.length - 1) && inB x.pad 0 (c.pads.length - 1) && (c.pad x.pad).takes.contains x.craft && inB x.day (c.craft x.craft).ready 10000 && !x.cargos.isEmpty && risingB x.cargos c.cargos.length &&
 x.cargos.all (fun i=>inB x.day (c.cargo i).frm (c.cargo i).to) && decide (massL c x.cargos≤mostB c x.craft)
/-- Why a launch cannot stand behind a plan. -/
def faultB (c:CampD) (l:List LaunchD) (x:LaunchD):Int :=
 if possB c x=false then 2
 else if 0<l.length∧0≤cmpL (l.getD (l.length - 1) launch0) x then 21
 else if (l.any fun y=>x.cargos.any fun i=>y.cargos.contains i)=true then 8
 else if (l.any fun y=>decide (y.craft=x.craft) && (decide ((c.craft x.craft).again=0) || decide (x.day<y.day+(c.craft x.craft).again)))=true then 9
 else if (l.any fun y=>decide (y.pad=x.pad) && decide (x.day<y.day+(c.pad x.pad).clean))=true then 6
 else 0
/-- The first launch, from k on, for which a plan is not valid. -/
def planFrom (c:CampD) (l:List LaunchD) (k:Nat):Nat→Int × Int
 | 0=>(-1,0)
 | n+1=>if faultB c (l.take k) (l.getD k launch0)=0 then planFrom c l (k+1) n else (k,faultB c (l.take k) (l.getD k launch0))
def planB (c:CampD) (l:List LaunchD):Int × Int:=if campB c=false then (-1,2) else planFrom c l 0 l.length
def validB (c:CampD) (l:List LaunchD):Bool:=decide ((planB c l).2=0)
def launchedB (l:List LaunchD) (i:Int):Bool:=l.any fun y=>y.cargos.contains i
def worthK (c:CampD) (l:List LaunchD):Nat→Int × Bool
 | 0=>(0,true)
 | k+1=>if launchedB l k then ((worthK c l k).1+(c.cargo k).value,(worthK c l k).2) else ((worthK c l k).1,(worthK c l k).2 && !(c.cargo k).must)
def worthB (c:CampD) (l:List LaunchD):Int × Bool × Int:=if validB c l then ((worthK c l c.cargos.length).1,(worthK c l c.cargos.length).2,0) else (0,false,2)

theorem riseL_iff (many:Int):∀ (l:List Int) (last:Int),riseL many last l=true ↔ ∀ i,i<l.length→(if i=0 then last else numI l (i - 1))<numI l i∧numI l i<many
 | [],last=>by simp [riseL]
 | n :: l,last=>by
  unfold riseL
  rw [Bool.and_eq_true,Bool.and_eq_true,decide_eq_true_eq,decide_eq_true_eq,riseL_iff many l n]
  constructor
  ·rintro ⟨⟨h1,h2⟩,h3⟩ i hi
   cases i with
   | zero=>exact ⟨h1,h2⟩
   | succ i =>
    have:=h3 i (by simpa using hi)
    cases i with
    | zero=>simpa [numI] using this
    | succ i=>simpa [numI] using this
  ·intro h
   refine ⟨by simpa [numI] using h 0 (by simp),fun i hi=>?_⟩
   have:=h (i+1) (by simpa using hi)
   cases i with
   | zero=>simpa [numI] using this
   | succ i=>simpa [numI] using this
theorem numI_up {l:List Int} {last:Int} (h:∀ i,i<l.length→(if i=0 then last else numI l (i - 1))<numI l i):∀ i,i<l.length→last<numI l i
 | 0,hi=>by simpa using h 0 hi
 | i+1,hi=>by
  have h1:=h (i+1) hi
  have h2:=numI_up h i (by omega)
  rw [if_neg (by omega)] at h1
  simp only [Nat.add_sub_cancel] at h1
  omega
/-- The program's rising is the document's. -/
theorem riseL_rising (l:List Int) (many:Int):riseL many (-1) l=risingB l many:=by
 rw [Bool.eq_iff_iff,riseL_iff]
 unfold risingB
 rw [allN_iff]
 constructor
 ·intro h i hi
  have h1:=h i hi
  have h2:=numI_up (fun i hi=>(h i hi).1) i hi
  rw [Bool.and_eq_true,inB_iff,Bool.or_eq_true,decide_eq_true_eq,decide_eq_true_eq]
  refine ⟨⟨by omega,by omega⟩,?_⟩
  by_cases e:i=0
  ·exact Or.inl e
  ·rw [if_neg e] at h1;exact Or.inr h1.1
 ·intro h i hi
  have h1:=h i hi
  rw [Bool.and_eq_true,inB_iff,Bool.or_eq_true,decide_eq_true_eq,decide_eq_true_eq] at h1
  obtain ⟨⟨h2,h3⟩,h4⟩:=h1
  refine ⟨?_,by omega⟩
  by_cases e:i=0
  ·rw [if_pos e];omega
  ·rw [if_neg e];rcases h4 with h4 | h4
   ·exact absurd h4 e
   ·exact h4
/-- What a craft can carry: by a quotient, by a product. -/
theorem most_iff (m lift margin:Int) (h:0≤margin):m≤lift * 1000 / (1000+margin) ↔ m * (1000+margin)≤lift * 1000:=Int.le_ediv_iff_mul_le (by omega)
end Go.Proofs.YtcnjenlojnognaaGreat
/- What is proved: launches in their order; a list that is sorted is determined by its launches. Conditions: those that each lemma states. -/
namespace Go.Proofs.YtcnjenlojnognaaGreat
open Go.RowKit

theorem cmpL_le_antisymm {x y:LaunchD} (h1:cmpL x y≤0) (h2:cmpL y x≤0):x=y:=by
 rw [cmpL_swap x y] at h2
 exact cmpL_zero.1 (by omega)
theorem cmpL_le_trans {x y z:LaunchD} (h1:cmpL x y≤0) (h2:cmpL y z≤0):cmpL x z≤0:=by
 by_cases e1:cmpL x y=0
 ·rw [cmpL_zero.1 e1];exact h2
 ·by_cases e2:cmpL y z=0
  ·rw [← cmpL_zero.1 e2];exact h1
  ·have:=cmpL_trans (x:=x) (y:=y) (z:=z) (by omega) (by omega);omega
def SortedL (l:List LaunchD):Prop:=l.Pairwise fun x y=>cmpL x y≤0
theorem sorted_unique:∀ {l m:List LaunchD},l.Perm m→SortedL l→SortedL m→l=m
 | [],m,hp,_,_=>(List.Perm.nil_eq hp)
 | x :: l,[],hp,_,_=>absurd hp.length_eq (by simp)
 | x :: l,y :: m,hp,hl,hm=>by
  have e:x=y:=by
   have h1:x ∈ y :: m:=hp.mem_iff.1 (by simp)
   have h2:y ∈ x :: l:=hp.mem_iff.2 (by simp)
   rcases List.mem_cons.1 h1 with h1 | h1
   ·exact h1
   rcases List.mem_cons.1 h2 with h2 | h2
   ·exact h2.symm
   exact cmpL_le_antisymm ((List.pairwise_cons.1 hl).1 y h2) ((List.pairwise_cons.1 hm).1 x h1)
  subst e
  rw [sorted_unique (List.Perm.cons_inv hp) (List.pairwise_cons.1 hl).2 (List.pairwise_cons.1 hm).2]
/-- A launch put into a sorted list, behind those that are less. -/
def putL (x:LaunchD):List LaunchD→List LaunchD
 | []=>[x]
 | y :: l=>if cmpL y x<0 then y :: putL x l else x :: y :: l
def sortL:List LaunchD→List LaunchD
 | []=>[]
 | x :: l=>putL x (sortL l)
theorem putL_perm (x:LaunchD):∀ l,(putL x l).Perm (x :: l)
 | []=>List.Perm.refl _
 | y :: l=>by
  unfold putL;split
  ·exact ((putL_perm x l).cons y).trans (List.Perm.swap x y l)
  ·exact List.Perm.refl _
theorem putL_sorted {x:LaunchD}:∀ {l},SortedL l→SortedL (putL x l)
 | [],_=>by simp [putL,SortedL]
 | y :: l,h=>by
  obtain ⟨h1,h2⟩:=List.pairwise_cons.1 h
  unfold putL;split
  ·rename_i hc
   refine List.pairwise_cons.2 ⟨fun z hz=>?_,putL_sorted h2⟩
   rcases List.mem_cons.1 ((putL_perm x l).mem_iff.1 hz) with e | e
   ·subst e;omega
   ·exact h1 z e
  ·rename_i hc
   have hxy:cmpL x y≤0:=by rw [cmpL_swap y x];omega
   refine List.pairwise_cons.2 ⟨fun z hz=>?_,h⟩
   rcases List.mem_cons.1 hz with e | e
   ·subst e;exact hxy
   ·exact cmpL_le_trans hxy (h1 z e)
theorem sortL_perm:∀ l,(sortL l).Perm l
 | []=>List.Perm.refl _
 | x :: l=>(putL_perm x (sortL l)).trans ((sortL_perm l).cons x)
theorem sortL_sorted:∀ l,SortedL (sortL l)
 | []=>List.Pairwise.nil
 | _ :: l=>putL_sorted (sortL_sorted l)
/-- Whatever sorts, sorts so. -/
theorem sortL_eq {l m:List LaunchD} (hp:m.Perm l) (hm:SortedL m):m=sortL l:=sorted_unique (hp.trans (sortL_perm l).symm) hm (sortL_sorted l)

/-- A launch moved behind those that came ahead of it. -/
def pushB (c:CampD) (x:LaunchD):List LaunchD→LaunchD
 | []=>x
 | y :: out=>pushB c { x with day:=(fun d=>if y.pad=x.pad then max d (y.day+(c.pad x.pad).clean) else d) (if y.craft=x.craft then max x.day (y.day+(c.craft x.craft).again) else x.day) } out
def delayK (c:CampD) (l:List LaunchD) (i:Int) (days:Int):Nat→List LaunchD
 | 0=>[]
 | j+1=>delayK c l i days j ++ [(fun x:LaunchD=>if i<(j:Int) then pushB c x (delayK c l i days j) else if (j:Int)=i then { x with day:=x.day+days } else x) (l.getD j launch0)]
def delayedB (c:CampD) (l:List LaunchD) (i:Int) (days:Int):List LaunchD:=sortL (delayK c l i days l.length)
def meantB (c:CampD) (l:List LaunchD) (i:Int):Int:=if validB c l=false then 2 else if inB i 0 (l.length - 1)=false then 7 else 0
def delayB (c:CampD) (l:List LaunchD) (i days:Int):List LaunchD × Int :=
 if meantB c l i ≠ 0 then ([],meantB c l i)
 else if inB days 0 10000=false then ([],4)
 else if validB c (delayedB c l i days)=false then ([],7)
 else (delayedB c l i days,0)
/-- By halves: the last number, from low on, that passes, of those below high. -/
def halvesB (p:Int→Bool):Nat→Int→Int→Int
 | 0,low,_=>low
 | n+1,low,high=>if 1<high - low then (if p ((low+high) / 2) then halvesB p n ((low+high) / 2) high else halvesB p n low ((low+high) / 2)) else low
def slackB (c:CampD) (l:List LaunchD) (i:Int):Int × Int :=
 if meantB c l i ≠ 0 then (0,meantB c l i) else (halvesB (fun d=>validB c (delayedB c l i d)) 10001 0 10001,0)
/-- More rounds than needed do not matter. -/
theorem halvesB_more (p:Int→Bool):∀ (n:Nat) (low high:Int),high - low≤n+1→∀ m,n≤m→halvesB p m low high=halvesB p n low high
 | 0,low,high,h,m,_=>by
  cases m with
  | zero=>rfl
  | succ m=>show (if 1<high - low then _ else low)=low;rw [if_neg (by omega)]
 | n+1,low,high,h,m,hm=>by
  obtain ⟨m,rfl⟩:∃ k,m=k+1:=⟨m - 1,by omega⟩
  unfold halvesB
  by_cases h1:1<high - low
  ·rw [if_pos h1,if_pos h1,halvesB_more p n _ high (by omega) m (by omega),halvesB_more p n low _ (by omega) m (by omega)]
  ·rw [if_neg h1,if_neg h1]
end Go.Proofs.YtcnjenlojnognaaGreat
/- What is proved: the plain model of the search for the best plan (definitions, and a few laws of them). Conditions: those that each lemma states. -/
namespace Go.Proofs.YtcnjenlojnognaaGreat
open Go.RowKit

/-- The cargos of a set; how many. -/
def bitsL (s:Nat):List Int:=((List.range 6).filter fun i=>s.testBit i).map Int.ofNat
def sizeS (s:Nat):Nat:=(bitsL s).length
def partsS (s:Nat):List Nat:=(List.range 64).filter fun p=>decide (p ≠ 0) && decide (p &&& s=p)
structure FreeD where
 crafts:Nat→Int
 pads:Nat→Int
 flown:Nat→Bool
def free0:FreeD:=⟨fun _=>0,fun _=>0,fun _=>false⟩
def behindB (c:CampD) (f:FreeD) (x:LaunchD):FreeD :=
 ⟨fun i=>if i=x.craft.toNat then x.day+(c.craft x.craft).again else f.crafts i,fun i=>if i=x.pad.toNat then x.day+(c.pad x.pad).clean else f.pads i,fun i=>if i=x.craft.toNat then true else f.flown i⟩
def soonB (c:CampD) (f:FreeD) (last:Int) (i k:Nat) (l:List Int):Int :=
 l.foldl (fun d n=>max d (c.cargo n).frm) (max (max (max last (c.craft i).ready) (f.crafts i)) (f.pads k))
def tryB (c:CampD) (f:FreeD) (last:LaunchD) (p i k:Nat):List LaunchD :=
 (fun x:LaunchD=>if (decide (0<(c.craft i).again) || !f.flown i) && possB c x && decide (cmpL last x<0) then [x] else []) ⟨soonB c f last.day i k (bitsL p),i,k,bitsL p⟩
/-- The launches that can come next. -/
def nextB (c:CampD) (f:FreeD) (last:LaunchD) (s:Nat):List LaunchD :=
 sortL ((partsS s).flatMap fun p=>(List.range c.crafts.length).flatMap fun i=>(List.range c.pads.length).flatMap fun k=>tryB c f last p i k)
def restS (s:Nat) (l:List Int):Nat:=l.foldl (fun s i=>s &&& (63 ^^^ (1 <<< i.toNat))) s
/-- The first plan that launches a set with so many launches. -/
def fillB (c:CampD):Nat→FreeD→LaunchD→Nat→Option (List LaunchD)
 | 0,_,_,s=>if s=0 then some [] else none
 | left+1,f,last,s =>
  if sizeS s<left+1 ∨ s=0 then none
  else (nextB c f last s).findSome? fun x =>
   if sizeS (restS s x.cargos)<left ∨ (left=0∧restS s x.cargos ≠ 0) then none else (fillB c left (behindB c f x) x (restS s x.cargos)).map fun l=>x :: l
def leastB (c:CampD) (s n:Nat):Option (List LaunchD):=fillB c n free0 ⟨-1,0,0,[]⟩ s
/-- The order of plans. -/
def cmpP:List LaunchD→List LaunchD→Int
 | [],[]=>0
 | [],_ :: _=>-1
 | _ :: _,[]=>1
 | a :: xs,b :: ys=>orI (cmpL a b) (cmpP xs ys)
def lessP (best:Option (List LaunchD)) (o:Option (List LaunchD)):Option (List LaunchD) :=
 match o,best with
 | none,b=>b
 | some p,none=>some p
 | some p,some b=>if cmpP p b<0 then some p else some b
def firstK (c:CampD) (L:List Nat) (n:Nat):Option (List LaunchD):=L.foldl (fun best s=>lessP best (leastB c s n)) none
def firstB (c:CampD) (L:List Nat):Option (List LaunchD):=(List.range (c.cargos.length+1)).findSome? (firstK c L)
def worthS (c:CampD) (s:Nat):Int:=(bitsL s).foldl (fun n i=>n+(c.cargo i).value) 0
def mustS (c:CampD):Nat:=(List.range c.cargos.length).foldl (fun (m i:Nat)=>if (c.cargo (i:Int)).must then m ||| (1 <<< i) else m) 0
def setsB (c:CampD):List Nat:=(List.range (1 <<< c.cargos.length)).filter fun s=>decide (s &&& mustS c=mustS c)
/-- Different numbers, rising. -/
def insI (x:Int):List Int→List Int
 | []=>[x]
 | y :: l=>if x<y then x :: y :: l else if x=y then y :: l else y :: insI x l
def valsI:List Int→List Int
 | []=>[]
 | x :: l=>insI x (valsI l)
/-- The best plan: of the greatest worth at which there is one. -/
def bestB (c:CampD):Option (List LaunchD):=(valsI ((setsB c).map (worthS c))).reverse.findSome? fun v=>firstB c ((setsB c).filter fun s=>decide (worthS c s=v))
def canB (c:CampD) (s:Nat):Bool:=(firstB c [s]).isSome
def fewerB (out:Option (List Int)) (l:List Int):Bool :=
 match out with
 | none=>true
 | some o=>decide (l.length<o.length) || (decide (l.length=o.length) && decide (ordL l o<0))
def conflictB (c:CampD):Option (List Int) :=
 if canB c (mustS c) then none else (partsS (mustS c)).reverse.foldl (fun out p=>if fewerB out (bitsL p) && !canB c p then some (bitsL p) else out) none
theorem insI_mem {x z:Int}:∀ {l:List Int},z ∈ insI x l ↔ z=x ∨ z ∈ l
 | []=>by simp [insI]
 | y :: l=>by
  unfold insI;split
  ·simp
  ·split
   ·rename_i h;subst h;simp
   ·rw [List.mem_cons,insI_mem,List.mem_cons];constructor
    ·rintro (h | h | h)
     ·exact Or.inr (Or.inl h)
     ·exact Or.inl h
     ·exact Or.inr (Or.inr h)
    ·rintro (h | h | h)
     ·exact Or.inr (Or.inl h)
     ·exact Or.inl h
     ·exact Or.inr (Or.inr h)
theorem insI_rise {x:Int}:∀ {l:List Int},l.Pairwise (·<·)→(insI x l).Pairwise (·<·)
 | [],_=>by simp [insI]
 | y :: l,h=>by
  obtain ⟨h1,h2⟩:=List.pairwise_cons.1 h
  unfold insI;split
  ·rename_i hx
   exact List.pairwise_cons.2 ⟨fun z hz=>by
    rcases List.mem_cons.1 hz with e | e
    ·subst e;exact hx
    ·have:=h1 z e;omega,h⟩
  ·split
   ·exact h
   ·rename_i hx hy
    exact List.pairwise_cons.2 ⟨fun z hz=>by
     rcases insI_mem.1 hz with e | e
     ·subst e;omega
     ·exact h1 z e,insI_rise h2⟩
theorem valsI_mem {z:Int}:∀ {l:List Int},z ∈ valsI l ↔ z ∈ l
 | []=>by simp [valsI]
 | x :: l=>by show z ∈ insI x (valsI l) ↔ _;rw [insI_mem,valsI_mem,List.mem_cons]
theorem valsI_rise:∀ (l:List Int),(valsI l).Pairwise (·<·)
 | []=>List.Pairwise.nil
 | _ :: l=>insI_rise (valsI_rise l)
/-- Rising lists of the same numbers are one. -/
theorem rise_unique:∀ {l m:List Int},l.Pairwise (·<·)→m.Pairwise (·<·)→(∀ z,z ∈ l ↔ z ∈ m)→l=m
 | [],[],_,_,_=>rfl
 | [],y :: m,_,_,h=>absurd ((h y).2 (by simp)) (by simp)
 | x :: l,[],_,_,h=>absurd ((h x).1 (by simp)) (by simp)
 | x :: l,y :: m,hl,hm,h=>by
  obtain ⟨l1,l2⟩:=List.pairwise_cons.1 hl
  obtain ⟨m1,m2⟩:=List.pairwise_cons.1 hm
  have e:x=y:=by
   have h1:=(h x).1 (by simp)
   have h2:=(h y).2 (by simp)
   rcases List.mem_cons.1 h1 with h1 | h1
   ·exact h1
   rcases List.mem_cons.1 h2 with h2 | h2
   ·exact h2.symm
   have:=l1 y h2
   have:=m1 x h1
   omega
  subst e
  rw [rise_unique l2 m2 fun z=>?_]
  constructor
  ·intro hz
   rcases List.mem_cons.1 ((h z).1 (List.mem_cons_of_mem _ hz)) with e | e
   ·subst e;exact absurd (l1 z hz) (by omega)
   ·exact e
  ·intro hz
   rcases List.mem_cons.1 ((h z).2 (List.mem_cons_of_mem _ hz)) with e | e
   ·subst e;exact absurd (m1 z hz) (by omega)
   ·exact e
theorem cmpP_zero:∀ {a b:List LaunchD},cmpP a b=0 ↔ a=b
 | [],[]=>by simp [cmpP]
 | [],_ :: _=>by simp [cmpP]
 | _ :: _,[]=>by simp [cmpP]
 | a :: xs,b :: ys=>by
  show orI (cmpL a b) (cmpP xs ys)=0 ↔ _
  rw [orI_zero,cmpL_zero,cmpP_zero];simp
theorem cmpP_swap:∀ (a b:List LaunchD),cmpP b a=-cmpP a b
 | [],[]=>rfl
 | [],_ :: _=>rfl
 | _ :: _,[]=>rfl
 | a :: xs,b :: ys=>by
  show orI (cmpL b a) (cmpP ys xs)=-orI (cmpL a b) (cmpP xs ys)
  rw [cmpL_swap a b,cmpP_swap xs ys,orI_neg]
end Go.Proofs.YtcnjenlojnognaaGreat
/- What is proved: what is found by halves: a number that passes, whose next one does not; the room of a launch is found so. Conditions: those that each lemma states. -/
namespace Go.Proofs.YtcnjenlojnognaaGreat
open Go.RowKit

theorem halves_spec (p:Int→Bool):∀ (n:Nat) (low high:Int),low<high→high - low≤n+1 →
  low≤halvesB p n low high∧halvesB p n low high<high∧(halvesB p n low high=low ∨ p (halvesB p n low high)=true)∧(halvesB p n low high+1=high ∨ p (halvesB p n low high+1)=false)
 | 0,low,high,h,hn=>⟨Int.le_refl _,h,Or.inl rfl,Or.inl (by show low+1=high;omega)⟩
 | n+1,low,high,h,hn=>by
  unfold halvesB
  by_cases h1:1<high - low
  ·rw [if_pos h1]
   cases hp:p ((low+high) / 2) with
   | true =>
    rw [if_pos rfl]
    obtain ⟨a,b,c,d⟩:=halves_spec p n ((low+high) / 2) high (by omega) (by omega)
    refine ⟨by omega,b,?_,d⟩
    rcases c with c | c
    ·rw [c];exact Or.inr hp
    ·exact Or.inr c
   | false =>
    rw [if_neg (by decide)]
    obtain ⟨a,b,c,d⟩:=halves_spec p n low ((low+high) / 2) (by omega) (by omega)
    refine ⟨a,by omega,c,?_⟩
    rcases d with d | d
    ·rw [d];exact Or.inr hp
    ·exact Or.inr d
  ·rw [if_neg h1]
   exact ⟨Int.le_refl _,h,Or.inl rfl,Or.inl (by omega)⟩
/-- Numbers up to s pass, and no others: by halves s is found. -/
theorem halves_eq (p:Int→Bool) (n:Nat) (low high s:Int) (h1:low≤s) (h2:s<high) (hn:high - low≤n+1) (hp:∀ x,low<x→x<high→(p x=true ↔ x≤s)):halvesB p n low high=s:=by
 obtain ⟨a,b,c,d⟩:=halves_spec p n low high (by omega) hn
 have h3:halvesB p n low high≤s:=by
  rcases c with c | c
  ·omega
  ·by_cases e:low<halvesB p n low high
   ·exact (hp _ e b).1 c
   ·omega
 have h4:s≤halvesB p n low high:=by
  rcases d with d | d
  ·omega
  ·by_cases e:halvesB p n low high+1<high
   ·have:=hp _ (by omega) e
    rw [d] at this
    have:¬ (halvesB p n low high+1≤s):=fun h=>by simpa using this.2 h
    omega
   ·omega
 omega
/-- The room of a launch, by a quotient and by halves. -/
theorem room_eq (m lift margin:Int) (hm:0≤margin) (hl:lift≤1073741824) (h0:0≤m) (h1:m≤lift * 1000 / (1000+margin)) :
  halvesB (fun d=>decide ((m+d) * (1000+margin)≤lift * 1000)) 1073741824 0 1073741825=lift * 1000 / (1000+margin) - m:=by
 have h2:lift * 1000 / (1000+margin)≤1073741824:=by
  have h3:lift * 1000 / (1000+margin)<1073741825:=Int.ediv_lt_of_lt_mul (by omega) (by
   have:1073741825 * 1000≤1073741825 * (1000+margin):=by omega
   omega)
  omega
 refine halves_eq _ _ _ _ _ (by omega) (by omega) (by omega) fun x hx0 _=>?_
 rw [decide_eq_true_eq,← most_iff _ _ _ hm]
 omega
end Go.Proofs.YtcnjenlojnognaaGreat
/- What is proved: a valid plan is launches that are possible, that fit one another, in their order. Conditions: the campaign is valid. -/
namespace Go.Proofs.YtcnjenlojnognaaGreat
open Go.RowKit

/-- What the walks need of a valid campaign. -/
theorem camp_craft {c:CampD} (h:campB c=true) (i:Int):0≤(c.craft i).again∧(c.craft i).again≤10000∧0≤(c.craft i).ready∧(c.craft i).ready≤10000∧0≤(c.craft i).lift∧(c.craft i).lift≤1073741824:=by
 unfold campB at h
 simp only [Bool.and_eq_true] at h
 have hc:=h.1.1.1.1.1.2
 unfold CampD.craft
 rw [List.getD_eq_getElem?_getD]
 cases e:c.crafts[i.toNat]? with
 | none=>simp [craft0]
 | some x =>
  have:=List.all_eq_true.1 hc x (List.mem_of_getElem? e)
  unfold craftB at this
  simp only [Bool.and_eq_true,inB_iff] at this
  simp only [Option.getD_some]
  omega
theorem camp_pad {c:CampD} (h:campB c=true) (i:Int):0≤(c.pad i).clean∧(c.pad i).clean≤10000:=by
 unfold campB at h
 simp only [Bool.and_eq_true] at h
 have hc:=h.1.1.1.1.2
 unfold CampD.pad
 rw [List.getD_eq_getElem?_getD]
 cases e:c.pads[i.toNat]? with
 | none=>simp [pad0]
 | some x =>
  have:=List.all_eq_true.1 hc x (List.mem_of_getElem? e)
  unfold padB at this
  simp only [Bool.and_eq_true,inB_iff] at this
  simp only [Option.getD_some]
  omega
theorem camp_cargo {c:CampD} (h:campB c=true) (i:Int):0≤(c.cargo i).mass∧(c.cargo i).mass≤1073741824∧0≤(c.cargo i).value∧(c.cargo i).value≤1073741824∧0≤(c.cargo i).frm∧(c.cargo i).frm≤(c.cargo i).to∧(c.cargo i).to≤10000:=by
 unfold campB at h
 simp only [Bool.and_eq_true] at h
 have hc:=h.1.1.1.2
 unfold CampD.cargo
 rw [List.getD_eq_getElem?_getD]
 cases e:c.cargos[i.toNat]? with
 | none=>simp [cargo0]
 | some x =>
  have:=List.all_eq_true.1 hc x (List.mem_of_getElem? e)
  unfold cargoB at this
  simp only [Bool.and_eq_true,inB_iff,decide_eq_true_eq] at this
  simp only [Option.getD_some]
  omega
theorem camp_len {c:CampD} (h:campB c=true):1≤c.crafts.length∧c.crafts.length≤3∧1≤c.pads.length∧c.pads.length≤2∧1≤c.cargos.length∧c.cargos.length≤6∧0≤c.margin∧c.margin≤1000:=by
 unfold campB at h
 simp only [Bool.and_eq_true,inB_iff] at h
 omega

/-- No cargo of x is one of y. -/
def apartL (y x:LaunchD):Prop:=∀ i ∈ x.cargos,i ∉ y.cargos
theorem apartL.symm {y x:LaunchD} (h:apartL y x):apartL x y:=fun i hi hx=>h i hx hi
/-- Two launches can be in one plan. -/
structure FitC (c:CampD) (y x:LaunchD):Prop where
 apart:apartL y x
 craft:y.craft=x.craft→(c.craft x.craft).again ≠ 0∧(y.day+(c.craft x.craft).again≤x.day ∨ x.day+(c.craft x.craft).again≤y.day)
 pad:y.pad=x.pad→y.day+(c.pad x.pad).clean≤x.day ∨ x.day+(c.pad x.pad).clean≤y.day
theorem FitC.symm {c:CampD} {y x:LaunchD} (h:FitC c y x):FitC c x y :=
 ⟨h.apart.symm,fun e=>by have:=h.craft e.symm;rw [e] at this;exact ⟨this.1,this.2.symm⟩,fun e=>by have:=h.pad e.symm;rw [e] at this;exact this.symm⟩
structure PlanOk (c:CampD) (l:List LaunchD):Prop where
 poss:∀ x ∈ l,possB c x=true
 fit:l.Pairwise (FitC c)
 sorted:l.Pairwise fun x y=>cmpL x y<0
theorem possB_parts {c:CampD} {x:LaunchD} (h:possB c x=true):0≤x.craft∧x.craft<c.crafts.length∧0≤x.pad∧x.pad<c.pads.length∧x.craft ∈ (c.pad x.pad).takes∧(c.craft x.craft).ready≤x.day∧x.day≤10000∧x.cargos ≠ []∧risingB x.cargos c.cargos.length=true∧(∀ i ∈ x.cargos,(c.cargo i).frm≤x.day∧x.day≤(c.cargo i).to)∧massL c x.cargos≤mostB c x.craft:=by
 unfold possB at h
 simp only [Bool.and_eq_true,inB_iff,decide_eq_true_eq,List.all_eq_true,Bool.not_eq_true',List.isEmpty_eq_false_iff,List.contains_iff_mem] at h
 obtain ⟨⟨⟨⟨⟨⟨⟨h1,h2⟩,h3⟩,h4⟩,h5⟩,h6⟩,h7⟩,h8⟩:=h
 exact ⟨h1.1,by omega,h2.1,by omega,h3,h4.1,h4.2,h5,h6,h7,h8⟩
theorem possB_of {c:CampD} {x:LaunchD} (h1:0≤x.craft) (h2:x.craft<c.crafts.length) (h3:0≤x.pad) (h4:x.pad<c.pads.length) (h5:x.craft ∈ (c.pad x.pad).takes) (h6:(c.craft x.craft).ready≤x.day) (h7:x.day≤10000) (h8:x.cargos ≠ []) (h9:risingB x.cargos c.cargos.length=true) (h10:∀ i ∈ x.cargos,(c.cargo i).frm≤x.day∧x.day≤(c.cargo i).to) (h11:massL c x.cargos≤mostB c x.craft):possB c x=true:=by
 unfold possB
 simp only [Bool.and_eq_true,inB_iff,decide_eq_true_eq,List.all_eq_true,Bool.not_eq_true',List.isEmpty_eq_false_iff,List.contains_iff_mem]
 exact ⟨⟨⟨⟨⟨⟨⟨⟨h1,by omega⟩,h3,by omega⟩,h5⟩,h6,h7⟩,h8⟩,h9⟩,h10⟩,h11⟩
theorem possB_day {c:CampD} (hc:campB c=true) {x:LaunchD} (h:possB c x=true):0≤x.day∧x.day≤10000:=by
 have h1:=possB_parts h
 have h2:=camp_craft hc x.craft
 exact ⟨by have:=h1.2.2.2.2.2.1;omega,h1.2.2.2.2.2.2.1⟩
theorem cmpL_day {x y:LaunchD} (h:cmpL x y<0):x.day≤y.day:=by
 unfold cmpL at h
 simp only [orI_lt,cmpI_lt,cmpI_zero] at h
 omega
theorem cmpL_irrefl (x:LaunchD):cmpL x x=0:=cmpL_zero.2 rfl
theorem getLast_getD (l:List LaunchD) (y:LaunchD):(l ++ [y]).getD ((l ++ [y]).length - 1) launch0=y:=by simp [List.getD_eq_getElem?_getD]
/-- faultB says OK just where these hold. -/
theorem faultB_zero {c:CampD} {l:List LaunchD} {x:LaunchD}:faultB c l x=0 ↔ possB c x=true∧(0<l.length→cmpL (l.getD (l.length - 1) launch0) x<0)∧(∀ y ∈ l,apartL y x) ∧
  (∀ y ∈ l,y.craft=x.craft→(c.craft x.craft).again ≠ 0∧y.day+(c.craft x.craft).again≤x.day)∧(∀ y ∈ l,y.pad=x.pad→y.day+(c.pad x.pad).clean≤x.day):=by
 have e1:(l.any fun y=>x.cargos.any fun i=>y.cargos.contains i)=false ↔ ∀ y ∈ l,apartL y x:=by
  rw [List.any_eq_false]
  constructor
  ·intro h y hy i hi hx
   have:=h y hy
   exact this (List.any_eq_true.2 ⟨i,hi,List.contains_iff_mem.2 hx⟩)
  ·intro h y hy hh
   obtain ⟨i,hi,hx⟩:=List.any_eq_true.1 hh
   exact h y hy i hi (List.contains_iff_mem.1 hx)
 have e2:(l.any fun y=>decide (y.craft=x.craft) && (decide ((c.craft x.craft).again=0) || decide (x.day<y.day+(c.craft x.craft).again)))=false ↔ ∀ y ∈ l,y.craft=x.craft→(c.craft x.craft).again ≠ 0∧y.day+(c.craft x.craft).again≤x.day:=by
  rw [List.any_eq_false]
  constructor
  ·intro h y hy e
   have:=h y hy
   rw [Bool.and_eq_true,Bool.or_eq_true,decide_eq_true_eq,decide_eq_true_eq,decide_eq_true_eq] at this
   exact ⟨fun h0=>this ⟨e,Or.inl h0⟩,by
    by_cases hh:x.day<y.day+(c.craft x.craft).again
    ·exact absurd ⟨e,Or.inr hh⟩ this
    ·omega⟩
  ·intro h y hy hh
   rw [Bool.and_eq_true,Bool.or_eq_true,decide_eq_true_eq,decide_eq_true_eq,decide_eq_true_eq] at hh
   have:=h y hy hh.1
   rcases hh.2 with h0 | h0
   ·exact this.1 h0
   ·omega
 have e3:(l.any fun y=>decide (y.pad=x.pad) && decide (x.day<y.day+(c.pad x.pad).clean))=false ↔ ∀ y ∈ l,y.pad=x.pad→y.day+(c.pad x.pad).clean≤x.day:=by
  rw [List.any_eq_false]
  constructor
  ·intro h y hy e
   have:=h y hy
   rw [Bool.and_eq_true,decide_eq_true_eq,decide_eq_true_eq] at this
   by_cases hh:x.day<y.day+(c.pad x.pad).clean
   ·exact absurd ⟨e,hh⟩ this
   ·omega
  ·intro h y hy hh
   rw [Bool.and_eq_true,decide_eq_true_eq,decide_eq_true_eq] at hh
   have:=h y hy hh.1
   omega
 rw [← e1,← e2,← e3]
 unfold faultB
 constructor
 ·intro h
  split at h
  ·exact absurd h (by decide)
  ·split at h
   ·exact absurd h (by decide)
   ·split at h
    ·exact absurd h (by decide)
    ·split at h
     ·exact absurd h (by decide)
     ·split at h
      ·exact absurd h (by decide)
      ·refine ⟨by simpa using ‹¬ possB c x=false›,fun hl=>?_,by simpa using ‹¬ (l.any fun y=>x.cargos.any fun i=>y.cargos.contains i)=true›,?_,?_⟩
       ·have:=‹¬ (0<l.length∧_)›
        exact Int.not_le.1 fun hh=>this ⟨hl,hh⟩
       ·exact Bool.eq_false_iff.2 ‹¬ (l.any fun y=>decide (y.craft=x.craft) && _)=true›
       ·exact Bool.eq_false_iff.2 ‹¬ (l.any fun y=>decide (y.pad=x.pad) && _)=true›
 ·rintro ⟨h1,h2,h3,h4,h5⟩
  rw [if_neg (by rw [h1];decide),if_neg (fun h=>by have:=h2 h.1;omega),if_neg (by rw [h3];decide),if_neg (by rw [h4];decide),if_neg (by rw [h5];decide)]
/-- One more launch. -/
theorem PlanOk.snoc {c:CampD} (hc:campB c=true) {l:List LaunchD} {x:LaunchD} (h:PlanOk c l):faultB c l x=0 ↔ PlanOk c (l ++ [x]):=by
 rw [faultB_zero]
 constructor
 ·rintro ⟨h1,h2,h3,h4,h5⟩
  refine ⟨fun y hy=>?_,List.pairwise_append.2 ⟨h.fit,by simp,fun y hy z hz=>?_⟩,List.pairwise_append.2 ⟨h.sorted,by simp,fun y hy z hz=>?_⟩⟩
  ·rcases List.mem_append.1 hy with hy | hy
   ·exact h.poss y hy
   ·rw [List.mem_singleton.1 hy];exact h1
  ·rw [List.mem_singleton.1 hz]
   exact ⟨h3 y hy,fun e=>⟨(h4 y hy e).1,Or.inl (h4 y hy e).2⟩,fun e=>Or.inl (h5 y hy e)⟩
  ·rw [List.mem_singleton.1 hz]
   have hl:0<l.length:=List.length_pos_of_mem hy
   have h6:=h2 hl
   rcases List.eq_nil_or_concat l with e | ⟨m,u,e⟩
   ·rw [e] at hy;cases hy
   ·rw [e,List.concat_eq_append] at hy h6
    rw [getLast_getD] at h6
    rcases List.mem_append.1 hy with hm | hm
    ·have hs:=h.sorted
     rw [e,List.concat_eq_append] at hs
     exact cmpL_trans ((List.pairwise_append.1 hs).2.2 y hm u (by simp)) h6
    ·rw [List.mem_singleton.1 hm];exact h6
 ·intro hk
  have hf:=(List.pairwise_append.1 hk.fit).2.2
  have hs:=(List.pairwise_append.1 hk.sorted).2.2
  refine ⟨hk.poss x (by simp),fun hl=>?_,fun y hy=>(hf y hy x (by simp)).apart,fun y hy e=>?_,fun y hy e=>?_⟩
  ·rcases List.eq_nil_or_concat l with e | ⟨m,u,e⟩
   ·rw [e] at hl;exact absurd hl (by simp)
   ·rw [e,List.concat_eq_append] at hs ⊢
    rw [getLast_getD]
    exact hs u (by simp) x (by simp)
  ·have h1:=(hf y hy x (by simp)).craft e
   have h2:=cmpL_day (hs y hy x (by simp))
   have h3:=camp_craft hc x.craft
   exact ⟨h1.1,by omega⟩
  ·have h1:=(hf y hy x (by simp)).pad e
   have h2:=cmpL_day (hs y hy x (by simp))
   have h3:=camp_pad hc x.pad
   omega
theorem PlanOk.nil (c:CampD):PlanOk c []:=⟨fun _ h=>(List.not_mem_nil h).elim,List.Pairwise.nil,List.Pairwise.nil⟩
theorem PlanOk.left {c:CampD} {l m:List LaunchD} (h:PlanOk c (l ++ m)):PlanOk c l :=
 ⟨fun x hx=>h.poss x (List.mem_append_left _ hx),(List.pairwise_append.1 h.fit).1,(List.pairwise_append.1 h.sorted).1⟩
theorem planFrom_zero (c:CampD) (l:List LaunchD):∀ (n k:Nat),(planFrom c l k n).2=0 ↔ ∀ j,k≤j→j<k+n→faultB c (l.take j) (l.getD j launch0)=0
 | 0,k=>by simp [planFrom];intro j h1 h2;omega
 | n+1,k=>by
  unfold planFrom
  by_cases h:faultB c (l.take k) (l.getD k launch0)=0
  ·rw [if_pos h,planFrom_zero c l n (k+1)]
   constructor
   ·intro hh j h1 h2
    by_cases e:j=k
    ·subst e;exact h
    ·exact hh j (by omega) (by omega)
   ·intro hh j h1 h2;exact hh j (by omega) (by omega)
  ·rw [if_neg h]
   constructor
   ·intro hh;exact absurd hh h
   ·intro hh;exact absurd (hh k (Nat.le_refl _) (by omega)) h
theorem take_snocL (l:List LaunchD) (k:Nat) (h:k<l.length):l.take (k+1)=l.take k ++ [l.getD k launch0]:=by
 rw [List.take_succ_eq_append_getElem h,List.getD_eq_getElem?_getD,List.getElem?_eq_getElem h];rfl
theorem planOk_take {c:CampD} (hc:campB c=true) (l:List LaunchD):∀ k,k≤l.length→((∀ j,j<k→faultB c (l.take j) (l.getD j launch0)=0) ↔ PlanOk c (l.take k))
 | 0,_=>by simp [PlanOk.nil]
 | k+1,hk=>by
  have ih:=planOk_take hc l k (by omega)
  rw [take_snocL l k (by omega)]
  constructor
  ·intro h
   have h1:=ih.1 fun j hj=>h j (by omega)
   exact (PlanOk.snoc hc h1).1 (h k (by omega))
  ·intro h
   have h1:=h.left
   have h2:=(PlanOk.snoc hc h1).2 h
   intro j hj
   by_cases e:j=k
   ·subst e;exact h2
   ·exact ih.2 h1 j (by omega)
theorem valid_iff {c:CampD} {l:List LaunchD}:validB c l=true ↔ campB c=true∧PlanOk c l:=by
 unfold validB planB
 rw [decide_eq_true_eq]
 by_cases hc:campB c=true
 ·rw [if_neg (by rw [hc];decide),planFrom_zero]
  have h:=planOk_take hc l l.length (Nat.le_refl _)
  rw [List.take_length] at h
  constructor
  ·intro hh;exact ⟨hc,h.1 fun j hj=>hh j (Nat.zero_le _) (by omega)⟩
  ·rintro ⟨_,hh⟩ j _ hj;exact h.2 hh j (by omega)
 ·rw [if_pos (by simpa using hc)]
  simp [hc]
end Go.Proofs.YtcnjenlojnognaaGreat
/- What is proved: for each valid plan there is a valid one with each launch as soon as it can be, of the same cargos, that does not come behind it. Conditions: the campaign is valid. -/
namespace Go.Proofs.YtcnjenlojnognaaGreat
open Go.RowKit

/-- The first day on which a launch can follow a plan. -/
def froms (c:CampD) (d:Int) (l:List Int):Int:=l.foldl (fun d n=>max d (c.cargo n).frm) d
def soonS (c:CampD) (x:LaunchD) (d:Int) (y:LaunchD):Int :=
 (fun d=>if y.pad=x.pad then max d (y.day+(c.pad x.pad).clean) else d) ((fun d=>if y.craft=x.craft then max d (y.day+(c.craft x.craft).again) else d) (max d y.day))
def soonP (c:CampD) (l:List LaunchD) (x:LaunchD):Int:=l.foldl (soonS c x) (froms c (c.craft x.craft).ready x.cargos)
theorem froms_le (c:CampD) (m:Int):∀ (l:List Int) (d:Int),froms c d l≤m ↔ d≤m∧∀ n ∈ l,(c.cargo n).frm≤m
 | [],d=>by simp [froms]
 | n :: l,d=>by
  show froms c (max d (c.cargo n).frm) l≤m ↔ _
  rw [froms_le c m l]
  constructor
  ·rintro ⟨h1,h2⟩
   refine ⟨by omega,fun k hk=>?_⟩
   rcases List.mem_cons.1 hk with e | e
   ·subst e;omega
   ·exact h2 k e
  ·rintro ⟨h1,h2⟩
   have:=h2 n (by simp)
   exact ⟨by omega,fun k hk=>h2 k (List.mem_cons_of_mem _ hk)⟩
theorem soonS_le (c:CampD) (x:LaunchD) (m d:Int) (y:LaunchD):soonS c x d y≤m ↔ d≤m∧y.day≤m∧(y.craft=x.craft→y.day+(c.craft x.craft).again≤m)∧(y.pad=x.pad→y.day+(c.pad x.pad).clean≤m):=by
 have e1:∀ (p:Prop) [Decidable p] (d v m:Int),(if p then max d v else d)≤m ↔ d≤m∧(p→v≤m):=by
  intro p _ d v m
  by_cases h:p
  ·rw [if_pos h];simp only [h,true_implies];omega
  ·rw [if_neg h];simp only [h,false_implies,and_true]
 unfold soonS
 dsimp only
 rw [e1,e1,Int.max_le,and_assoc,and_assoc]
theorem soonF_le (c:CampD) (x:LaunchD) (m:Int):∀ (l:List LaunchD) (d:Int),l.foldl (soonS c x) d≤m ↔ d≤m∧∀ y ∈ l,y.day≤m∧(y.craft=x.craft→y.day+(c.craft x.craft).again≤m)∧(y.pad=x.pad→y.day+(c.pad x.pad).clean≤m)
 | [],d=>by simp
 | y :: l,d=>by
  rw [List.foldl_cons,soonF_le c x m l,soonS_le]
  constructor
  ·rintro ⟨⟨h1,h2⟩,h3⟩
   refine ⟨h1,fun z hz=>?_⟩
   rcases List.mem_cons.1 hz with e | e
   ·subst e;exact h2
   ·exact h3 z e
  ·rintro ⟨h1,h2⟩
   exact ⟨⟨h1,h2 y (by simp)⟩,fun z hz=>h2 z (List.mem_cons_of_mem _ hz)⟩
theorem soonP_le (c:CampD) (l:List LaunchD) (x:LaunchD) (m:Int):soonP c l x≤m ↔ ((c.craft x.craft).ready≤m∧∀ n ∈ x.cargos,(c.cargo n).frm≤m)∧∀ y ∈ l,y.day≤m∧(y.craft=x.craft→y.day+(c.craft x.craft).again≤m)∧(y.pad=x.pad→y.day+(c.pad x.pad).clean≤m):=by
 unfold soonP
 rw [soonF_le,froms_le]
/-- Each launch is as soon as it can be. -/
def SoonOk (c:CampD) (l:List LaunchD):Prop:=∀ k,k<l.length→(l.getD k launch0).day=soonP c (l.take k) (l.getD k launch0)
theorem putL_less {x' x:LaunchD} (h:cmpL x' x<0):∀ (A B:List LaunchD),(A ++ x :: B).Pairwise (fun x y=>cmpL x y<0)→x' ∉ A→cmpP (putL x' (A ++ B)) (A ++ x :: B)<0
 | [],[],_,_=>by show orI (cmpL x' x) 0<0;rw [orI_lt];exact Or.inl h
 | [],b :: B,hs,_=>by
  have hb:cmpL x b<0:=(List.pairwise_cons.1 hs).1 b (by simp)
  have hb':=cmpL_trans h hb
  have hn:¬ cmpL b x'<0:=by rw [cmpL_swap x' b];omega
  show cmpP (putL x' (b :: B)) (x :: b :: B)<0
  unfold putL
  rw [if_neg hn]
  show orI (cmpL x' x) _<0
  rw [orI_lt];exact Or.inl h
 | a :: A,B,hs,hm=>by
  show cmpP (putL x' (a :: (A ++ B))) (a :: (A ++ x :: B))<0
  unfold putL
  by_cases h1:cmpL a x'<0
  ·rw [if_pos h1]
   show orI (cmpL a a) (cmpP (putL x' (A ++ B)) (A ++ x :: B))<0
   rw [orI_lt]
   exact Or.inr ⟨cmpL_irrefl a,putL_less h A B (List.pairwise_cons.1 hs).2 (fun hh=>hm (List.mem_cons_of_mem _ hh))⟩
  ·rw [if_neg h1]
   show orI (cmpL x' a) _<0
   rw [orI_lt]
   refine Or.inl ?_
   have h2:=cmpL_swap x' a
   have h3:cmpL x' a ≠ 0:=fun e=>hm (by rw [cmpL_zero.1 e];simp)
   omega
theorem apart_ne {y x:LaunchD} (h:apartL y x) (hn:x.cargos ≠ []):y ≠ x:=by
 rintro rfl
 obtain ⟨i,l,e⟩:=List.exists_cons_of_ne_nil hn
 exact h i (by rw [e];simp) (by rw [e];simp)
theorem sorted_strict {c:CampD} {l:List LaunchD} (hs:SortedL l) (hf:l.Pairwise (FitC c)) (hn:∀ x ∈ l,x.cargos ≠ []):l.Pairwise fun x y=>cmpL x y<0:=by
 induction l with
 | nil=>exact List.Pairwise.nil
 | cons a l ih =>
  obtain ⟨s1,s2⟩:=List.pairwise_cons.1 hs
  obtain ⟨f1,f2⟩:=List.pairwise_cons.1 hf
  refine List.pairwise_cons.2 ⟨fun y hy=>?_,ih s2 f2 fun x hx=>hn x (List.mem_cons_of_mem _ hx)⟩
  have h1:=s1 y hy
  have h2:cmpL a y ≠ 0:=fun e=>apart_ne (f1 y hy).apart (hn y (List.mem_cons_of_mem _ hy)) (cmpL_zero.1 e)
  omega
/-- The launches of a valid plan, in whatever order they come: sorted they are a valid plan. -/
theorem planOk_sort {c:CampD} {l:List LaunchD} (h1:∀ x ∈ l,possB c x=true) (h2:l.Pairwise (FitC c)):PlanOk c (sortL l):=by
 have hp:=sortL_perm l
 have hf:(sortL l).Pairwise (FitC c):=(hp.pairwise_iff (fun h=>FitC.symm h)).2 h2
 have hq:∀ x ∈ sortL l,possB c x=true:=fun x hx=>h1 x (hp.mem_iff.1 hx)
 exact ⟨hq,hf,sorted_strict (sortL_sorted l) hf fun x hx=>(possB_parts (hq x hx)).2.2.2.2.2.2.2.1⟩
def daysN (l:List LaunchD):Nat:=(l.map fun x=>x.day.toNat).sum
theorem planOk_soon_le {c:CampD} (hc:campB c=true) {A B:List LaunchD} {x:LaunchD} (h:PlanOk c (A ++ x :: B)):soonP c A x≤x.day:=by
 have hl:PlanOk c (A ++ [x]):=by
  have:A ++ x :: B=(A ++ [x]) ++ B:=by simp
  rw [this] at h;exact h.left
 have hz:=(PlanOk.snoc hc hl.left).2 hl
 obtain ⟨h1,_,_,h4,h5⟩:=faultB_zero.1 hz
 have hp:=possB_parts h1
 rw [soonP_le]
 refine ⟨⟨hp.2.2.2.2.2.1,fun n hn=>(hp.2.2.2.2.2.2.2.2.2.1 n hn).1⟩,fun y hy=>⟨?_,fun e=>(h4 y hy e).2,h5 y hy⟩⟩
 exact cmpL_day ((List.pairwise_append.1 hl.sorted).2.2 y hy x (by simp))
/-- One launch moved to its first day. -/
theorem moved_ok {c:CampD} (hc:campB c=true) {A B:List LaunchD} {x:LaunchD} (h:PlanOk c (A ++ x :: B)) (hd:soonP c A x<x.day) :
  PlanOk c (putL { x with day:=soonP c A x } (A ++ B))∧cmpP (putL { x with day:=soonP c A x } (A ++ B)) (A ++ x :: B)<0∧daysN (putL { x with day:=soonP c A x } (A ++ B))<daysN (A ++ x :: B):=by
 obtain ⟨d,hD⟩:∃ d,soonP c A x=d:=⟨_,rfl⟩
 have hle:=(soonP_le c A x d).1 (by omega)
 rw [hD] at hd ⊢
 have hpx:=possB_parts (h.poss x (by simp))
 have hday:=possB_day hc (h.poss x (by simp))
 have hr:=camp_craft hc x.craft
 have h0:0≤d:=by have:=hle.1.1;omega
 have hposs:possB c { x with day:=d }=true:=possB_of hpx.1 hpx.2.1 hpx.2.2.1 hpx.2.2.2.1 hpx.2.2.2.2.1 hle.1.1 (by omega:d≤10000) hpx.2.2.2.2.2.2.2.1 hpx.2.2.2.2.2.2.2.2.1
  (fun i hi=>⟨hle.1.2 i hi,by have:=(hpx.2.2.2.2.2.2.2.2.2.1 i hi).2;show d≤_;omega⟩) hpx.2.2.2.2.2.2.2.2.2.2
 have hsub:(A ++ B).Sublist (A ++ x :: B):=List.Sublist.append (List.Sublist.refl A) (List.sublist_cons_self x B)
 have hsAB:(A ++ B).Pairwise fun x y=>cmpL x y<0:=h.sorted.sublist hsub
 have hfAB:(A ++ B).Pairwise (FitC c):=h.fit.sublist hsub
 obtain ⟨fA,fxB,fAxB⟩:=List.pairwise_append.1 h.fit
 have hfit:∀ z ∈ A ++ B,FitC c { x with day:=d } z:=by
  intro z hz
  rcases List.mem_append.1 hz with hz | hz
  ·have f:=fAxB z hz x (by simp)
   have hy:=hle.2 z hz
   exact FitC.symm ⟨f.apart,fun e=>⟨(f.craft e).1,Or.inl (hy.2.1 e)⟩,fun e=>Or.inl (hy.2.2 e)⟩
  ·have f:=(List.pairwise_cons.1 fxB).1 z hz
   have hxz:=cmpL_day ((List.pairwise_cons.1 (List.pairwise_append.1 h.sorted).2.1).1 z hz)
   have ha:=camp_craft hc z.craft
   have hcl:=camp_pad hc z.pad
   exact ⟨f.apart,fun e=>by
    have g:=f.craft e
    refine ⟨g.1,Or.inl ?_⟩
    show d+_≤z.day
    omega,fun e=>by
    have g:=f.pad e
    refine Or.inl ?_
    show d+_≤z.day
    omega⟩
 have hlt:cmpL { x with day:=d } x<0:=by
  unfold cmpL
  rw [orI_lt]
  exact Or.inl (cmpI_lt.2 hd)
 have hnA:({ x with day:=d }:LaunchD) ∉ A:=fun hh=>apart_ne (fAxB _ hh x (by simp)).apart hpx.2.2.2.2.2.2.2.1 (by
  exfalso
  exact apart_ne (hfit _ (List.mem_append_left _ hh)).apart hpx.2.2.2.2.2.2.2.1 rfl)
 have hperm:=putL_perm { x with day:=d } (A ++ B)
 have hfP:(putL { x with day:=d } (A ++ B)).Pairwise (FitC c):=(hperm.pairwise_iff (fun h=>FitC.symm h)).2 (List.pairwise_cons.2 ⟨hfit,hfAB⟩)
 have hqP:∀ z ∈ putL { x with day:=d } (A ++ B),possB c z=true:=by
  intro z hz
  rcases List.mem_cons.1 (hperm.mem_iff.1 hz) with e | e
  ·rw [e];exact hposs
  ·exact h.poss z (hsub.subset e)
 have hsP:SortedL (putL { x with day:=d } (A ++ B)):=putL_sorted (hsAB.imp fun h=>by omega)
 refine ⟨⟨hqP,hfP,sorted_strict hsP hfP fun z hz=>(possB_parts (hqP z hz)).2.2.2.2.2.2.2.1⟩,putL_less hlt A B h.sorted hnA,?_⟩
 unfold daysN
 rw [(hperm.map fun z=>z.day.toNat).sum_nat]
 simp only [List.map_cons,List.sum_cons,List.map_append,List.sum_append]
 omega
theorem cmpP_lt_trans:∀ {a b d:List LaunchD},cmpP a b<0→cmpP b d<0→cmpP a d<0
 | [],[],_,h,_=>absurd h (by decide)
 | [],_ :: _,[],_,h=>by simp [cmpP] at h
 | [],_ :: _,_ :: _,_,_=>by simp [cmpP]
 | _ :: _,[],_,h,_=>by simp [cmpP] at h
 | _ :: _,_ :: _,[],_,h=>by simp [cmpP] at h
 | a :: xs,b :: ys,d :: zs,h1,h2=>by
  unfold cmpP at h1 h2 ⊢
  rw [orI_lt] at h1 h2 ⊢
  rcases h1 with h1 | ⟨h1,h1'⟩
  ·rcases h2 with h2 | ⟨h2,_⟩
   ·exact Or.inl (cmpL_trans h1 h2)
   ·rw [← cmpL_zero.1 h2];exact Or.inl h1
  ·rw [cmpL_zero.1 h1]
   rcases h2 with h2 | ⟨h2,h2'⟩
   ·exact Or.inl h2
   ·exact Or.inr ⟨h2,cmpP_lt_trans h1' h2'⟩
theorem cmpP_le_trans {a b d:List LaunchD} (h1:cmpP a b≤0) (h2:cmpP b d≤0):cmpP a d≤0:=by
 by_cases e1:cmpP a b=0
 ·rw [cmpP_zero.1 e1];exact h2
 ·by_cases e2:cmpP b d=0
  ·rw [← cmpP_zero.1 e2];exact h1
  ·have:=cmpP_lt_trans (a:=a) (b:=b) (d:=d) (by omega) (by omega);omega
theorem split_at (l:List LaunchD) (k:Nat) (h:k<l.length):l=l.take k ++ l.getD k launch0 :: l.drop (k+1):=by
 conv=>lhs;rw [← List.take_append_drop k l]
 rw [List.getD_eq_getElem?_getD,List.getElem?_eq_getElem h,Option.getD_some,← List.drop_eq_getElem_cons h]
/-- THE KEY LAW. -/
theorem greedy {c:CampD} (hc:campB c=true):∀ (n:Nat) (P:List LaunchD),daysN P≤n→PlanOk c P→∃ Q,PlanOk c Q∧SoonOk c Q∧(Q.map (·.cargos)).Perm (P.map (·.cargos))∧cmpP Q P≤0:=by
 intro n
 induction n with
 | zero =>
  intro P hn hP
  refine ⟨P,hP,fun k hk=>?_,List.Perm.refl _,by rw [cmpP_zero.2 rfl];decide⟩
  have e:=split_at P k hk
  have hP2:=hP
  rw [e] at hP2
  have h1:=planOk_soon_le hc hP2
  by_cases h2:soonP c (P.take k) (P.getD k launch0)<(P.getD k launch0).day
  ·have h3:=(moved_ok hc hP2 h2).2.2
   rw [← e] at h3;omega
  ·omega
 | succ n ih =>
  intro P hn hP
  by_cases hs:SoonOk c P
  ·exact ⟨P,hP,hs,List.Perm.refl _,by rw [cmpP_zero.2 rfl];decide⟩
  ·obtain ⟨k,hk,hne⟩:∃ k,k<P.length∧(P.getD k launch0).day ≠ soonP c (P.take k) (P.getD k launch0):=by
    apply Classical.byContradiction
    intro hh
    exact hs fun k hk=>Classical.byContradiction fun h=>hh ⟨k,hk,h⟩
   have e:=split_at P k hk
   have hP2:=hP
   rw [e] at hP2
   have h1:=planOk_soon_le hc hP2
   obtain ⟨m1,m2,m3⟩:=moved_ok hc hP2 (by omega)
   rw [← e] at m2 m3
   obtain ⟨Q,q1,q2,q3,q4⟩:=ih _ (by omega) m1
   refine ⟨Q,q1,q2,q3.trans ?_,cmpP_le_trans q4 (by omega)⟩
   have hp:=(putL_perm { (P.getD k launch0) with day:=soonP c (P.take k) (P.getD k launch0) } (P.take k ++ P.drop (k+1))).map (·.cargos)
   refine hp.trans ?_
   conv=>rhs;rw [e]
   simp only [List.map_cons,List.map_append]
   exact List.perm_middle.symm
end Go.Proofs.YtcnjenlojnognaaGreat
/- What is proved: the search for the first plan of a set finds the least of all plans in which each launch is as soon as it can be. Conditions: the campaign is valid. -/
namespace Go.Proofs.YtcnjenlojnognaaGreat
open Go.RowKit

theorem bitsL_mem {s:Nat} {i:Int}:i ∈ bitsL s ↔ 0≤i∧i<6∧s.testBit i.toNat=true:=by
 unfold bitsL
 rw [List.mem_map]
 constructor
 ·rintro ⟨k,hk,rfl⟩
  rw [List.mem_filter,List.mem_range] at hk
  exact ⟨by simp,by show (k:Int)<6;omega,by simpa using hk.2⟩
 ·rintro ⟨h0,h1,h2⟩
  exact ⟨i.toNat,List.mem_filter.2 ⟨List.mem_range.2 (by omega),h2⟩,by show ((i.toNat:Nat):Int)=i;omega⟩
theorem bitsL_rise (s:Nat):(bitsL s).Pairwise (·<·):=by
 unfold bitsL
 rw [List.pairwise_map]
 refine (List.pairwise_lt_range.filter _).imp fun {a b} h=>?_
 show (a:Int)<b
 omega
theorem risingB_pair {l:List Int} {n:Int}:risingB l n=true ↔ l.Pairwise (·<·)∧∀ i ∈ l,0≤i∧i<n:=by
 rw [← riseL_rising]
 have key:∀ (l:List Int) (last:Int),riseL n last l=true ↔ l.Pairwise (·<·)∧∀ i ∈ l,last<i∧i<n:=by
  intro l
  induction l with
  | nil=>intro last;simp [riseL]
  | cons a l ih =>
   intro last
   unfold riseL
   rw [Bool.and_eq_true,Bool.and_eq_true,decide_eq_true_eq,decide_eq_true_eq,ih,List.pairwise_cons]
   constructor
   ·rintro ⟨⟨h1,h2⟩,h3,h4⟩
    refine ⟨⟨fun b hb=>(h4 b hb).1,h3⟩,fun i hi=>?_⟩
    rcases List.mem_cons.1 hi with e | e
    ·subst e;exact ⟨h1,h2⟩
    ·have:=h4 i e;exact ⟨by omega,this.2⟩
   ·rintro ⟨⟨h1,h2⟩,h3⟩
    have h4:=h3 a (by simp)
    exact ⟨⟨h4.1,h4.2⟩,h2,fun i hi=>⟨h1 i hi,(h3 i (List.mem_cons_of_mem _ hi)).2⟩⟩
 rw [key]
 constructor
 ·rintro ⟨h1,h2⟩;exact ⟨h1,fun i hi=>by have:=h2 i hi;omega⟩
 ·rintro ⟨h1,h2⟩;exact ⟨h1,fun i hi=>by have:=h2 i hi;omega⟩
/-- The bits of a list. -/
def maskL (l:List Int):Nat:=(List.range 6).foldl (fun (m i:Nat)=>if (i:Int) ∈ l then m ||| (1 <<< i) else m) 0
theorem maskF_bit (P:Nat→Prop) [DecidablePred P] (j:Nat):∀ (n m:Nat),((List.range n).foldl (fun (m i:Nat)=>if P i then m ||| (1 <<< i) else m) m).testBit j=(m.testBit j || (decide (j<n) && decide (P j)))
 | 0,m=>by simp
 | n+1,m=>by
  rw [List.range_succ,List.foldl_append]
  simp only [List.foldl_cons,List.foldl_nil]
  have ih:=maskF_bit P j n m
  by_cases h:P n
  ·rw [if_pos h,Nat.testBit_or,ih,Nat.one_shiftLeft,Nat.testBit_two_pow]
   by_cases e:n=j
   ·subst e;simp [h]
   ·have h1:decide (j<n+1)=decide (j<n):=by rw [Bool.eq_iff_iff];simp;omega
    rw [decide_eq_false e,Bool.or_false,h1]
  ·rw [if_neg h,ih]
   by_cases e:n=j
   ·subst e;simp [h]
   ·have h1:decide (j<n+1)=decide (j<n):=by rw [Bool.eq_iff_iff];simp;omega
    rw [h1]
theorem maskL_bit (l:List Int) (j:Nat):(maskL l).testBit j=(decide (j<6) && decide ((j:Int) ∈ l)):=by
 unfold maskL
 rw [maskF_bit (fun i=>(i:Int) ∈ l)]
 simp
theorem rise_bits {l:List Int} (h:l.Pairwise (·<·)) (hb:∀ i ∈ l,0≤i∧i<6):bitsL (maskL l)=l:=by
 refine rise_unique (bitsL_rise _) h fun z=>?_
 rw [bitsL_mem,maskL_bit,Bool.and_eq_true,decide_eq_true_eq,decide_eq_true_eq]
 constructor
 ·rintro ⟨h0,h1,h2,h3⟩
  rwa [show ((z.toNat:Nat):Int)=z from by omega] at h3
 ·intro hz
  have:=hb z hz
  exact ⟨this.1,this.2,by omega,by rwa [show ((z.toNat:Nat):Int)=z from by omega]⟩
theorem nat_bits_eq {a b:Nat} (h:∀ i,a.testBit i=b.testBit i):a=b:=Nat.eq_of_testBit_eq h
theorem lt64_bit {s i:Nat} (h:s<64) (hi:6≤i):s.testBit i=false:=Nat.testBit_lt_two_pow (Nat.lt_of_lt_of_le h (by have:=Nat.pow_le_pow_right (n:=2) (by decide) hi;simpa using this))
theorem bit_lt64 {s:Nat} (h:∀ i,6≤i→s.testBit i=false):s<64:=by
 have:=Nat.lt_pow_two_of_testBit (n:=6) s (fun i hi=>h i hi)
 simpa using this
theorem maskL_lt (l:List Int):maskL l<64:=bit_lt64 fun i hi=>by rw [maskL_bit,decide_eq_false (by omega),Bool.false_and]
theorem maskL_bits {s:Nat} (h:s<64):maskL (bitsL s)=s:=nat_bits_eq fun i=>by
 rw [maskL_bit]
 by_cases hi:i<6
 ·rw [decide_eq_true hi,Bool.true_and,Bool.eq_iff_iff,decide_eq_true_eq,bitsL_mem]
  simp only [Int.toNat_natCast]
  constructor
  ·exact fun h=>h.2.2
  ·exact fun h=>⟨by omega,by omega,h⟩
 ·rw [lt64_bit h (by omega),decide_eq_false hi,Bool.false_and]
theorem and_sub {p s:Nat}:p &&& s=p ↔ ∀ i,p.testBit i=true→s.testBit i=true:=by
 constructor
 ·intro h i hi
  rw [← h,Nat.testBit_and,Bool.and_eq_true] at hi
  exact hi.2
 ·intro h
  refine nat_bits_eq fun i=>?_
  rw [Nat.testBit_and]
  cases e:p.testBit i with
  | false=>rfl
  | true=>rw [h i e];rfl
theorem partsS_mem {s p:Nat}:p ∈ partsS s ↔ p<64∧p ≠ 0∧∀ i,p.testBit i=true→s.testBit i=true:=by
 unfold partsS
 rw [List.mem_filter,List.mem_range,Bool.and_eq_true,decide_eq_true_eq,decide_eq_true_eq,and_sub]
theorem bitsL_nil {s:Nat} (h:s<64):bitsL s=[] ↔ s=0:=by
 constructor
 ·intro e;rw [← maskL_bits h,e];rfl
 ·intro e;subst e;rfl
theorem restS_bit (l:List Int) (hl:∀ i ∈ l,0≤i∧i<6):∀ (s:Nat) (j:Nat),j<6→(restS s l).testBit j=(s.testBit j && !decide ((j:Int) ∈ l)):=by
 induction l with
 | nil=>intro s j _;simp [restS]
 | cons a l ih =>
  intro s j hj
  have ha:=hl a (by simp)
  show (restS (s &&& (63 ^^^ (1 <<< a.toNat))) l).testBit j=_
  rw [ih (fun i hi=>hl i (List.mem_cons_of_mem _ hi)) _ j hj,Nat.testBit_and,Nat.testBit_xor,Nat.one_shiftLeft,Nat.testBit_two_pow]
  have h63:(63:Nat).testBit j=true:=by
   match j,hj with
   | 0,_=>rfl
   | 1,_=>rfl
   | 2,_=>rfl
   | 3,_=>rfl
   | 4,_=>rfl
   | 5,_=>rfl
  rw [h63]
  by_cases e:a.toNat=j
  ·have:((j:Nat):Int)=a:=by omega
   rw [decide_eq_true e,this];simp
  ·have:¬ ((j:Nat):Int)=a:=by omega
   rw [decide_eq_false e]
   simp [this]
theorem restS_lt (l:List Int):∀ (s:Nat),s<64→restS s l<64:=by
 induction l with
 | nil=>intro s h;exact h
 | cons a l ih =>
  intro s h
  exact ih _ (Nat.lt_of_le_of_lt Nat.and_le_left h)
/-- A list of launches launches just a set. -/
def covS (s:Nat) (L:List LaunchD):Prop:=∀ i:Nat,i<6→(s.testBit i=true ↔ ∃ x ∈ L,(i:Int) ∈ x.cargos)
/-- What goes on from a plan, each launch as soon as it can be, and launches just a set. -/
structure ExtS (c:CampD) (A:List LaunchD) (s:Nat) (L:List LaunchD):Prop where
 plan:PlanOk c (A ++ L)
 soon:SoonOk c (A ++ L)
 cov:covS s L
/-- What is free behind a plan. -/
def freeOf (c:CampD) (A:List LaunchD):FreeD:=A.foldl (behindB c) free0
def lastOf (A:List LaunchD):LaunchD:=A.getLastD ⟨-1,0,0,[]⟩
theorem freeOf_snoc (c:CampD) (A:List LaunchD) (x:LaunchD):freeOf c (A ++ [x])=behindB c (freeOf c A) x:=by unfold freeOf;rw [List.foldl_append];rfl
theorem lastOf_snoc (A:List LaunchD) (x:LaunchD):lastOf (A ++ [x])=x:=by unfold lastOf;simp
theorem snoc_ind {P:List LaunchD→Prop} (h0:P []) (h1:∀ A x,P A→P (A ++ [x])) (A:List LaunchD):P A:=by
 have:∀ n (A:List LaunchD),A.length=n→P A:=by
  intro n
  induction n with
  | zero=>intro A hA;rw [List.length_eq_zero_iff.1 hA];exact h0
  | succ n ih =>
   intro A hA
   rcases List.eq_nil_or_concat A with e | ⟨m,u,e⟩
   ·subst e;exact h0
   ·rw [List.concat_eq_append] at e
    subst e
    exact h1 m u (ih m (by simpa using hA))
 exact this _ A rfl
theorem freeOf_crafts {c:CampD} (hc:campB c=true) (i:Nat) (d:Int):∀ (A:List LaunchD),PlanOk c A→((freeOf c A).crafts i≤d ↔ 0≤d∧∀ y ∈ A,y.craft=(i:Int)→y.day+(c.craft i).again≤d):=by
 refine snoc_ind ?_ ?_
 ·intro _;simp [freeOf,free0]
 ·intro A x ih h
  have hA:=ih h.left
  have hx:=possB_parts (h.poss x (by simp))
  have hday:=possB_day hc (h.poss x (by simp))
  have hs:=(List.pairwise_append.1 h.sorted).2.2
  have hag:=camp_craft hc (i:Int)
  rw [freeOf_snoc]
  show (if i=x.craft.toNat then x.day+(c.craft x.craft).again else (freeOf c A).crafts i)≤d ↔ _
  by_cases e:i=x.craft.toNat
  ·have e2:x.craft=(i:Int):=by omega
   rw [if_pos e,e2]
   constructor
   ·intro hd
    refine ⟨by omega,fun y hy _=>?_⟩
    rcases List.mem_append.1 hy with hy | hy
    ·have:=cmpL_day (hs y hy x (by simp));omega
    ·rw [List.mem_singleton.1 hy];exact hd
   ·rintro ⟨_,h2⟩
    exact h2 x (by simp) e2
  ·rw [if_neg e,hA]
   have e2:¬ x.craft=(i:Int):=by omega
   constructor
   ·rintro ⟨h1,h2⟩
    refine ⟨h1,fun y hy ey=>?_⟩
    rcases List.mem_append.1 hy with hy | hy
    ·exact h2 y hy ey
    ·rw [List.mem_singleton.1 hy] at ey;exact absurd ey e2
   ·rintro ⟨h1,h2⟩
    exact ⟨h1,fun y hy ey=>h2 y (List.mem_append_left _ hy) ey⟩
theorem freeOf_pads {c:CampD} (hc:campB c=true) (i:Nat) (d:Int):∀ (A:List LaunchD),PlanOk c A→((freeOf c A).pads i≤d ↔ 0≤d∧∀ y ∈ A,y.pad=(i:Int)→y.day+(c.pad i).clean≤d):=by
 refine snoc_ind ?_ ?_
 ·intro _;simp [freeOf,free0]
 ·intro A x ih h
  have hA:=ih h.left
  have hx:=possB_parts (h.poss x (by simp))
  have hday:=possB_day hc (h.poss x (by simp))
  have hs:=(List.pairwise_append.1 h.sorted).2.2
  have hag:=camp_pad hc (i:Int)
  rw [freeOf_snoc]
  show (if i=x.pad.toNat then x.day+(c.pad x.pad).clean else (freeOf c A).pads i)≤d ↔ _
  by_cases e:i=x.pad.toNat
  ·have e2:x.pad=(i:Int):=by omega
   rw [if_pos e,e2]
   constructor
   ·intro hd
    refine ⟨by omega,fun y hy _=>?_⟩
    rcases List.mem_append.1 hy with hy | hy
    ·have:=cmpL_day (hs y hy x (by simp));omega
    ·rw [List.mem_singleton.1 hy];exact hd
   ·rintro ⟨_,h2⟩
    exact h2 x (by simp) e2
  ·rw [if_neg e,hA]
   have e2:¬ x.pad=(i:Int):=by omega
   constructor
   ·rintro ⟨h1,h2⟩
    refine ⟨h1,fun y hy ey=>?_⟩
    rcases List.mem_append.1 hy with hy | hy
    ·exact h2 y hy ey
    ·rw [List.mem_singleton.1 hy] at ey;exact absurd ey e2
   ·rintro ⟨h1,h2⟩
    exact ⟨h1,fun y hy ey=>h2 y (List.mem_append_left _ hy) ey⟩
theorem freeOf_flown {c:CampD} (i:Nat):∀ (A:List LaunchD),PlanOk c A→((freeOf c A).flown i=true ↔ ∃ y ∈ A,y.craft=(i:Int)):=by
 refine snoc_ind ?_ ?_
 ·intro _;simp [freeOf,free0]
 ·intro A x ih h
  have hA:=ih h.left
  have hx:=possB_parts (h.poss x (by simp))
  rw [freeOf_snoc]
  show (if i=x.craft.toNat then true else (freeOf c A).flown i)=true ↔ _
  by_cases e:i=x.craft.toNat
  ·rw [if_pos e]
   exact ⟨fun _=>⟨x,by simp,by omega⟩,fun _=>rfl⟩
  ·rw [if_neg e,hA]
   constructor
   ·rintro ⟨y,hy,ey⟩;exact ⟨y,List.mem_append_left _ hy,ey⟩
   ·rintro ⟨y,hy,ey⟩
    rcases List.mem_append.1 hy with hy | hy
    ·exact ⟨y,hy,ey⟩
    ·rw [List.mem_singleton.1 hy] at ey;omega
theorem lastOf_day {c:CampD} (d:Int) (hd:0≤d):∀ (A:List LaunchD),PlanOk c A→((lastOf A).day≤d ↔ ∀ y ∈ A,y.day≤d):=by
 refine snoc_ind ?_ ?_
 ·intro _;show (-1:Int)≤d ↔ _;simp;omega
 ·intro A x _ h
  rw [lastOf_snoc]
  have hs:=(List.pairwise_append.1 h.sorted).2.2
  constructor
  ·intro hx y hy
   rcases List.mem_append.1 hy with hy | hy
   ·have:=cmpL_day (hs y hy x (by simp));omega
   ·rw [List.mem_singleton.1 hy];exact hx
  ·intro hh;exact hh x (by simp)
theorem lastOf_lt {c:CampD} {x:LaunchD} (hx:0≤x.day) (A:List LaunchD) (_:PlanOk c A):cmpL (lastOf A) x<0 ↔ (0<A.length→cmpL (A.getD (A.length - 1) launch0) x<0):=by
 rcases List.eq_nil_or_concat A with e | ⟨m,u,e⟩
 ·subst e
  refine ⟨fun _ h=>absurd h (by simp),fun _=>?_⟩
  show cmpL ⟨-1,0,0,[]⟩ x<0
  unfold cmpL
  rw [orI_lt]
  exact Or.inl (cmpI_lt.2 (by show (-1:Int)<_;omega))
 ·rw [List.concat_eq_append] at e
  subst e
  rw [lastOf_snoc,getLast_getD]
  exact ⟨fun h _=>h,fun h=>h (by simp)⟩
theorem soonB_le (c:CampD) (f:FreeD) (last:Int) (i k:Nat) (l:List Int) (d:Int):soonB c f last i k l≤d ↔ last≤d∧(c.craft i).ready≤d∧f.crafts i≤d∧f.pads k≤d∧∀ n ∈ l,(c.cargo n).frm≤d:=by
 have:=froms_le c d l (max (max (max last (c.craft i).ready) (f.crafts i)) (f.pads k))
 show froms c _ l≤d ↔ _
 rw [this,Int.max_le,Int.max_le,Int.max_le]
 constructor
 ·rintro ⟨⟨⟨⟨h1,h2⟩,h3⟩,h4⟩,h5⟩;exact ⟨h1,h2,h3,h4,h5⟩
 ·rintro ⟨h1,h2,h3,h4,h5⟩;exact ⟨⟨⟨⟨h1,h2⟩,h3⟩,h4⟩,h5⟩
theorem soonB_eq {c:CampD} (hc:campB c=true) {A:List LaunchD} (hA:PlanOk c A) (i k:Nat) (l:List Int) (day:Int):soonB c (freeOf c A) (lastOf A).day i k l=soonP c A ⟨day,i,k,l⟩:=by
 have key:∀ d,soonB c (freeOf c A) (lastOf A).day i k l≤d ↔ soonP c A ⟨day,i,k,l⟩≤d:=by
  intro d
  rw [soonB_le,soonP_le]
  have hr:=camp_craft hc (i:Int)
  by_cases hd:0≤d
  ·rw [freeOf_crafts hc i d A hA,freeOf_pads hc k d A hA,lastOf_day d hd A hA]
   constructor
   ·rintro ⟨h1,h2,h3,h4,h5⟩
    exact ⟨⟨h2,h5⟩,fun y hy=>⟨h1 y hy,h3.2 y hy,h4.2 y hy⟩⟩
   ·rintro ⟨⟨h1,h2⟩,h3⟩
    exact ⟨fun y hy=>(h3 y hy).1,h1,⟨hd,fun y hy=>(h3 y hy).2.1⟩,⟨hd,fun y hy=>(h3 y hy).2.2⟩,h2⟩
  ·constructor
   ·rintro ⟨_,h2,_⟩;omega
   ·rintro ⟨⟨h1,_⟩,_⟩;have:(c.craft i).ready≤d:=h1;omega
 have h1:=(key (soonP c A ⟨day,i,k,l⟩)).2 (Int.le_refl _)
 have h2:=(key (soonB c (freeOf c A) (lastOf A).day i k l)).1 (Int.le_refl _)
 omega
/-- A launch that can come next, as soon as it can be, of cargos of a set. -/
def NextOk (c:CampD) (A:List LaunchD) (s:Nat) (x:LaunchD):Prop:=faultB c A x=0∧x.day=soonP c A x∧∀ i ∈ x.cargos,s.testBit i.toNat=true
theorem poss_cargos {c:CampD} (hc:campB c=true) {x:LaunchD} (h:possB c x=true):x.cargos.Pairwise (·<·)∧∀ i ∈ x.cargos,0≤i∧i<6:=by
 have h1:=risingB_pair.1 (possB_parts h).2.2.2.2.2.2.2.2.1
 have h2:=camp_len hc
 exact ⟨h1.1,fun i hi=>by have:=h1.2 i hi;omega⟩
theorem next_mem {c:CampD} (hc:campB c=true) {A:List LaunchD} (hA:PlanOk c A) {s:Nat} (hs:∀ y ∈ A,∀ i ∈ y.cargos,s.testBit i.toNat=false) {x:LaunchD}:x ∈ nextB c (freeOf c A) (lastOf A) s ↔ NextOk c A s x:=by
 unfold nextB
 rw [(sortL_perm _).mem_iff]
 simp only [List.mem_flatMap,List.mem_range]
 constructor
 ·rintro ⟨p,hp,i,hi,k,hk,hx⟩
  obtain ⟨p1,p2,p3⟩:=partsS_mem.1 hp
  obtain ⟨D,hD⟩:∃ D,soonB c (freeOf c A) (lastOf A).day i k (bitsL p)=D:=⟨_,rfl⟩
  have hS:=soonB_eq hc hA i k (bitsL p) D
  rw [hD] at hS
  unfold tryB at hx
  rw [hD] at hx
  dsimp only at hx
  split at hx
  ·rename_i hh
   rw [List.mem_singleton] at hx
   rw [Bool.and_eq_true,Bool.and_eq_true,decide_eq_true_eq,Bool.or_eq_true,decide_eq_true_eq,← hx] at hh
   rw [← hx] at hS
   obtain ⟨⟨h1,h2⟩,h3⟩:=hh
   have hxd:x.day=D:=by rw [hx]
   have hxc:x.craft=(i:Int):=by rw [hx]
   have hxl:x.cargos=bitsL p:=by rw [hx]
   have hxs:∀ j ∈ x.cargos,s.testBit j.toNat=true:=fun j hj=>by rw [hxl] at hj;exact p3 _ (bitsL_mem.1 hj).2.2
   have hle:=(soonP_le c A x x.day).1 (by rw [← hS,hxd];exact Int.le_refl _)
   refine ⟨faultB_zero.2 ⟨h2,(lastOf_lt (possB_day hc h2).1 A hA).1 h3,fun y hy j hj hjy=>?_,fun y hy e=>⟨fun h0=>?_,(hle.2 y hy).2.1 e⟩,fun y hy e=>(hle.2 y hy).2.2 e⟩,by rw [hxd];exact hS,hxs⟩
   ·have:=hs y hy j hjy
    rw [hxs j hj] at this;cases this
   ·rw [hxc] at h0 e
    rcases h1 with h1 | h1
    ·omega
    ·rw [Bool.not_eq_true'] at h1
     have:=(freeOf_flown (c:=c) i A hA).2 ⟨y,hy,e⟩
     rw [h1] at this;cases this
  ·exact absurd hx (List.not_mem_nil)
 ·rintro ⟨h1,h2,h3⟩
  obtain ⟨f1,f2,f3,f4,f5⟩:=faultB_zero.1 h1
  have hp:=possB_parts f1
  obtain ⟨r1,r2⟩:=poss_cargos hc f1
  have hb:=rise_bits r1 r2
  refine ⟨maskL x.cargos,partsS_mem.2 ⟨maskL_lt _,fun e=>?_,fun j hj=>?_⟩,x.craft.toNat,by omega,x.pad.toNat,by omega,?_⟩
  ·rw [e] at hb
   exact hp.2.2.2.2.2.2.2.1 hb.symm
  ·rw [maskL_bit,Bool.and_eq_true,decide_eq_true_eq,decide_eq_true_eq] at hj
   have:=h3 _ hj.2
   simpa using this
  ·have ec:((x.craft.toNat:Nat):Int)=x.craft:=by omega
   have ep:((x.pad.toNat:Nat):Int)=x.pad:=by omega
   have hS:=soonB_eq hc hA x.craft.toNat x.pad.toNat x.cargos x.day
   have ex:(⟨x.day,((x.craft.toNat:Nat):Int),((x.pad.toNat:Nat):Int),x.cargos⟩:LaunchD)=x:=by rw [ec,ep]
   rw [ex,← h2] at hS
   unfold tryB
   rw [hb,hS]
   dsimp only
   rw [ex,if_pos]
   ·simp
   ·rw [Bool.and_eq_true,Bool.and_eq_true,decide_eq_true_eq,Bool.or_eq_true,decide_eq_true_eq,Bool.not_eq_true']
    refine ⟨⟨?_,f1⟩,(lastOf_lt (possB_day hc f1).1 A hA).2 f2⟩
    rw [ec]
    have hag:=camp_craft hc x.craft
    by_cases h0:(c.craft x.craft).again=0
    ·right
     cases e:(freeOf c A).flown x.craft.toNat with
     | false=>rfl
     | true =>
      obtain ⟨y,hy,ey⟩:=(freeOf_flown x.craft.toNat A hA).1 e
      exact absurd h0 (f4 y hy (by omega)).1
    ·left;omega
theorem SoonOk.left {c:CampD} {A B:List LaunchD} (h:SoonOk c (A ++ B)):SoonOk c A:=fun k hk=>by
 have:=h k (by rw [List.length_append];omega)
 rwa [List.getD_eq_getElem?_getD,List.getElem?_append_left hk,← List.getD_eq_getElem?_getD,List.take_append_of_le_length (by omega)] at this
theorem SoonOk.snoc {c:CampD} {A:List LaunchD} {x:LaunchD} (h:SoonOk c A):SoonOk c (A ++ [x]) ↔ x.day=soonP c A x:=by
 constructor
 ·intro hh
  have:=hh A.length (by simp)
  simpa [List.getD_eq_getElem?_getD] using this
 ·intro hx k hk
  rw [List.length_append,List.length_singleton] at hk
  by_cases e:k=A.length
  ·subst e;simpa [List.getD_eq_getElem?_getD] using hx
  ·have:=h k (by omega)
   rw [List.getD_eq_getElem?_getD,List.getElem?_append_left (by omega),← List.getD_eq_getElem?_getD,List.take_append_of_le_length (by omega)]
   exact this
theorem next_ext {c:CampD} (hc:campB c=true) {A:List LaunchD} {s:Nat} {x:LaunchD} {L:List LaunchD} (h:ExtS c A s (x :: L)):NextOk c A s x:=by
 have e:A ++ x :: L=(A ++ [x]) ++ L:=by simp
 have h1:=h.plan
 have h2:=h.soon
 rw [e] at h1 h2
 have h3:=h1.left
 have hx:=(PlanOk.snoc hc h3.left).2 h3
 refine ⟨hx,(SoonOk.snoc h2.left.left).1 h2.left,fun i hi=>?_⟩
 have hr:=(poss_cargos hc (faultB_zero.1 hx).1).2 i hi
 exact (h.cov i.toNat (by omega)).2 ⟨x,by simp,by rwa [show ((i.toNat:Nat):Int)=i from by omega]⟩
theorem ext_step {c:CampD} (hc:campB c=true) {A:List LaunchD} {s:Nat} {x:LaunchD} (hx:NextOk c A s x) {L:List LaunchD}:ExtS c A s (x :: L) ↔ ExtS c (A ++ [x]) (restS s x.cargos) L:=by
 have e:A ++ x :: L=(A ++ [x]) ++ L:=by simp
 have hr:=(poss_cargos hc (faultB_zero.1 hx.1).1).2
 constructor
 ·intro h
  refine ⟨by rw [← e];exact h.plan,by rw [← e];exact h.soon,fun i hi=>?_⟩
  rw [restS_bit _ hr s i hi,Bool.and_eq_true,Bool.not_eq_true',decide_eq_false_iff_not,h.cov i hi]
  have hap:∀ y ∈ L,apartL x y:=fun y hy=>((List.pairwise_cons.1 (List.pairwise_append.1 h.plan.fit).2.1).1 y hy).apart
  constructor
  ·rintro ⟨⟨y,hy,hiy⟩,hn⟩
   rcases List.mem_cons.1 hy with e | e
   ·subst e;exact absurd hiy hn
   ·exact ⟨y,e,hiy⟩
  ·rintro ⟨y,hy,hiy⟩
   exact ⟨⟨y,List.mem_cons_of_mem _ hy,hiy⟩,hap y hy i hiy⟩
 ·intro h
  refine ⟨by rw [e];exact h.plan,by rw [e];exact h.soon,fun i hi=>?_⟩
  have hcv:=h.cov i hi
  rw [restS_bit _ hr s i hi,Bool.and_eq_true,Bool.not_eq_true',decide_eq_false_iff_not] at hcv
  constructor
  ·intro hsi
   by_cases hh:(i:Int) ∈ x.cargos
   ·exact ⟨x,by simp,hh⟩
   ·obtain ⟨y,hy,hiy⟩:=hcv.1 ⟨hsi,hh⟩
    exact ⟨y,List.mem_cons_of_mem _ hy,hiy⟩
  ·rintro ⟨y,hy,hiy⟩
   rcases List.mem_cons.1 hy with e | e
   ·subst e;have:=hx.2.2 _ hiy;simpa using this
   ·exact (hcv.2 ⟨y,e,hiy⟩).1
theorem bitsL_sub_len {s t:Nat} (h:∀ i,i<6→t.testBit i=true→s.testBit i=true):(bitsL t).length≤(bitsL s).length:=by
 unfold bitsL
 rw [List.length_map,List.length_map,← List.countP_eq_length_filter,← List.countP_eq_length_filter]
 exact List.countP_mono_left fun i hi hh=>h i (List.mem_range.1 hi) hh
theorem sizeS_rest {s:Nat} {l:List Int} (hl:∀ i ∈ l,0≤i∧i<6) (hs:∀ i ∈ l,s.testBit i.toNat=true) (hn:l ≠ []):sizeS (restS s l)<sizeS s:=by
 obtain ⟨a,m,e⟩:=List.exists_cons_of_ne_nil hn
 have ha:a ∈ l:=by rw [e];simp
 have ha2:=hl a ha
 unfold sizeS bitsL
 rw [List.length_map,List.length_map]
 have h1:∀ i,i<6→(restS s l).testBit i=true→s.testBit i=true:=fun i hi h=>by
  rw [restS_bit l hl s i hi,Bool.and_eq_true] at h;exact h.1
 have hmem:a.toNat ∈ (List.range 6).filter fun i=>s.testBit i:=List.mem_filter.2 ⟨List.mem_range.2 (by omega),hs a ha⟩
 have hnot:a.toNat ∉ (List.range 6).filter fun i=>(restS s l).testBit i:=fun h=>by
  have:=(List.mem_filter.1 h).2
  rw [restS_bit l hl s _ (by omega),show ((a.toNat:Nat):Int)=a from by omega] at this
  simp [ha] at this
 have hsub:((List.range 6).filter fun i=>(restS s l).testBit i).Sublist ((List.range 6).filter fun i=>s.testBit i):=by
  have:((List.range 6).filter fun i=>(restS s l).testBit i)=((List.range 6).filter fun i=>s.testBit i).filter fun i=>(restS s l).testBit i:=by
   rw [List.filter_filter]
   refine List.filter_congr fun i hi=>?_
   cases e:(restS s l).testBit i with
   | false=>simp
   | true=>rw [h1 i (List.mem_range.1 hi) e];rfl
  rw [this];exact List.filter_sublist
 rcases Nat.lt_or_ge ((List.range 6).filter fun i=>(restS s l).testBit i).length ((List.range 6).filter fun i=>s.testBit i).length with h | h
 ·exact h
 ·exact absurd (by rw [hsub.eq_of_length_le h];exact hmem) hnot
theorem ext_size {c:CampD} (hc:campB c=true):∀ (L A:List LaunchD) (s:Nat),ExtS c A s L→L.length≤sizeS s
 | [],_,_,_=>Nat.zero_le _
 | x :: L,A,s,h=>by
  have hx:=next_ext hc h
  have h1:=ext_size hc L (A ++ [x]) _ ((ext_step hc hx).1 h)
  have hp:=(faultB_zero.1 hx.1).1
  have h2:=sizeS_rest (poss_cargos hc hp).2 hx.2.2 (possB_parts hp).2.2.2.2.2.2.2.1
  rw [List.length_cons];omega
theorem ext_nil {c:CampD} {A:List LaunchD} {s:Nat} (hs:s<64) (hp:PlanOk c A) (hq:SoonOk c A):ExtS c A s [] ↔ s=0:=by
 constructor
 ·intro h
  refine nat_bits_eq fun i=>?_
  rw [Nat.zero_testBit]
  by_cases hi:i<6
  ·cases e:s.testBit i with
   | false=>rfl
   | true=>obtain ⟨x,hx,_⟩:=(h.cov i hi).1 e;cases hx
  ·exact lt64_bit hs (by omega)
 ·rintro rfl
  exact ⟨by rwa [List.append_nil],by rwa [List.append_nil],fun i _=>by simp⟩
theorem findSome_sorted {β:Type} {f:LaunchD→Option β}:∀ {l:List LaunchD},SortedL l→∀ {b:β},l.findSome? f=some b→∃ x ∈ l,f x=some b∧∀ y ∈ l,f y ≠ none→cmpL x y≤0
 | [],_,_,h=>by simp at h
 | x :: l,hs,b,h=>by
  obtain ⟨s1,s2⟩:=List.pairwise_cons.1 hs
  rw [List.findSome?_cons] at h
  cases e:f x with
  | some u =>
   rw [e] at h
   refine ⟨x,by simp,by rw [e];exact h,fun y hy _=>?_⟩
   rcases List.mem_cons.1 hy with e2 | e2
   ·rw [e2,cmpL_irrefl];exact Int.le_refl _
   ·exact s1 y e2
  | none =>
   rw [e] at h
   obtain ⟨z,hz,h1,h2⟩:=findSome_sorted s2 h
   refine ⟨z,List.mem_cons_of_mem _ hz,h1,fun y hy hn=>?_⟩
   rcases List.mem_cons.1 hy with e2 | e2
   ·rw [e2] at hn;exact absurd e hn
   ·exact h2 y e2 hn
theorem nextB_sorted (c:CampD) (f:FreeD) (last:LaunchD) (s:Nat):SortedL (nextB c f last s):=sortL_sorted _
/-- THE SEARCH: it finds the least, if there is one. -/
theorem fill_spec {c:CampD} (hc:campB c=true):∀ (n:Nat) (A:List LaunchD) (s:Nat),s<64→PlanOk c A→SoonOk c A→(∀ y ∈ A,∀ i ∈ y.cargos,s.testBit i.toNat=false) →
  (fillB c n (freeOf c A) (lastOf A) s=none→∀ L,ExtS c A s L→L.length ≠ n) ∧
  (∀ L,fillB c n (freeOf c A) (lastOf A) s=some L→ExtS c A s L∧L.length=n∧∀ L',ExtS c A s L'→L'.length=n→cmpP L L'≤0)
 | 0,A,s,hs,hA,hq,hd=>by
  show ((if s=0 then some [] else none)=none→_)∧(∀ L,(if s=0 then some [] else none)=some L→_)
  by_cases h0:s=0
  ·rw [if_pos h0]
   refine ⟨fun h=>by (cases h),fun L h=>?_⟩
   cases h
   refine ⟨(ext_nil hs hA hq).2 h0,rfl,fun L' _ hl=>?_⟩
   rw [List.length_eq_zero_iff.1 hl];exact Int.le_refl _
  ·rw [if_neg h0]
   refine ⟨fun _ L hL hl=>?_,fun L h=>by (cases h)⟩
   rw [List.length_eq_zero_iff.1 hl] at hL
   exact h0 ((ext_nil hs hA hq).1 hL)
 | n+1,A,s,hs,hA,hq,hd=>by
  have hrest:∀ {x:LaunchD},NextOk c A s x→PlanOk c (A ++ [x])∧SoonOk c (A ++ [x])∧(∀ y ∈ A ++ [x],∀ i ∈ y.cargos,(restS s x.cargos).testBit i.toNat=false):=by
   intro x hx
   have hx2:=(PlanOk.snoc hc hA).1 hx.1
   refine ⟨hx2,(SoonOk.snoc hq).2 hx.2.1,fun y hy i hi=>?_⟩
   have hp:=(poss_cargos hc (hx2.poss y hy)).2 i hi
   rw [restS_bit _ (poss_cargos hc (faultB_zero.1 hx.1).1).2 s _ (by omega),show ((i.toNat:Nat):Int)=i from by omega]
   rcases List.mem_append.1 hy with hy | hy
   ·rw [hd y hy i hi];rfl
   ·rw [List.mem_singleton.1 hy] at hi;simp [hi]
  unfold fillB
  by_cases h0:sizeS s<n+1 ∨ s=0
  ·rw [if_pos h0]
   refine ⟨fun _ L hL hl=>?_,fun L h=>by (cases h)⟩
   have h1:=ext_size hc L A s hL
   rcases h0 with h0 | h0
   ·omega
   ·subst h0
    have:sizeS 0=0:=rfl
    omega
  ·rw [if_neg h0]
   have step:∀ {x:LaunchD},NextOk c A s x→∀ L,ExtS c A s (x :: L)→L.length=n→(if sizeS (restS s x.cargos)<n ∨ (n=0∧restS s x.cargos ≠ 0) then none else (fillB c n (behindB c (freeOf c A) x) x (restS s x.cargos)).map fun l=>x :: l) ≠ none:=by
    intro x hx L hL hl
    obtain ⟨r1,r2,r3⟩:=hrest hx
    have hL2:=(ext_step hc hx).1 hL
    have h1:=ext_size hc L _ _ hL2
    rw [if_neg (by
     rintro (h | ⟨h,h'⟩)
     ·omega
     ·subst h
      rw [List.length_eq_zero_iff.1 hl] at hL2
      exact h' ((ext_nil (restS_lt _ _ hs) r1 r2).1 hL2))]
    intro hn
    rw [Option.map_eq_none_iff] at hn
    have:=(fill_spec hc n (A ++ [x]) (restS s x.cargos) (restS_lt _ _ hs) r1 r2 r3).1
    rw [freeOf_snoc,lastOf_snoc] at this
    exact this hn L hL2 hl
   constructor
   ·intro hn L hL hl
    cases L with
    | nil=>cases hl
    | cons x L =>
     have hx:=next_ext hc hL
     have:=List.findSome?_eq_none_iff.1 hn x ((next_mem hc hA hd).2 hx)
     exact step hx L hL (by simpa using hl) this
   ·intro L hL
    obtain ⟨x,hx,h1,h2⟩:=findSome_sorted (nextB_sorted c _ _ _) hL
    have hnx:=(next_mem hc hA hd).1 hx
    obtain ⟨r1,r2,r3⟩:=hrest hnx
    split at h1
    ·cases h1
    ·rw [Option.map_eq_some_iff] at h1
     obtain ⟨L1,h3,rfl⟩:=h1
     have ih:=(fill_spec hc n (A ++ [x]) (restS s x.cargos) (restS_lt _ _ hs) r1 r2 r3).2 L1
     rw [freeOf_snoc,lastOf_snoc] at ih
     obtain ⟨i1,i2,i3⟩:=ih h3
     refine ⟨(ext_step hc hnx).2 i1,by rw [List.length_cons,i2],fun L' hL' hl'=>?_⟩
     cases L' with
     | nil=>cases hl'
     | cons x' L' =>
      have hx':=next_ext hc hL'
      have h4:=h2 x' ((next_mem hc hA hd).2 hx') (step hx' L' hL' (by simpa using hl'))
      show orI (cmpL x x') (cmpP L1 L')≤0
      by_cases e:cmpL x x'=0
      ·have ex:=cmpL_zero.1 e
       subst ex
       have:=i3 L' ((ext_step hc hx').1 hL') (by simpa using hl')
       unfold orI;rw [if_pos e];exact this
      ·unfold orI;rw [if_neg e];exact h4
end Go.Proofs.YtcnjenlojnognaaGreat
/- What is proved: the best plan of the program and the document's are one: the best of all complete plans in which each launch is as soon as it can be. Conditions: the campaign is valid. -/
namespace Go.Proofs.YtcnjenlojnognaaGreat
open Go.RowKit

/-- Which of two plans is better: the key's sign. -/
def keyP (c:CampD) (a b:List LaunchD):Int:=orI (cmpI (worthB c b).1 (worthB c a).1) (orI (cmpI a.length b.length) (cmpP a b))
def betterB (c:CampD) (a b:List LaunchD):Bool:=decide (keyP c a b<0)
def compB (c:CampD) (l:List LaunchD):Bool:=(worthB c l).2.1
theorem keyP_swap (c:CampD) (a b:List LaunchD):keyP c b a=-keyP c a b:=by
 unfold keyP
 rw [cmpI_swap (worthB c b).1,cmpI_swap (a.length:Int),cmpP_swap a b,orI_neg,orI_neg]
theorem keyP_zero {c:CampD} {a b:List LaunchD} (h:keyP c a b=0):a=b:=by
 unfold keyP at h
 rw [orI_zero,orI_zero] at h
 exact cmpP_zero.1 h.2.2
theorem keyP_self (c:CampD) (a:List LaunchD):keyP c a a=0:=by
 unfold keyP
 rw [orI_zero,orI_zero]
 exact ⟨cmpI_zero.2 rfl,cmpI_zero.2 rfl,cmpP_zero.2 rfl⟩
theorem keyP_lt_trans {c:CampD} {a b d:List LaunchD} (h1:keyP c a b<0) (h2:keyP c b d<0):keyP c a d<0:=by
 unfold keyP at *
 simp only [orI_lt,cmpI_lt,cmpI_zero] at *
 rcases h1 with h1 | ⟨h1,h1 | ⟨h1',h1''⟩⟩ <;> rcases h2 with h2 | ⟨h2,h2 | ⟨h2',h2''⟩⟩ <;> try omega
 exact Or.inr ⟨by omega,Or.inr ⟨by omega,cmpP_lt_trans h1'' h2''⟩⟩
theorem keyP_le_trans {c:CampD} {a b d:List LaunchD} (h1:keyP c a b≤0) (h2:keyP c b d≤0):keyP c a d≤0:=by
 by_cases e1:keyP c a b=0
 ·rw [keyP_zero e1];exact h2
 ·by_cases e2:keyP c b d=0
  ·rw [← keyP_zero e2];exact h1
  ·have:=keyP_lt_trans (c:=c) (a:=a) (b:=b) (d:=d) (by omega) (by omega);omega
/-- r is the best of those that satisfy C. -/
def BestOf (c:CampD) (C:List LaunchD→Prop) (r:Option (List LaunchD)):Prop :=
 (r=none→∀ L,¬ C L)∧∀ L,r=some L→C L∧∀ L',C L'→keyP c L L'≤0
theorem BestOf.unique {c:CampD} {C:List LaunchD→Prop} {r r':Option (List LaunchD)} (h:BestOf c C r) (h':BestOf c C r'):r=r':=by
 cases r with
 | none =>
  cases r' with
  | none=>rfl
  | some L=>exact absurd (h'.2 L rfl).1 (h.1 rfl L)
 | some L =>
  cases r' with
  | none=>exact absurd (h.2 L rfl).1 (h'.1 rfl L)
  | some L' =>
   have h1:=(h.2 L rfl).2 L' (h'.2 L' rfl).1
   have h2:=(h'.2 L' rfl).2 L (h.2 L rfl).1
   rw [keyP_swap c L L'] at h2
   rw [keyP_zero (c:=c) (a:=L) (b:=L') (by omega)]
theorem BestOf.congr {c:CampD} {C D:List LaunchD→Prop} {r:Option (List LaunchD)} (h:BestOf c C r) (e:∀ L,C L ↔ D L):BestOf c D r :=
 ⟨fun hr L hL=>h.1 hr L ((e L).2 hL),fun L hr=>⟨(e L).1 (h.2 L hr).1,fun L' hL'=>(h.2 L hr).2 L' ((e L').2 hL')⟩⟩
/-- The document's search. -/
def stepD (c:CampD) (l:List LaunchD) (b k:Nat):LaunchD:=⟨soonP c l ⟨0,(k / c.pads.length:Nat),(k % c.pads.length:Nat),bitsL b⟩,(k / c.pads.length:Nat),(k % c.pads.length:Nat),bitsL b⟩
def takeB (c:CampD) (S:Option (List LaunchD)) (l:List LaunchD):Option (List LaunchD) :=
 if compB c l && (match S with | none=>true | some b=>betterB c l b) then some l else S
def waysD (c:CampD):List (Nat × Nat):=(List.range (2 ^ c.cargos.length - 1)).flatMap fun b=>(List.range (c.crafts.length * c.pads.length)).map fun k=>(b+1,k)
def searchB (c:CampD):Nat→Option (List LaunchD)→List LaunchD→Option (List LaunchD)
 | 0,S,_=>S
 | f+1,S,l=>(waysD c).foldl (fun S q=>if faultB c l (stepD c l q.1 q.2)=0 then searchB c f S (l ++ [stepD c l q.1 q.2]) else S) (takeB c S l)
theorem takeB_best {c:CampD} {C:List LaunchD→Prop} {S:Option (List LaunchD)} {l:List LaunchD} (h:BestOf c C S):BestOf c (fun L=>C L ∨ (L=l∧compB c l=true)) (takeB c S l):=by
 unfold takeB
 cases hc:compB c l with
 | false =>
  rw [Bool.false_and,if_neg (by decide)]
  exact h.congr fun L=>by simp
 | true =>
  rw [Bool.true_and]
  cases S with
  | none =>
   rw [if_pos rfl]
   refine ⟨fun hh=>by (cases hh),fun L hh=>?_⟩
   cases hh
   refine ⟨Or.inr ⟨rfl,rfl⟩,fun L' hL'=>?_⟩
   rcases hL' with hL' | hL'
   ·exact absurd hL' (h.1 rfl L')
   ·rw [hL'.1,keyP_self];exact Int.le_refl _
  | some b =>
   obtain ⟨h1,h2⟩:=h.2 b rfl
   dsimp only
   by_cases hb:betterB c l b=true
   ·rw [if_pos hb]
    refine ⟨fun hh=>by (cases hh),fun L hh=>?_⟩
    cases hh
    refine ⟨Or.inr ⟨rfl,rfl⟩,fun L' hL'=>?_⟩
    rcases hL' with hL' | hL'
    ·unfold betterB at hb
     rw [decide_eq_true_eq] at hb
     exact keyP_le_trans (by omega) (h2 L' hL')
    ·rw [hL'.1,keyP_self];exact Int.le_refl _
   ·rw [if_neg hb]
    refine ⟨fun hh=>by (cases hh),fun L hh=>?_⟩
    cases hh
    refine ⟨Or.inl h1,fun L' hL'=>?_⟩
    rcases hL' with hL' | hL'
    ·exact h2 L' hL'
    ·unfold betterB at hb
     rw [decide_eq_true_eq] at hb
     rw [hL'.1,keyP_swap c l];omega
/-- A plan that goes on from l. -/
def GoesOn (c:CampD) (l:List LaunchD) (L:List LaunchD):Prop:=PlanOk c L∧SoonOk c L∧∃ M,L=l ++ M
theorem goesOn_step {c:CampD} (hc:campB c=true) {l L:List LaunchD} (h1:PlanOk c l) (h2:SoonOk c l) :
  GoesOn c l L ↔ L=l ∨ ∃ q ∈ waysD c,faultB c l (stepD c l q.1 q.2)=0∧GoesOn c (l ++ [stepD c l q.1 q.2]) L:=by
 constructor
 ·rintro ⟨g1,g2,M,rfl⟩
  cases M with
  | nil=>exact Or.inl (by simp)
  | cons x M =>
   right
   have e:l ++ x :: M=(l ++ [x]) ++ M:=by simp
   have g1':=g1
   have g2':=g2
   rw [e] at g1' g2'
   have hx:=(PlanOk.snoc hc h1).2 g1'.left
   have hd:=(SoonOk.snoc h2).1 g2'.left
   have hp:=(faultB_zero.1 hx).1
   have hpp:=possB_parts hp
   obtain ⟨r1,r2⟩:=poss_cargos hc hp
   have hb:=rise_bits r1 r2
   have hpl:0<c.pads.length:=by have:=camp_len hc;omega
   have hml:maskL x.cargos<2 ^ c.cargos.length:=by
    refine Nat.lt_pow_two_of_testBit _ fun i hi=>?_
    rw [maskL_bit]
    by_cases h6:i<6
    ·have:¬ (i:Int) ∈ x.cargos:=fun hh=>by
      have:=(risingB_pair.1 hpp.2.2.2.2.2.2.2.2.1).2 _ hh
      omega
     simp [this]
    ·rw [decide_eq_false h6,Bool.false_and]
   have hm0:maskL x.cargos ≠ 0:=fun e=>by
    rw [e] at hb
    exact hpp.2.2.2.2.2.2.2.1 hb.symm
   obtain ⟨ic,hic⟩:∃ i:Nat,x.craft=(i:Int):=⟨x.craft.toNat,by omega⟩
   obtain ⟨ip,hip⟩:∃ i:Nat,x.pad=(i:Int):=⟨x.pad.toNat,by omega⟩
   have hicl:ic<c.crafts.length:=by have:=hpp.2.1;omega
   have hipl:ip<c.pads.length:=by have:=hpp.2.2.2.1;omega
   have hk1:(ic * c.pads.length+ip) / c.pads.length=ic:=by
    rw [Nat.mul_comm,Nat.mul_add_div hpl,Nat.div_eq_of_lt hipl,Nat.add_zero]
   have hk2:(ic * c.pads.length+ip) % c.pads.length=ip:=by
    rw [Nat.mul_comm,Nat.mul_add_mod,Nat.mod_eq_of_lt hipl]
   have hst:stepD c l (maskL x.cargos) (ic * c.pads.length+ip)=x:=by
    unfold stepD
    rw [hk1,hk2,hb]
    have hs:soonP c l ⟨0,(ic:Int),(ip:Int),x.cargos⟩=x.day:=by
     rw [hd];unfold soonP;rw [hic]
     congr 1
     funext d y
     unfold soonS
     rw [hic,hip]
    rw [hs,← hic,← hip]
   refine ⟨(maskL x.cargos,ic * c.pads.length+ip),?_,?_⟩
   ·unfold waysD
    rw [List.mem_flatMap]
    refine ⟨maskL x.cargos - 1,List.mem_range.2 (by omega),List.mem_map.2 ⟨ic * c.pads.length+ip,List.mem_range.2 ?_,?_⟩⟩
    ·have:(ic+1) * c.pads.length≤c.crafts.length * c.pads.length:=Nat.mul_le_mul_right _ hicl
     rw [Nat.add_mul,Nat.one_mul] at this;omega
    ·rw [show maskL x.cargos - 1+1=maskL x.cargos from by omega]
   ·dsimp only
    rw [hst]
    exact ⟨hx,g1,g2,M,e⟩
 ·rintro (rfl | ⟨q,_,hf,g1,g2,M,e⟩)
  ·exact ⟨h1,h2,[],by simp⟩
  ·exact ⟨g1,g2,_ :: M,by rw [e,List.append_assoc];rfl⟩
theorem planOk_len {c:CampD} (hc:campB c=true) {l:List LaunchD} (h:PlanOk c l):l.length≤c.cargos.length:=by
 have key:∀ (l:List LaunchD) (s:Nat),(∀ x ∈ l,possB c x=true)→l.Pairwise (FitC c)→s<64→(∀ x ∈ l,∀ i ∈ x.cargos,s.testBit i.toNat=true)→l.length≤sizeS s:=by
  intro l
  induction l with
  | nil=>intro s _ _ _ _;exact Nat.zero_le _
  | cons x l ih =>
   intro s h1 h2 hs h3
   obtain ⟨f1,f2⟩:=List.pairwise_cons.1 h2
   have hp:=h1 x (by simp)
   have hr:=(poss_cargos hc hp).2
   have h4:=sizeS_rest hr (h3 x (by simp)) (possB_parts hp).2.2.2.2.2.2.2.1
   have h5:=ih (restS s x.cargos) (fun y hy=>h1 y (List.mem_cons_of_mem _ hy)) f2 (restS_lt _ _ hs) fun y hy i hi=>by
    have hri:=(poss_cargos hc (h1 y (List.mem_cons_of_mem _ hy))).2 i hi
    rw [restS_bit _ hr s _ (by omega),show ((i.toNat:Nat):Int)=i from by omega,h3 y (List.mem_cons_of_mem _ hy) i hi]
    have:=(f1 y hy).apart i hi
    simp [this]
   rw [List.length_cons];omega
 have hn:=camp_len hc
 have h1:=key l (2 ^ c.cargos.length - 1) h.poss h.fit (by
  have:2 ^ c.cargos.length≤2 ^ 6:=Nat.pow_le_pow_right (by decide) hn.2.2.2.2.2.1
  omega) fun x hx i hi=>by
   have:=(risingB_pair.1 (possB_parts (h.poss x hx)).2.2.2.2.2.2.2.2.1).2 i hi
   rw [Nat.testBit_two_pow_sub_one];simp;omega
 have h2:sizeS (2 ^ c.cargos.length - 1)=c.cargos.length:=by
  rcases (show c.cargos.length=1 ∨ c.cargos.length=2 ∨ c.cargos.length=3 ∨ c.cargos.length=4 ∨ c.cargos.length=5 ∨ c.cargos.length=6 by omega) with e | e | e | e | e | e <;> rw [e] <;> rfl
 omega
theorem search_spec {c:CampD} (hc:campB c=true):∀ (f:Nat) (C:List LaunchD→Prop) (S:Option (List LaunchD)) (l:List LaunchD),PlanOk c l→SoonOk c l→c.cargos.length<l.length+f→BestOf c C S →
  BestOf c (fun L=>C L ∨ (GoesOn c l L∧compB c L=true)) (searchB c f S l)
 | 0,C,S,l,h1,_,hf,_=>by have:=planOk_len hc h1;omega
 | f+1,C,S,l,h1,h2,hf,hS=>by
  have hfold:∀ (qs:List (Nat × Nat)) (D:List LaunchD→Prop) (S:Option (List LaunchD)),BestOf c D S →
    BestOf c (fun L=>D L ∨ ∃ q ∈ qs,faultB c l (stepD c l q.1 q.2)=0∧GoesOn c (l ++ [stepD c l q.1 q.2]) L∧compB c L=true)
     (qs.foldl (fun S q=>if faultB c l (stepD c l q.1 q.2)=0 then searchB c f S (l ++ [stepD c l q.1 q.2]) else S) S):=by
   intro qs
   induction qs with
   | nil=>intro D S hD;exact hD.congr fun L=>by simp
   | cons q qs ih =>
    intro D S hD
    rw [List.foldl_cons]
    by_cases hq:faultB c l (stepD c l q.1 q.2)=0
    ·rw [if_pos hq]
     have g1:=(PlanOk.snoc hc h1).1 hq
     have g2:SoonOk c (l ++ [stepD c l q.1 q.2]):=(SoonOk.snoc h2).2 rfl
     have:=ih _ _ (search_spec hc f D S (l ++ [stepD c l q.1 q.2]) g1 g2 (by rw [List.length_append,List.length_singleton];omega) hD)
     refine this.congr fun L=>?_
     constructor
     ·rintro ((h | h) | ⟨q',hq',h⟩)
      ·exact Or.inl h
      ·exact Or.inr ⟨q,by simp,hq,h⟩
      ·exact Or.inr ⟨q',List.mem_cons_of_mem _ hq',h⟩
     ·rintro (h | ⟨q',hq',h⟩)
      ·exact Or.inl (Or.inl h)
      ·rcases List.mem_cons.1 hq' with e | e
       ·subst e;exact Or.inl (Or.inr h.2)
       ·exact Or.inr ⟨q',e,h⟩
    ·rw [if_neg hq]
     refine (ih D S hD).congr fun L=>?_
     constructor
     ·rintro (h | ⟨q',hq',h⟩)
      ·exact Or.inl h
      ·exact Or.inr ⟨q',List.mem_cons_of_mem _ hq',h⟩
     ·rintro (h | ⟨q',hq',h⟩)
      ·exact Or.inl h
      ·rcases List.mem_cons.1 hq' with e | e
       ·subst e;exact absurd h.1 hq
       ·exact Or.inr ⟨q',e,h⟩
  show BestOf c _ ((waysD c).foldl _ (takeB c S l))
  refine (hfold (waysD c) _ _ (takeB_best hS)).congr fun L=>?_
  rw [goesOn_step hc h1 h2]
  constructor
  ·rintro ((h | ⟨h,h'⟩) | ⟨q,hq,a,b,d⟩)
   ·exact Or.inl h
   ·exact Or.inr ⟨Or.inl h,by rw [h];exact h'⟩
   ·exact Or.inr ⟨Or.inr ⟨q,hq,a,b⟩,d⟩
  ·rintro (h | ⟨h | ⟨q,hq,a,b⟩,d⟩)
   ·exact Or.inl (Or.inl h)
   ·exact Or.inl (Or.inr ⟨h,by rw [← h];exact d⟩)
   ·exact Or.inr ⟨q,hq,a,b,d⟩
/-- A complete plan, each launch as soon as it can be. -/
def SoonC (c:CampD) (L:List LaunchD):Prop:=PlanOk c L∧SoonOk c L∧compB c L=true
theorem search_best {c:CampD} (hc:campB c=true) (f:Nat) (hf:6<f):BestOf c (SoonC c) (searchB c f none []):=by
 have hn:=camp_len hc
 have h:=search_spec hc f (fun _=>False) none [] (PlanOk.nil c) (fun k hk=>absurd hk (Nat.not_lt_zero _)) (by show c.cargos.length<0+f;omega) ⟨fun _ _ h=>h,fun L h=>by cases h⟩
 refine h.congr fun L=>?_
 constructor
 ·rintro (h | ⟨⟨a,b,_⟩,d⟩)
  ·exact h.elim
  ·exact ⟨a,b,d⟩
 ·rintro ⟨a,b,d⟩
  exact Or.inr ⟨⟨a,b,L,rfl⟩,d⟩
end Go.Proofs.YtcnjenlojnognaaGreat
/- What is proved: the program's best plan is the best of all complete plans in which each launch is as soon as it can be. Conditions: the campaign is valid. -/
namespace Go.Proofs.YtcnjenlojnognaaGreat
open Go.RowKit

/-- The set that a plan launches. -/
def setOf (L:List LaunchD):Nat:=maskL (L.flatMap (·.cargos))
theorem setOf_bit (L:List LaunchD) (i:Nat):(setOf L).testBit i=true ↔ i<6∧∃ x ∈ L,(i:Int) ∈ x.cargos:=by
 unfold setOf
 rw [maskL_bit,Bool.and_eq_true,decide_eq_true_eq,decide_eq_true_eq,List.mem_flatMap]
theorem setOf_lt (L:List LaunchD):setOf L<64:=maskL_lt _
theorem covS_iff {s:Nat} (hs:s<64) {L:List LaunchD}:covS s L ↔ setOf L=s:=by
 constructor
 ·intro h
  refine nat_bits_eq fun i=>?_
  by_cases hi:i<6
  ·rw [Bool.eq_iff_iff,setOf_bit,h i hi];simp [hi]
  ·rw [lt64_bit hs (by omega),lt64_bit (setOf_lt L) (by omega)]
 ·rintro rfl i hi
  rw [setOf_bit];simp [hi]
theorem launchedB_iff {L:List LaunchD} {i:Int}:launchedB L i=true ↔ ∃ x ∈ L,i ∈ x.cargos:=by
 unfold launchedB
 rw [List.any_eq_true]
 simp only [List.contains_iff_mem]
theorem launched_set {L:List LaunchD} {i:Nat} (hi:i<6):launchedB L i=(setOf L).testBit i:=by
 rw [Bool.eq_iff_iff,launchedB_iff,setOf_bit];simp [hi]
/-- The worth of the cargos of a set among the first k. -/
def worthN (c:CampD) (s:Nat):Nat→Int
 | 0=>0
 | k+1=>worthN c s k+if s.testBit k then (c.cargo (k:Int)).value else 0
theorem worthN_succ (c:CampD) (s k:Nat):worthN c s (k+1)=worthN c s k+if s.testBit k then (c.cargo (k:Int)).value else 0:=rfl
theorem worthK_set (c:CampD) (L:List LaunchD):∀ k,k≤6→worthK c L k=(worthN c (setOf L) k,(List.range k).all fun i=>(setOf L).testBit i || !(c.cargo (i:Int)).must)
 | 0,_=>rfl
 | k+1,hk=>by
  unfold worthK
  rw [worthK_set c L k (by omega),launched_set (by omega:k<6),List.range_succ,List.all_append,worthN_succ]
  cases h:(setOf L).testBit k with
  | true=>simp [h]
  | false=>simp [h]
theorem worthS_fold (c:CampD) (s:Nat):∀ (l:List Int) (n:Int),l.foldl (fun n i=>n+(c.cargo i).value) n=n+(l.map fun i=>(c.cargo i).value).sum
 | [],n=>by simp
 | a :: l,n=>by rw [List.foldl_cons,worthS_fold c s l];simp only [List.map_cons,List.sum_cons];omega
theorem worthS_eq {c:CampD} {s:Nat} (hc:c.cargos.length≤6) (hs:s<2 ^ c.cargos.length):worthS c s=worthN c s c.cargos.length:=by
 have key:∀ k,k≤6→((((List.range k).filter fun i=>s.testBit i).map Int.ofNat).map fun i=>(c.cargo i).value).sum=worthN c s k:=by
  intro k
  induction k with
  | zero=>intro _;rfl
  | succ k ih =>
   intro hk
   rw [List.range_succ,List.filter_append,List.map_append,List.map_append,List.sum_append,ih (by omega),worthN_succ]
   cases h:s.testBit k with
   | true=>simp [h]
   | false=>simp [h]
 have more:∀ k,c.cargos.length≤k→worthN c s k=worthN c s c.cargos.length:=by
  intro k hk
  induction k with
  | zero=>rw [show c.cargos.length=0 from by omega]
  | succ k ih =>
   by_cases e:c.cargos.length=k+1
   ·rw [e]
   ·rw [worthN_succ,ih (by omega)]
    have:s.testBit k=false:=Nat.testBit_lt_two_pow (Nat.lt_of_lt_of_le hs (Nat.pow_le_pow_right (by decide) (by omega)))
    rw [this];simp
 unfold worthS bitsL
 rw [worthS_fold c s,key 6 (Nat.le_refl _),more 6 hc];omega
theorem mustS_bit (c:CampD) (j:Nat):(mustS c).testBit j=(decide (j<c.cargos.length) && (c.cargo (j:Int)).must):=by
 unfold mustS
 rw [maskF_bit (fun i=>(c.cargo (i:Int)).must=true)]
 simp
theorem setOf_poss {c:CampD} (hc:campB c=true) {L:List LaunchD} (h:PlanOk c L):setOf L<2 ^ c.cargos.length:=by
 have hn:=camp_len hc
 refine Nat.lt_pow_two_of_testBit _ fun i hi=>?_
 cases e:(setOf L).testBit i with
 | false=>rfl
 | true =>
  obtain ⟨_,x,hx,hix⟩:=(setOf_bit L i).1 e
  have:=(risingB_pair.1 (possB_parts (h.poss x hx)).2.2.2.2.2.2.2.2.1).2 _ hix
  omega
/-- What a valid plan is worth; whether it is complete. -/
theorem worthB_set {c:CampD} (hc:campB c=true) {L:List LaunchD} (h:PlanOk c L):worthB c L=(worthS c (setOf L),decide (setOf L &&& mustS c=mustS c),0):=by
 have hn:=camp_len hc
 have hs:=setOf_poss hc h
 unfold worthB
 rw [if_pos (valid_iff.2 ⟨hc,h⟩),worthK_set c L _ (by omega),worthS_eq (by omega) hs]
 refine Prod.ext rfl (Prod.ext ?_ rfl)
 show ((List.range c.cargos.length).all fun i=>(setOf L).testBit i || !(c.cargo (i:Int)).must)=decide (setOf L &&& mustS c=mustS c)
 rw [Nat.and_comm,Bool.eq_iff_iff,decide_eq_true_eq,and_sub,List.all_eq_true]
 constructor
 ·intro hh i hi
  rw [mustS_bit,Bool.and_eq_true,decide_eq_true_eq] at hi
  have:=hh i (List.mem_range.2 hi.1)
  rw [hi.2] at this
  simpa using this
 ·intro hh i hi
  cases e:(c.cargo (i:Int)).must with
  | false=>simp
  | true=>rw [hh i (by rw [mustS_bit,e,decide_eq_true (List.mem_range.1 hi)];rfl)];rfl
/-- A plan of a set, of so many launches, each as soon as it can be. -/
def SoonS (c:CampD) (s n:Nat) (L:List LaunchD):Prop:=PlanOk c L∧SoonOk c L∧setOf L=s∧L.length=n
theorem least_spec {c:CampD} (hc:campB c=true) {s:Nat} (hs:s<64) (n:Nat):(leastB c s n=none→∀ L,¬ SoonS c s n L)∧∀ L,leastB c s n=some L→SoonS c s n L∧∀ L',SoonS c s n L'→cmpP L L'≤0:=by
 have h:=fill_spec hc n [] s hs (PlanOk.nil c) (fun k hk=>absurd hk (Nat.not_lt_zero _)) (fun y hy=>absurd hy (List.not_mem_nil))
 have e:∀ L,ExtS c [] s L ↔ PlanOk c L∧SoonOk c L∧setOf L=s:=fun L=>⟨fun h=>⟨h.plan,h.soon,(covS_iff hs).1 h.cov⟩,fun h=>⟨h.1,h.2.1,(covS_iff hs).2 h.2.2⟩⟩
 refine ⟨fun hn L hL=>h.1 hn L ((e L).2 ⟨hL.1,hL.2.1,hL.2.2.1⟩) hL.2.2.2,fun L hL=>?_⟩
 obtain ⟨a,b,d⟩:=h.2 L hL
 have a':=(e L).1 a
 exact ⟨⟨a'.1,a'.2.1,a'.2.2,b⟩,fun L' hL'=>d L' ((e L').2 ⟨hL'.1,hL'.2.1,hL'.2.2.1⟩) hL'.2.2.2⟩
/-- The least of all plans of n launches of one of some sets. -/
def LeastOf (C:List LaunchD→Prop) (r:Option (List LaunchD)):Prop:=(r=none→∀ L,¬ C L)∧∀ L,r=some L→C L∧∀ L',C L'→cmpP L L'≤0
theorem lessP_least {C D:List LaunchD→Prop} {b o:Option (List LaunchD)} (hb:LeastOf C b) (ho:LeastOf D o):LeastOf (fun L=>C L ∨ D L) (lessP b o):=by
 unfold lessP
 cases o with
 | none =>
  refine ⟨fun h L hL=>?_,fun L h=>⟨Or.inl (hb.2 L h).1,fun L' hL'=>?_⟩⟩
  ·rcases hL with hL | hL
   ·exact hb.1 h L hL
   ·exact ho.1 rfl L hL
  ·rcases hL' with hL' | hL'
   ·exact (hb.2 L h).2 L' hL'
   ·exact absurd hL' (ho.1 rfl L')
 | some p =>
  obtain ⟨o1,o2⟩:=ho.2 p rfl
  cases b with
  | none =>
   refine ⟨fun h=>by (cases h),fun L h=>?_⟩
   cases h
   refine ⟨Or.inr o1,fun L' hL'=>?_⟩
   rcases hL' with hL' | hL'
   ·exact absurd hL' (hb.1 rfl L')
   ·exact o2 L' hL'
  | some q =>
   obtain ⟨b1,b2⟩:=hb.2 q rfl
   dsimp only
   by_cases h:cmpP p q<0
   ·rw [if_pos h]
    refine ⟨fun h=>by (cases h),fun L h'=>?_⟩
    cases h'
    refine ⟨Or.inr o1,fun L' hL'=>?_⟩
    rcases hL' with hL' | hL'
    ·exact cmpP_le_trans (by omega) (b2 L' hL')
    ·exact o2 L' hL'
   ·rw [if_neg h]
    refine ⟨fun h=>by (cases h),fun L h'=>?_⟩
    cases h'
    refine ⟨Or.inl b1,fun L' hL'=>?_⟩
    rcases hL' with hL' | hL'
    ·exact b2 L' hL'
    ·refine cmpP_le_trans ?_ (o2 L' hL')
     rw [cmpP_swap p q];omega
theorem firstK_spec {c:CampD} (hc:campB c=true) (n:Nat) (l:List Nat) (hl:∀ s ∈ l,s<64):LeastOf (fun L=>∃ s ∈ l,SoonS c s n L) (firstK c l n):=by
 have key:∀ (l:List Nat),(∀ s ∈ l,s<64)→∀ (C:List LaunchD→Prop) (b:Option (List LaunchD)),LeastOf C b→LeastOf (fun L=>C L ∨ ∃ s ∈ l,SoonS c s n L) (l.foldl (fun best s=>lessP best (leastB c s n)) b):=by
  intro l
  induction l with
  | nil=>intro _ C b hb;exact ⟨fun h L hL=>by (rcases hL with hL | ⟨s,hs,_⟩;exact hb.1 h L hL;cases hs),fun L h=>⟨Or.inl (hb.2 L h).1,fun L' hL'=>by (rcases hL' with hL' | ⟨s,hs,_⟩;exact (hb.2 L h).2 L' hL';cases hs)⟩⟩
  | cons s l ih =>
   intro hl C b hb
   have h1:=lessP_least hb (least_spec hc (hl s (by simp)) n)
   have h2:=ih (fun t ht=>hl t (List.mem_cons_of_mem _ ht)) _ _ h1
   have e:∀ L,((C L ∨ SoonS c s n L) ∨ ∃ t ∈ l,SoonS c t n L) ↔ (C L ∨ ∃ t ∈ s :: l,SoonS c t n L):=by
    intro L
    constructor
    ·rintro ((h | h) | ⟨t,ht,h⟩)
     ·exact Or.inl h
     ·exact Or.inr ⟨s,by simp,h⟩
     ·exact Or.inr ⟨t,List.mem_cons_of_mem _ ht,h⟩
    ·rintro (h | ⟨t,ht,h⟩)
     ·exact Or.inl (Or.inl h)
     ·rcases List.mem_cons.1 ht with e | e
      ·subst e;exact Or.inl (Or.inr h)
      ·exact Or.inr ⟨t,e,h⟩
   exact ⟨fun h L hL=>h2.1 h L ((e L).2 hL),fun L h=>⟨(e L).1 (h2.2 L h).1,fun L' hL'=>(h2.2 L h).2 L' ((e L').2 hL')⟩⟩
 have h:=key l hl (fun _=>False) none ⟨fun _ _ h=>h,fun L h=>by (cases h)⟩
 exact ⟨fun hn L hL=>h.1 hn L (Or.inr hL),fun L hL=>⟨by (rcases (h.2 L hL).1 with h | h;exact h.elim;exact h),fun L' hL'=>(h.2 L hL).2 L' (Or.inr hL')⟩⟩
/-- The first of some sets' plans: the fewest launches, then the least. -/
theorem firstB_spec {c:CampD} (hc:campB c=true) (l:List Nat) (hl:∀ s ∈ l,s<64) :
  (firstB c l=none→∀ s ∈ l,∀ n L,¬ SoonS c s n L)∧∀ L,firstB c l=some L→(∃ s ∈ l,SoonS c s L.length L)∧∀ s ∈ l,∀ n L',SoonS c s n L'→orI (cmpI L.length L'.length) (cmpP L L')≤0:=by
 have hlen:∀ {s n L},SoonS c s n L→n<c.cargos.length+1:=fun {s n L} h=>by have:=planOk_len hc h.1;have:=h.2.2.2;omega
 unfold firstB
 constructor
 ·intro h s hs n L hL
  have:=List.findSome?_eq_none_iff.1 h n (List.mem_range.2 (hlen hL))
  exact (firstK_spec hc n l hl).1 this L ⟨s,hs,hL⟩
 ·intro L h
  have key:∀ (m:Nat) (k:Nat),(List.range' k m).findSome? (firstK c l)=some L→∃ n,k≤n∧firstK c l n=some L∧∀ j,k≤j→j<n→firstK c l j=none:=by
   intro m
   induction m with
   | zero=>intro k hh;simp at hh
   | succ m ih =>
    intro k hh
    rw [List.range'_succ,List.findSome?_cons] at hh
    cases e:firstK c l k with
    | some u =>
     rw [e] at hh
     exact ⟨k,Nat.le_refl _,by rw [e];exact hh,fun j h1 h2=>by omega⟩
    | none =>
     rw [e] at hh
     obtain ⟨n,h1,h2,h3⟩:=ih (k+1) hh
     exact ⟨n,by omega,h2,fun j h4 h5=>by
      by_cases e2:j=k
      ·subst e2;exact e
      ·exact h3 j (by omega) h5⟩
  rw [List.range_eq_range'] at h
  obtain ⟨n,_,h2,h3⟩:=key _ 0 h
  obtain ⟨⟨s,hs,hL⟩,h5⟩:=(firstK_spec hc n l hl).2 L h2
  have hn:=hL.2.2.2
  refine ⟨⟨s,hs,by rw [hn];exact hL⟩,fun t ht m L' hL'=>?_⟩
  have hm:=hL'.2.2.2
  have hle:n≤m:=by
   rcases Nat.lt_or_ge m n with hh | hh
   ·exact absurd ⟨t,ht,hL'⟩ ((firstK_spec hc m l hl).1 (h3 m (Nat.zero_le _) hh) L')
   ·exact hh
  rw [hn,hm]
  by_cases e:n=m
  ·subst e
   rw [show cmpI (n:Int) n=0 from cmpI_zero.2 rfl]
   unfold orI;rw [if_pos rfl]
   exact h5 L' ⟨t,ht,hL'⟩
  ·have:cmpI (n:Int) m<0:=cmpI_lt.2 (by omega)
   unfold orI;rw [if_neg (by omega)];omega
theorem rev_find {β:Type} {f:Int→Option β}:∀ {l:List Int},l.Pairwise (·<·)→∀ {b:β},l.reverse.findSome? f=some b→∃ v ∈ l,f v=some b∧∀ u ∈ l,v<u→f u=none:=by
 intro l
 induction l with
 | nil=>intro _ b h;simp at h
 | cons a l ih =>
  intro hp b h
  obtain ⟨p1,p2⟩:=List.pairwise_cons.1 hp
  rw [List.reverse_cons,List.findSome?_append] at h
  cases e:l.reverse.findSome? f with
  | some u =>
   rw [e] at h
   have hb:u=b:=by simpa using h
   subst hb
   obtain ⟨v,hv,h1,h2⟩:=ih p2 e
   refine ⟨v,List.mem_cons_of_mem _ hv,h1,fun u hu hlt=>?_⟩
   rcases List.mem_cons.1 hu with e2 | e2
   ·have:=p1 v hv;omega
   ·exact h2 u e2 hlt
  | none =>
   rw [e] at h
   have hb:f a=some b:=by simpa using h
   refine ⟨a,by simp,hb,fun u hu hlt=>?_⟩
   rcases List.mem_cons.1 hu with e2 | e2
   ·omega
   ·exact List.findSome?_eq_none_iff.1 e u (List.mem_reverse.2 e2)
theorem setsB_mem {c:CampD} {s:Nat}:s ∈ setsB c ↔ s<2 ^ c.cargos.length∧s &&& mustS c=mustS c:=by
 unfold setsB
 rw [List.mem_filter,List.mem_range,decide_eq_true_eq,Nat.one_shiftLeft]
/-- The program's best plan is the best. -/
theorem bestB_spec {c:CampD} (hc:campB c=true):BestOf c (SoonC c) (bestB c):=by
 have hn:=camp_len hc
 have h64:∀ v,∀ s ∈ (setsB c).filter (fun s=>decide (worthS c s=v)),s<64:=fun v s hs=>by
  have:=(setsB_mem.1 (List.mem_filter.1 hs).1).1
  have h2:2 ^ c.cargos.length≤2 ^ 6:=Nat.pow_le_pow_right (by decide) hn.2.2.2.2.2.1
  omega
 have hC:∀ {L},SoonC c L→setOf L ∈ (setsB c).filter (fun s=>decide (worthS c s=worthS c (setOf L)))∧worthS c (setOf L) ∈ valsI ((setsB c).map (worthS c))∧SoonS c (setOf L) L.length L∧(worthB c L).1=worthS c (setOf L):=by
  intro L h
  have hw:=worthB_set hc h.1
  have hcm:=h.2.2
  unfold compB at hcm
  rw [hw] at hcm
  have hs:setOf L ∈ setsB c:=setsB_mem.2 ⟨setOf_poss hc h.1,by simpa using hcm⟩
  exact ⟨List.mem_filter.2 ⟨hs,by simp⟩,valsI_mem.2 (List.mem_map.2 ⟨_,hs,rfl⟩),⟨h.1,h.2.1,rfl,rfl⟩,by rw [hw]⟩
 constructor
 ·intro h L hL
  obtain ⟨a,b,d,_⟩:=hC hL
  have:=List.findSome?_eq_none_iff.1 h (worthS c (setOf L)) (List.mem_reverse.2 b)
  exact (firstB_spec hc _ (h64 _)).1 this _ a _ L d
 ·intro L h
  obtain ⟨v,hv,h1,h2⟩:=rev_find (valsI_rise _) h
  obtain ⟨⟨s,hs,hL⟩,h4⟩:=(firstB_spec hc _ (h64 v)).2 L h1
  have hsm:=List.mem_filter.1 hs
  have hsv:worthS c s=v:=by simpa using hsm.2
  have hsm2:=(setsB_mem.1 hsm.1).2
  have hw:=worthB_set hc hL.1
  rw [hL.2.2.1] at hw
  refine ⟨⟨hL.1,hL.2.1,by unfold compB;rw [hw];simpa using hsm2⟩,fun L' hL'=>?_⟩
  obtain ⟨a,b,d,e⟩:=hC hL'
  unfold keyP
  rw [hw,e,hsv]
  dsimp only
  have hle:worthS c (setOf L')≤v:=by
   rcases Int.lt_or_le v (worthS c (setOf L')) with hh | hh
   ·have:=h2 _ b hh
    exact absurd d ((firstB_spec hc _ (h64 _)).1 this _ a _ L')
   ·exact hh
  by_cases ev:worthS c (setOf L')=v
  ·rw [ev,show cmpI v v=0 from cmpI_zero.2 rfl]
   rw [show orI 0 (orI (cmpI (L.length:Int) L'.length) (cmpP L L'))=orI (cmpI (L.length:Int) L'.length) (cmpP L L') from by unfold orI;rw [if_pos rfl]]
   rw [ev] at a
   exact h4 _ a _ L' d
  ·have:cmpI (worthS c (setOf L')) v<0:=cmpI_lt.2 (by omega)
   unfold orI;rw [if_neg (by omega)];omega
/-- The program's and the document's best plan are one. -/
theorem best_eq {c:CampD} (hc:campB c=true) (f:Nat) (hf:6<f):bestB c=searchB c f none []:=(bestB_spec hc).unique (search_best hc f hf)
end Go.Proofs.YtcnjenlojnognaaGreat
/- What is proved: the best plan is not beaten; which sets can be launched; a plan of fewer cargos; there is a best plan just if what must be launched can be. Conditions: the campaign is valid. -/
namespace Go.Proofs.YtcnjenlojnognaaGreat
open Go.RowKit

theorem setOf_perm {P Q:List LaunchD} (h:(Q.map (·.cargos)).Perm (P.map (·.cargos))):setOf Q=setOf P:=by
 refine nat_bits_eq fun i=>?_
 rw [Bool.eq_iff_iff,setOf_bit,setOf_bit]
 have key:∀ L:List LaunchD,(∃ x ∈ L,(i:Int) ∈ x.cargos) ↔ ∃ m ∈ L.map (·.cargos),(i:Int) ∈ m:=fun L=>⟨fun ⟨x,hx,hi⟩=>⟨_,List.mem_map.2 ⟨x,hx,rfl⟩,hi⟩,fun ⟨m,hm,hi⟩=>by obtain ⟨x,hx,rfl⟩:=List.mem_map.1 hm;exact ⟨x,hx,hi⟩⟩
 rw [key,key]
 constructor
 ·rintro ⟨h1,m,hm,hi⟩;exact ⟨h1,m,h.mem_iff.1 hm,hi⟩
 ·rintro ⟨h1,m,hm,hi⟩;exact ⟨h1,m,h.mem_iff.2 hm,hi⟩
/-- For each valid plan a soonest one of the same set that does not come behind it. -/
theorem soon_of {c:CampD} (hc:campB c=true) {P:List LaunchD} (h:PlanOk c P):∃ Q,SoonS c (setOf P) P.length Q∧cmpP Q P≤0:=by
 obtain ⟨Q,h1,h2,h3,h4⟩:=greedy hc _ P (Nat.le_refl _) h
 have hl:Q.length=P.length:=by have:=h3.length_eq;simpa using this
 exact ⟨Q,⟨h1,h2,setOf_perm h3,hl⟩,h4⟩
/-- No valid and complete plan is better than the best. -/
theorem best_beats {c:CampD} (hc:campB c=true) {L:List LaunchD} (h:PlanOk c L) (hL:compB c L=true):∃ B,bestB c=some B∧keyP c B L≤0:=by
 obtain ⟨Q,⟨q1,q2,q3,q4⟩,q5⟩:=soon_of hc h
 have hw:=worthB_set hc h
 have hwq:=worthB_set hc q1
 rw [q3] at hwq
 have hQ:SoonC c Q:=⟨q1,q2,by unfold compB at *;rw [hwq];rw [hw] at hL;exact hL⟩
 have hs:=bestB_spec hc
 cases e:bestB c with
 | none=>exact absurd hQ (hs.1 e Q)
 | some B =>
  refine ⟨B,rfl,keyP_le_trans ((hs.2 B e).2 Q hQ) ?_⟩
  unfold keyP
  rw [hw,hwq,q4,cmpI_zero.2 rfl,cmpI_zero.2 rfl]
  unfold orI
  rw [if_pos rfl,if_pos rfl];exact q5
theorem best_ok {c:CampD} (hc:campB c=true) {B:List LaunchD} (h:bestB c=some B):PlanOk c B∧compB c B=true∧worthB c B=(worthS c (setOf B),true,0):=by
 obtain ⟨a,_,d⟩:=((bestB_spec hc).2 B h).1
 refine ⟨a,d,?_⟩
 have:=worthB_set hc a
 unfold compB at d
 rw [this] at d ⊢
 dsimp only at d
 rw [d]
/-- Can the cargos of a set all be launched? -/
theorem canB_iff {c:CampD} (hc:campB c=true) {s:Nat} (hs:s<64):canB c s=true ↔ ∃ L,PlanOk c L∧setOf L=s:=by
 have h:=firstB_spec hc [s] (fun t ht=>by rw [List.mem_singleton.1 ht];exact hs)
 unfold canB
 constructor
 ·intro hh
  obtain ⟨L,hL⟩:=Option.isSome_iff_exists.1 hh
  obtain ⟨t,ht,a⟩:=(h.2 L hL).1
  rw [List.mem_singleton.1 ht] at a
  exact ⟨L,a.1,a.2.2.1⟩
 ·rintro ⟨L,h1,h2⟩
  obtain ⟨Q,q,_⟩:=soon_of hc h1
  rw [h2] at q
  cases e:firstB c [s] with
  | some _=>rfl
  | none=>exact absurd q (h.1 e s (by simp) _ Q)
/-- A launch of fewer cargos. -/
def onlyL (t:Nat) (x:LaunchD):LaunchD:={ x with cargos:=x.cargos.filter fun i=>t.testBit i.toNat }
theorem massL_sub {c:CampD} (hc:campB c=true):∀ {l m:List Int} (n n':Int),l.Sublist m→n≤n'→l.foldl (fun n i=>n+(c.cargo i).mass) n≤m.foldl (fun n i=>n+(c.cargo i).mass) n':=by
 intro l m n n' h
 induction h generalizing n n' with
 | slnil=>exact fun h=>h
 | cons a _ ih =>
  intro hn
  rw [List.foldl_cons]
  have:=(camp_cargo hc a).1
  exact ih n _ (by omega)
 | cons_cons a _ ih =>
  intro hn
  rw [List.foldl_cons,List.foldl_cons]
  exact ih _ _ (by omega)
theorem onlyL_poss {c:CampD} (hc:campB c=true) {t:Nat} {x:LaunchD} (h:possB c x=true) (hn:(onlyL t x).cargos ≠ []):possB c (onlyL t x)=true:=by
 have hp:=possB_parts h
 have hsub:(onlyL t x).cargos.Sublist x.cargos:=List.filter_sublist
 have hr:=risingB_pair.1 hp.2.2.2.2.2.2.2.2.1
 refine possB_of hp.1 hp.2.1 hp.2.2.1 hp.2.2.2.1 hp.2.2.2.2.1 hp.2.2.2.2.2.1 hp.2.2.2.2.2.2.1 hn (risingB_pair.2 ⟨hr.1.sublist hsub,fun i hi=>hr.2 i (hsub.subset hi)⟩) (fun i hi=>hp.2.2.2.2.2.2.2.2.2.1 i (hsub.subset hi)) ?_
 have:=massL_sub hc 0 0 hsub (Int.le_refl _)
 exact Int.le_trans this hp.2.2.2.2.2.2.2.2.2.2
/-- Fewer cargos can be launched where more can. -/
theorem plan_less {c:CampD} (hc:campB c=true) {L:List LaunchD} (h:PlanOk c L) {t:Nat} (ht:∀ i,t.testBit i=true→(setOf L).testBit i=true):∃ M,PlanOk c M∧setOf M=t:=by
 have hmem:∀ z,z ∈ (L.map (onlyL t)).filter (fun x=>!x.cargos.isEmpty) ↔ ∃ x ∈ L,onlyL t x=z∧z.cargos ≠ []:=by
  intro z
  rw [List.mem_filter,List.mem_map,Bool.not_eq_true',List.isEmpty_eq_false_iff]
  constructor
  ·rintro ⟨⟨x,hx,e⟩,hn⟩;exact ⟨x,hx,e,hn⟩
  ·rintro ⟨x,hx,e,hn⟩;exact ⟨⟨x,hx,e⟩,hn⟩
 refine ⟨sortL ((L.map (onlyL t)).filter fun x=>!x.cargos.isEmpty),planOk_sort ?_ ?_,?_⟩
 ·intro z hz
  obtain ⟨x,hx,rfl,hn⟩:=(hmem z).1 hz
  exact onlyL_poss hc (h.poss x hx) hn
 ·refine List.Pairwise.filter _ (List.pairwise_map.2 (h.fit.imp ?_))
  intro y x f
  exact ⟨fun i hi hy=>f.apart i (List.mem_filter.1 hi).1 (List.mem_filter.1 hy).1,f.craft,f.pad⟩
 ·refine nat_bits_eq fun i=>?_
  rw [Bool.eq_iff_iff,setOf_bit]
  have hL:=setOf_bit L i
  constructor
  ·rintro ⟨h6,z,hz,hi⟩
   obtain ⟨x,hx,rfl,_⟩:=(hmem z).1 ((sortL_perm _).mem_iff.1 hz)
   have:=(List.mem_filter.1 hi).2
   simpa using this
  ·intro hi
   obtain ⟨h6,x,hx,hix⟩:=hL.1 (ht i hi)
   have hm:(i:Int) ∈ (onlyL t x).cargos:=List.mem_filter.2 ⟨hix,by simpa using hi⟩
   exact ⟨h6,onlyL t x,(sortL_perm _).mem_iff.2 ((hmem _).2 ⟨x,hx,rfl,fun e=>by rw [e] at hm;cases hm⟩),hm⟩
theorem mustS_lt {c:CampD} (hc:campB c=true):mustS c<64:=by
 have hn:=camp_len hc
 refine bit_lt64 fun i hi=>?_
 rw [mustS_bit,decide_eq_false (by omega),Bool.false_and]
/-- There is no best plan just if what must be launched cannot be. -/
theorem best_none {c:CampD} (hc:campB c=true):bestB c=none ↔ canB c (mustS c)=false:=by
 have hcan:=canB_iff hc (mustS_lt hc)
 constructor
 ·intro h
  cases e:canB c (mustS c) with
  | false=>rfl
  | true =>
   obtain ⟨L,h1,h2⟩:=hcan.1 e
   obtain ⟨B,hB,_⟩:=best_beats hc h1 (by
    unfold compB
    rw [worthB_set hc h1,h2]
    dsimp only
    rw [Nat.and_self];simp)
   rw [h] at hB;cases hB
 ·intro h
  cases e:bestB c with
  | none=>rfl
  | some B =>
   obtain ⟨h1,h2,h3⟩:=best_ok hc e
   have hw:=worthB_set hc h1
   rw [h3] at hw
   have hm:decide (setOf B &&& mustS c=mustS c)=true:=(congrArg (fun p:Int × Bool × Int=>p.2.1) hw).symm
   rw [decide_eq_true_eq,Nat.and_comm,and_sub] at hm
   obtain ⟨M,m1,m2⟩:=plan_less hc h1 hm
   rw [hcan.2 ⟨M,m1,m2⟩] at h;cases h
theorem can_less {c:CampD} (hc:campB c=true) {s t:Nat} (hs:s<64) (ht:∀ i,t.testBit i=true→s.testBit i=true) (h:canB c s=true):canB c t=true:=by
 obtain ⟨L,h1,h2⟩:=(canB_iff hc hs).1 h
 have ht64:t<64:=bit_lt64 fun i hi=>by
  cases e:t.testBit i with
  | false=>rfl
  | true=>have:=ht i e;rw [lt64_bit hs hi] at this;cases this
 exact (canB_iff hc ht64).2 (plan_less hc h1 fun i hi=>by rw [h2];exact ht i hi)
end Go.Proofs.YtcnjenlojnognaaGreat
