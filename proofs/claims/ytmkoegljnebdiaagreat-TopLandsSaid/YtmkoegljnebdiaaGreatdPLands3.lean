/- What is proved: the texts Fr Fw Ft Wa Wb Wc Wd Wi We Wf, one behind the other; each says at its head what it proves, and under which conditions. -/
import Derived.RangeFuncNested
import Derived.RangeFuncBound
import Derived.RangeFuncCalls
import Derived.RangeFuncLeaves
import Derived.RangeFuncFrom
import Derived.Shelf.Abstract
import Derived.Shelf.RegionOpen
import Derived.Sort.QuietIn
import Derived.OwnWalkIn
import Derived.TacticsInMore
import Derived.LoopNIn
import Derived.LoopIn
import Derived.Test.YtmkoegljnebdiaaGreatdPLands2
namespace Go.Proofs.YtmkoegljnebdiaaGreat
open Go.RowKit
set_option maxRecDepth 100000
set_option maxHeartbeats 16000000

/-- Cells that are numbers. -/
def iC (l:List Int):Array Value:=(l.map (Value.int .i64)).toArray
theorem dep {a b c:Value} (h:a=b∧b=c):a=c:=h.1.trans h.2
/-- A block: its number, type and cells. -/
abbrev Ent:=Nat × TypeId × Array Value
/-- w is W, but that the old blocks O have turned, and the new blocks N are there (and others). -/
structure Fr (W:World) (O N:List Ent) (w:World):Prop where
 os:w.os=W.os
 tape:w.tape=W.tape
 output:w.output=W.output
 size:W.heap.size≤w.heap.size
 far:∀ b,b<W.heap.size→b ∉ O.map (·.1)→w.heap[b]?=W.heap[b]?
 old:∀ x ∈ O,x.1<W.heap.size∧Bk w x.1 x.2.1 x.2.2
 new:∀ x ∈ N,W.heap.size≤x.1∧Bk w x.1 x.2.1 x.2.2
 ndO:(O.map (·.1)).Nodup
 ndN:(N.map (·.1)).Nodup

theorem Fr.start (W:World):Fr W [] [] W :=
 ⟨rfl,rfl,rfl,Nat.le_refl _,fun _ _ _=>rfl,fun _ h=>(List.not_mem_nil h).elim,fun _ h=>(List.not_mem_nil h).elim,List.nodup_nil,List.nodup_nil⟩
theorem Fr.start1 {W:World} {b:Nat} {t:TypeId} {cs:Array Value} (h:Bk W b t cs):Fr W [(b,t,cs)] [] W :=
 ⟨rfl,rfl,rfl,Nat.le_refl _,fun _ _ _=>rfl,fun x hx=>by obtain rfl:=List.mem_singleton.1 hx;exact ⟨h.lt,h⟩,fun _ h=>(List.not_mem_nil h).elim,by simp,List.nodup_nil⟩
section
variable {W w w':World} {O N X:List Ent} {b:Nat} {t t':TypeId} {cs cs':Array Value}
theorem Fr.below (h:Fr W O N w) (k:Below w.heap.size w w'):Fr W O N w' :=
 ⟨k.os.trans h.os,k.tape.trans h.tape,k.output.trans h.output,Nat.le_trans h.size k.size,fun i hi hx=>(k.block i (Nat.lt_of_lt_of_le hi h.size)).trans (h.far i hi hx),
  fun x hx=>⟨(h.old x hx).1,(h.old x hx).2.below k (h.old x hx).2.lt⟩,fun x hx=>⟨(h.new x hx).1,(h.new x hx).2.below k (h.new x hx).2.lt⟩,h.ndO,h.ndN⟩
theorem Fr.drewN (h:Fr W O N w) (n:Nat):Fr W O N (w.drewN n):=h.below (below_drewN (Below.refl _ _) n)
theorem Fr.drew (h:Fr W O N w):Fr W O N w.drew:=h.below (Below.refl _ _).drew
theorem Fr.getO (h:Fr W O N w) (i:Nat) (hi:O[i]?=some (b,t,cs)):Bk w b t cs:=(h.old _ (List.mem_of_getElem? hi)).2
theorem Fr.get (h:Fr W O N w) (i:Nat) (hi:N[i]?=some (b,t,cs)):Bk w b t cs:=(h.new _ (List.mem_of_getElem? hi)).2
theorem Fr.ge (h:Fr W O N w) (i:Nat) (hi:N[i]?=some (b,t,cs)):W.heap.size≤b:=(h.new _ (List.mem_of_getElem? hi)).1
theorem Fr.alloc (h:Fr W O N w) {g:Nat} (hg:g=w.heap.size) (t:TypeId) (cs:Array Value):Fr W O (N ++ [(g,t,cs)]) (w.alloc (.cells cs t)):=by
 subst hg
 have hb:Below w.heap.size w (w.alloc (.cells cs t)):=(Below.refl _ _).alloc (Nat.le_refl _) _
 have h2:=h.below hb
 refine ⟨h2.os,h2.tape,h2.output,h2.size,h2.far,h2.old,fun x hx=>?_,h.ndO,?_⟩
 ·rcases List.mem_append.1 hx with hx | hx
  ·exact h2.new x hx
  ·obtain rfl:=List.mem_singleton.1 hx;exact ⟨h.size,Bk.new _ _ _⟩
 ·rw [List.map_append,List.nodup_append]
  refine ⟨h.ndN,by simp,fun a ha c hc=>?_⟩
  obtain ⟨x,hx,rfl⟩:=List.mem_map.1 ha
  simp at hc
  have:=(h.new x hx).2.lt
  omega
theorem map_set_fst {α β:Type} {L:List (α × β)} {i:Nat} {x:α × β} (hi:L[i]?=some x) (y:β):(L.set i (x.1,y)).map (·.1)=L.map (·.1):=by
 rw [List.map_set]
 apply List.ext_getElem?
 intro j
 rw [List.getElem?_set]
 by_cases e:i=j
 ·subst e
  have hl:=(List.getElem?_eq_some_iff.1 hi).1
  rw [if_pos rfl,if_pos (by simpa using hl),List.getElem?_map,hi];rfl
 ·rw [if_neg e]
theorem mem_set_ne {α β:Type} {L:List (α × β)} {i:Nat} {a:α} {y z:β} (hn:(L.map (·.1)).Nodup) (hi:L[i]?=some (a,y)) {x:α × β} (hx:x ∈ L.set i (a,z)):x=(a,z) ∨ x ∈ L∧x.1 ≠ a:=by
 obtain ⟨j,hj⟩:=List.getElem?_of_mem hx
 rw [List.getElem?_set] at hj
 by_cases e:i=j
 ·rw [if_pos e] at hj
  split at hj
  ·left;exact (Option.some.inj hj).symm
  ·cases hj
 ·rw [if_neg e] at hj
  refine Or.inr ⟨List.mem_of_getElem? hj,fun hxa=>e ?_⟩
  have h1:=(List.getElem?_eq_some_iff.1 hi).1
  have h2:=(List.getElem?_eq_some_iff.1 hj).1
  have hp:=List.pairwise_iff_getElem.1 hn
  have e1:(L.map (·.1))[i]'(by simpa using h1)=a:=by rw [List.getElem_map,(List.getElem?_eq_some_iff.1 hi).2]
  have e2:(L.map (·.1))[j]'(by simpa using h2)=a:=by rw [List.getElem_map,(List.getElem?_eq_some_iff.1 hj).2];exact hxa
  rcases Nat.lt_trichotomy i j with g | g | g
  ·exact absurd (e1.trans e2.symm) (hp i j (by simpa using h1) (by simpa using h2) g)
  ·exact g
  ·exact absurd (e2.trans e1.symm) (hp j i (by simpa using h2) (by simpa using h1) g)
/-- A call that has turned one block: of the new ones. -/
theorem Fr.turn (h:Fr W O N w) (i:Nat) (hi:N[i]?=some (b,t,cs)) (k:Fr w [(b,t',cs')] [] w'):Fr W O (N.set i (b,t',cs')) w':=by
 have hbw:=(h.new _ (List.mem_of_getElem? hi)).1
 have far:∀ c,c<w.heap.size→c ≠ b→w'.heap[c]?=w.heap[c]?:=fun c hc hcb=>k.far c hc (by simpa using hcb)
 refine ⟨k.os.trans h.os,k.tape.trans h.tape,k.output.trans h.output,Nat.le_trans h.size k.size,fun c hc hx=>(far c (Nat.lt_of_lt_of_le hc h.size) (by have:W.heap.size≤b:=hbw;omega)).trans (h.far c hc hx),
  fun x hx=>⟨(h.old x hx).1,?_⟩,fun x hx=>?_,h.ndO,by rw [map_set_fst (x:=(b,t,cs)) hi];exact h.ndN⟩
 ·have h1:=(h.old x hx).1
  exact (far x.1 (h.old x hx).2.lt (by have:W.heap.size≤b:=hbw;omega)).trans (h.old x hx).2
 ·rcases mem_set_ne h.ndN hi hx with rfl | ⟨h1,h2⟩
  ·exact ⟨hbw,(k.old _ (List.mem_singleton.2 rfl)).2⟩
  ·exact ⟨(h.new x h1).1,(far x.1 (h.new x h1).2.lt h2).trans (h.new x h1).2⟩
/-- A call that has turned one block: of the old ones. -/
theorem Fr.turnO (h:Fr W O N w) (i:Nat) (hi:O[i]?=some (b,t,cs)) (k:Fr w [(b,t',cs')] [] w'):Fr W (O.set i (b,t',cs')) N w':=by
 have hbw:=(h.old _ (List.mem_of_getElem? hi)).1
 have far:∀ c,c<w.heap.size→c ≠ b→w'.heap[c]?=w.heap[c]?:=fun c hc hcb=>k.far c hc (by simpa using hcb)
 have hmem:b ∈ O.map (·.1):=List.mem_map.2 ⟨_,List.mem_of_getElem? hi,rfl⟩
 refine ⟨k.os.trans h.os,k.tape.trans h.tape,k.output.trans h.output,Nat.le_trans h.size k.size,fun c hc hx=>?_,
  fun x hx=>?_,fun x hx=>⟨(h.new x hx).1,?_⟩,by rw [map_set_fst (x:=(b,t,cs)) hi];exact h.ndO,h.ndN⟩
 ·rw [map_set_fst (x:=(b,t,cs)) hi] at hx
  exact (far c (Nat.lt_of_lt_of_le hc h.size) (fun e=>hx (e ▸ hmem))).trans (h.far c hc hx)
 ·rcases mem_set_ne h.ndO hi hx with rfl | ⟨h1,h2⟩
  ·exact ⟨hbw,(k.old _ (List.mem_singleton.2 rfl)).2⟩
  ·exact ⟨(h.old x h1).1,(far x.1 (h.old x h1).2.lt h2).trans (h.old x h1).2⟩
 ·have h1:=(h.new x hx).1
  exact (far x.1 (h.new x hx).2.lt (by have:b<W.heap.size:=hbw;omega)).trans (h.new x hx).2
theorem Fr.ofOnly (hb:b<w.heap.size) (k:Only b w w') (hk:Bk w' b t' cs'):Fr w [(b,t',cs')] [] w' :=
 ⟨k.os,k.tape,k.output,by rw [k.size];exact Nat.le_refl _,fun c _ hx=>k.block c (by simpa using hx),fun x hx=>by obtain rfl:=List.mem_singleton.1 hx;exact ⟨hb,hk⟩,fun _ h=>(List.not_mem_nil h).elim,by simp,List.nodup_nil⟩
theorem Fr.only (h:Fr W O N w) (i:Nat) (hi:N[i]?=some (b,t,cs)) (k:Only b w w') (hk:Bk w' b t' cs'):Fr W O (N.set i (b,t',cs')) w' :=
 h.turn i hi (Fr.ofOnly (h.get i hi).lt k hk)
theorem Fr.onlyO (h:Fr W O N w) (i:Nat) (hi:O[i]?=some (b,t,cs)) (k:Only b w w') (hk:Bk w' b t' cs'):Fr W (O.set i (b,t',cs')) N w' :=
 h.turnO i hi (Fr.ofOnly (h.getO i hi).lt k hk)
theorem Fr.drop (h:Fr W O N w):Fr W O [] w:=⟨h.os,h.tape,h.output,h.size,h.far,h.old,fun _ h=>(List.not_mem_nil h).elim,h.ndO,List.nodup_nil⟩
theorem Fr.sub (h:Fr W O N w) (hX:X.Sublist N):Fr W O X w:=⟨h.os,h.tape,h.output,h.size,h.far,h.old,fun x hx=>h.new x (hX.subset hx),h.ndO,h.ndN.sublist (hX.map _)⟩
theorem Fr.left (h:Fr W O (N ++ X) w):Fr W O N w:=h.sub (List.sublist_append_left _ _)
theorem Fr.toBelow (h:Fr W [] N w):Below W.heap.size W w:=⟨h.os,h.tape,h.output,h.size,fun c hc=>h.far c hc (by simp)⟩
theorem Fr.belowAt {B:Nat} (h:Fr W O N w) (hO:∀ x ∈ O,B≤x.1) (hB:B≤W.heap.size):Below B W w :=
 ⟨h.os,h.tape,h.output,h.size,fun c hc=>h.far c (by omega) (fun hm=>by obtain ⟨x,hx,rfl⟩:=List.mem_map.1 hm;have:=hO x hx;omega)⟩
end

/-- The block of a pointer, of a slice. -/
def gOf:Value→Nat
 | .pointer (some p)=>p.block
 | .slice (some p) _ _=>p.block
 | _=>0
/-- An operation of a region that makes a block: its place, the block's type, its cells at each stage. -/
abbrev AEnt:=Nat × TypeId × (Nat→Array Value)
def aTab (A:List AEnt) (dn:Nat→Bool) (vs:Nat→Value) (k:Nat):List Ent:=(A.filter fun x=>dn x.1).map fun x=>(gOf (vs x.1),x.2.1,x.2.2 k)
def aAll (A:List AEnt) (vs:Nat→Value) (k:Nat):List Ent:=A.map fun x=>(gOf (vs x.1),x.2.1,x.2.2 k)
inductive Kind where
 | p
 | a (j:Nat)
 | c (s:Nat)
/-- Each operation is of its kind: it makes block j of A; it is stage s of the chain C, each of which waits for the one before; or neither. -/
def kindOk (l:List Oper) (C:List Nat) (A:List Nat):List Kind→Nat→Bool
 | [],i=>i == l.length
 | .p :: ks,i=>!C.contains i && !A.contains i && kindOk l C A ks (i+1)
 | .a j :: ks,i=>(A[j]? == some i) && !C.contains i && kindOk l C A ks (i+1)
 | .c s :: ks,i=>(C[s]? == some i) && !A.contains i && (s == 0 || (match C[s - 1]? with | some m=>afterI l i m | none=>false)) && kindOk l C A ks (i+1)
def chainOk (l:List Oper) (C:List Nat):Bool:=(List.range C.length).all fun s=>match C[s]? with | some i=>decide (i<l.length) && (List.range C.length).all fun s'=>s == s' || !(C[s']? == some i) | none=>false

section
variable (P:Program) (l:List Oper) (Q:Exit→Act→World→Prop) (a0:Act) (W:World) (O N:Nat→List Ent) (A:List AEnt) (C:List Nat) (R:Nat→Value→(Nat→Value)→Prop)
/-- What is known when operation i comes up, at stage k. -/
structure RS (i:Nat) (dn:Nat→Bool) (vs:Nat→Value) (k:Nat) (w:World):Prop where
 fr:Fr W (O k) (N k ++ aTab A dn vs k) w
 kle:k≤C.length
 hi:∀ p m,C[p]?=some m→(m == i || afterI l m i)=true→k≤p
 lo:∀ p m,C[p]?=some m→afterI l i m=true→p<k
 done:∀ j,afterI l i j=true→dn j=true
def StepF (i:Nat) (o:Oper) (pre:Nat→Prop) (post:(Nat→Bool)→(Nat→Value)→Nat→Value→World→World→Prop):Prop :=
 ∀ (a:Act) (w:World) (vs:Nat→Value) (dn:Nat→Bool) (k:Nat) (K:Act→World→Prop),RS l W O N A C i dn vs k w→pre k →
  (∀ t,keepB l i t=true→a.tmps[t]?.getD undef=a0.tmps[t]?.getD undef) →
  (∀ j oj d,l[j]?=some oj→oj.dst=some d→afterB o j=true→a.tmps[d]?.getD undef=vs j∧R j (vs j) (maskV oj vs)) →
  (∀ v w',(o.dst=none→v=undef)→post dn vs k v w w'→R i v (maskV o vs)→K (a.put o.dst v) w') →
  if Region.wanted o (yielded l.toArray a.tmps) then o.wp P a w K Q else K (a.put o.dst undef) w
def StepsF:List Kind→List Oper→Nat→Prop
 | .p :: ks,o :: r,i=>StepF P l Q a0 W O N A C R i o (fun _=>True) (fun _ _ _ _ w w'=>Below w.heap.size w w')∧StepsF ks r (i+1)
 | .a j :: ks,o :: r,i=>StepF P l Q a0 W O N A C R i o (fun _=>True) (fun dn vs k v _ w'=>match A[j]? with | some x=>Fr W (O k) ((N k ++ aTab A dn vs k) ++ [(gOf v,x.2.1,x.2.2 k)]) w' | none=>False)∧StepsF ks r (i+1)
 | .c s :: ks,o :: r,i=>StepF P l Q a0 W O N A C R i o (fun k=>k=s) (fun dn vs _ _ _ w'=>Fr W (O (s+1)) (N (s+1) ++ aTab A dn vs (s+1)) w')∧StepsF ks r (i+1)
 | [],[],_=>True
 | _,_,_=>False
end
theorem frE {W w u:World} {O N:List Ent} (e:w=u) (h:Fr W O N w):Fr W O N u:=e ▸ h
theorem bR {w:World}:Below w.heap.size w w:=Below.refl _ _
theorem Fr.perm {W w:World} {O N N':List Ent} (h:Fr W O N w) (hp:N.Perm N'):Fr W O N' w :=
 ⟨h.os,h.tape,h.output,h.size,h.far,h.old,fun x hx=>h.new x (hp.mem_iff.2 hx),h.ndO,(hp.map _).nodup_iff.1 h.ndN⟩
theorem aTab_same {A:List AEnt} {dn:Nat→Bool} {vs:Nat→Value} {k i:Nat} {v:Value} (hi:∀ x ∈ A,x.1 ≠ i):aTab A (updB dn i) (updV vs i v) k=aTab A dn vs k:=by
 unfold aTab
 have e1:(A.filter fun x=>updB dn i x.1)=A.filter fun x=>dn x.1:=List.filter_congr fun x hx=>by unfold updB;rw [if_neg (hi x hx)]
 rw [e1]
 refine List.map_congr_left fun x hx=>?_
 unfold updV;rw [if_neg (hi x (List.mem_filter.1 hx).1)]
theorem aTab_more {dn:Nat→Bool} {vs:Nat→Value} {k i:Nat} {v:Value} (hdn:dn i=false):∀ {A:List AEnt} {j:Nat} {x:AEnt},(A.map (·.1)).Nodup→A[j]?=some x→x.1=i →
  (aTab A dn vs k ++ [(gOf v,x.2.1,x.2.2 k)]).Perm (aTab A (updB dn i) (updV vs i v) k)
 | [],j,x,_,h,_=>by simp at h
 | y :: A,0,x,hn,h,hx=>by
  simp at h
  subst h
  rw [List.map_cons,List.nodup_cons] at hn
  have hne:∀ z ∈ A,z.1 ≠ i:=fun z hz e=>hn.1 (List.mem_map.2 ⟨z,hz,e.trans hx.symm⟩)
  have e1:aTab (y :: A) dn vs k=aTab A dn vs k:=by unfold aTab;rw [List.filter_cons_of_neg (by rw [hx];simp [hdn])]
  have e2:aTab (y :: A) (updB dn i) (updV vs i v) k=(gOf v,y.2.1,y.2.2 k) :: aTab A dn vs k:=by
   rw [← aTab_same (dn:=dn) (vs:=vs) (v:=v) (k:=k) hne]
   unfold aTab
   rw [List.filter_cons_of_pos (by unfold updB;rw [hx];simp),List.map_cons]
   congr 1
   unfold updV;rw [if_pos hx]
  rw [e1,e2]
  exact List.perm_append_comm
 | y :: A,j+1,x,hn,h,hx=>by
  rw [List.map_cons,List.nodup_cons] at hn
  have hxm:x ∈ A:=List.mem_of_getElem? (by simpa using h)
  have hyi:y.1 ≠ i:=fun e=>hn.1 (List.mem_map.2 ⟨x,hxm,hx.trans e.symm⟩)
  have ih:=aTab_more (k:=k) (v:=v) (vs:=vs) hdn hn.2 (by simpa using h) hx
  unfold aTab at ih ⊢
  by_cases hd:dn y.1=true
  ·rw [List.filter_cons_of_pos (by simpa using hd),List.filter_cons_of_pos (by unfold updB;rw [if_neg hyi];simpa using hd),List.map_cons,List.map_cons,List.cons_append]
   rw [show updV vs i v y.1=vs y.1 from by unfold updV;rw [if_neg hyi]]
   exact ih.cons _
  ·rw [List.filter_cons_of_neg (by simpa using hd),List.filter_cons_of_neg (by unfold updB;rw [if_neg hyi];simpa using hd)]
   exact ih
section
variable {P:Program} {l:List Oper} {Q:Exit→Act→World→Prop} {a0:Act} {W:World} {O N:Nat→List Ent} {A:List AEnt} {C:List Nat} {R:Nat→Value→(Nat→Value)→Prop}
theorem StepsOkJ.of {J:(Nat→Bool)→(Nat→Value)→World→Prop} {E:Nat→World→World→Prop} {R:Nat→Value→(Nat→Value)→World→Prop}:∀ (r:List Oper) (k:Nat),(∀ i o,r[i]?=some o→StepOkJ P l Q a0 J E R (k+i) o)→StepsOkJ P l Q a0 J E R r k
 | [],_,_=>trivial
 | o :: r,k,h=>⟨h 0 o rfl,StepsOkJ.of r (k+1) fun i x hx=>by have:=h (i+1) x (by simpa using hx);rwa [show k+(i+1)=k+1+i from by omega] at this⟩
theorem afterI_anc {m i:Nat} (_:m<l.length) (hi:i<l.length) (h:afterI l m i=true):ancB l l.length m i=true:=by
 obtain ⟨n,hn⟩:∃ n,l.length=n+1:=⟨l.length - 1,by omega⟩
 rw [hn,ancB,List.any_eq_true]
 exact ⟨i,List.mem_range.2 hi,by simp [h]⟩
theorem afterI_lt {m i:Nat} (h:afterI l m i=true):m<l.length:=by
 unfold afterI at h
 cases e:l[m]? with
 | none=>rw [e] at h;cases h
 | some o=>exact (List.getElem?_eq_some_iff.1 e).1
theorem rs_of {i:Nat} {o:Oper} (hio:l[i]?=some o) {dn:Nat→Bool} {vs:Nat→Value} {k:Nat} {w:World} (hb:∀ m,dn m=true→i ≠ m∧ancB l l.length m i=false) (hb2:∀ j,afterB o j=true→dn j=true)
  (hk:k≤C.length) (hc:∀ p m,C[p]?=some m→dn m=decide (p<k)) (hf:Fr W (O k) (N k ++ aTab A dn vs k) w):RS l W O N A C i dn vs k w:=by
 have hil:=(List.getElem?_eq_some_iff.1 hio).1
 have hai:∀ j,afterI l i j=true→afterB o j=true:=fun j hj=>by unfold afterI at hj;rw [hio] at hj;exact hj
 refine ⟨hf,hk,fun p m hm h=>?_,fun p m hm h=>?_,fun j hj=>hb2 j (hai j hj)⟩
 ·rcases Nat.lt_or_ge p k with g | g
  ·exfalso
   have hd:dn m=true:=by rw [hc p m hm];simpa using g
   obtain ⟨h1,h2⟩:=hb m hd
   rw [Bool.or_eq_true] at h
   rcases h with h | h
   ·exact h1 (by simpa using h:m=i).symm
   ·rw [afterI_anc (afterI_lt h) hil h] at h2;cases h2
  ·exact g
 ·have:=hb2 m (hai m h)
  rw [hc p m hm] at this
  simpa using this
theorem aTab_all {dn:Nat→Bool} {vs:Nat→Value} {k:Nat} (h:∀ x ∈ A,dn x.1=true):aTab A dn vs k=aAll A vs k:=by
 unfold aTab aAll
 rw [List.filter_eq_self.2 h]
theorem StepsF.ok (hch:chainOk l C=true) (hAn:(A.map (·.1)).Nodup):∀ (ks:List Kind) (r:List Oper) (i:Nat),(∀ j o,r[j]?=some o→l[i+j]?=some o)→kindOk l C (A.map (·.1)) ks i=true→StepsF P l Q a0 W O N A C R ks r i →
  ∀ j o,r[j]?=some o→StepOkJ P l Q a0 (fun dn vs w=>∃ k,k≤C.length∧(∀ p m,C[p]?=some m→dn m=decide (p<k))∧Fr W (O k) (N k ++ aTab A dn vs k) w) (fun _ _ _=>True) (fun i v d _=>R i v d) (i+j) o
 | ks,[],i,_,_,_,j,o,ho=>by simp at ho
 | [],o :: r,i,_,_,hs,_,_,_=>by simp [StepsF] at hs
 | kd :: ks,o :: r,i,hl,hk,hs,j+1,x,hx=>by
  rw [show i+(j+1)=i+1+j from by omega]
  have hl':∀ j o,r[j]?=some o→l[i+1+j]?=some o:=fun j o' h=>by have:=hl (j+1) o' (by simpa using h);rwa [show i+(j+1)=i+1+j from by omega] at this
  cases kd with
  | p=>unfold kindOk at hk;unfold StepsF at hs;rw [Bool.and_eq_true] at hk;exact StepsF.ok hch hAn ks r (i+1) hl' hk.2 hs.2 j x (by simpa using hx)
  | a q=>unfold kindOk at hk;unfold StepsF at hs;rw [Bool.and_eq_true] at hk;exact StepsF.ok hch hAn ks r (i+1) hl' hk.2 hs.2 j x (by simpa using hx)
  | c q=>unfold kindOk at hk;unfold StepsF at hs;rw [Bool.and_eq_true] at hk;exact StepsF.ok hch hAn ks r (i+1) hl' hk.2 hs.2 j x (by simpa using hx)
 | kd :: ks,o :: r,i,hl,hk,hs,0,x,hx=>by
  simp at hx
  subst hx
  have hio:l[i]?=some o:=hl 0 o rfl
  rw [Nat.add_zero]
  intro a w vs K dn hb hb2 hJ hkp hd _ hK
  obtain ⟨k,hkl,hc,hf⟩:=hJ
  have hrs:=rs_of hio hb hb2 hkl hc hf
  have hdi:dn i=false:=by
   cases e:dn i with
   | false=>rfl
   | true=>exact absurd rfl (hb i e).1
  cases kd with
  | p =>
   unfold kindOk at hk;unfold StepsF at hs
   simp only [Bool.and_eq_true,Bool.not_eq_true',List.contains_eq_mem,decide_eq_false_iff_not] at hk
   refine hs.1 a w vs dn k K hrs trivial hkp hd fun v w' h1 h2 h3=>hK v w' h1 ⟨k,hkl,fun p m hm=>?_,?_⟩ trivial h3
   ·unfold updB
    rw [if_neg (fun e:m=i=>hk.1.1 (by rw [← e];exact List.mem_of_getElem? hm)),hc p m hm]
   ·rw [aTab_same (fun x hx e=>hk.1.2 (List.mem_map.2 ⟨x,hx,e⟩))]
    exact hf.below h2
  | a q =>
   unfold kindOk at hk;unfold StepsF at hs
   simp only [Bool.and_eq_true,Bool.not_eq_true',List.contains_eq_mem,decide_eq_false_iff_not,beq_iff_eq] at hk
   refine hs.1 a w vs dn k K hrs trivial hkp hd fun v w' h1 h2 h3=>hK v w' h1 ⟨k,hkl,fun p m hm=>?_,?_⟩ trivial h3
   ·unfold updB
    rw [if_neg (fun e:m=i=>hk.1.2 (by rw [← e];exact List.mem_of_getElem? hm)),hc p m hm]
   ·rw [List.getElem?_map,Option.map_eq_some_iff] at hk
    obtain ⟨y,hy,hyi⟩:=hk.1.1
    rw [hy] at h2
    refine h2.perm ?_
    rw [List.append_assoc]
    exact (aTab_more hdi hAn hy hyi).append_left _
  | c s =>
   unfold kindOk at hk;unfold StepsF at hs
   simp only [Bool.and_eq_true,Bool.not_eq_true',List.contains_eq_mem,decide_eq_false_iff_not,beq_iff_eq,Bool.or_eq_true] at hk
   obtain ⟨⟨⟨hcs,hna⟩,hprev⟩,_⟩:=hk
   have hks:k=s:=by
    have h1:=hrs.hi s i hcs (by simp)
    rcases hprev with h | h
    ·omega
    ·cases e:C[s - 1]? with
     | none=>rw [e] at h;cases h
     | some m=>rw [e] at h;have:=hrs.lo (s - 1) m e h;omega
   subst hks
   refine hs.1 a w vs dn k K hrs rfl hkp hd fun v w' h1 h2 h3=>hK v w' h1 ⟨k+1,(List.getElem?_eq_some_iff.1 hcs).1,fun p m hm=>?_,?_⟩ trivial h3
   ·unfold updB
    by_cases hmi:m=i
    ·rw [if_pos hmi]
     have:p=k:=by
      unfold chainOk at hch
      rw [List.all_eq_true] at hch
      have hpl:=(List.getElem?_eq_some_iff.1 hm).1
      have h4:=hch k (List.mem_range.2 (List.getElem?_eq_some_iff.1 hcs).1)
      rw [hcs] at h4
      simp only [Bool.and_eq_true,List.all_eq_true] at h4
      have h5:=h4.2 p (List.mem_range.2 hpl)
      rw [hm,hmi] at h5
      simp at h5
      exact h5.symm
     subst this;simp
    ·rw [if_neg hmi,hc p m hm]
     have:p ≠ k:=fun e=>hmi (by subst e;rw [hcs] at hm;exact (Option.some.inj hm).symm)
     by_cases g:p<k
     ·rw [decide_eq_true g,decide_eq_true (by omega)]
     ·rw [decide_eq_false g,decide_eq_false (by omega)]
   ·rw [aTab_same (fun x hx e=>hna (List.mem_map.2 ⟨x,hx,e⟩))]
    exact h2
/-- **A REGION WHOSE ORDER IS DRAWN, with a table of blocks at each stage of a chain of operations that turn memory.** -/
theorem any_fr {w0:World} (ks:List Kind) (C:List Nat) (A:List AEnt) (W:World) (O N:Nat→List Ent) (R:Nat→Value→(Nat→Value)→Prop) (hB:regB l a0.tmps.size=true) (hch:chainOk l C=true) (AL:List Nat) (hAL:A.map (·.1)=AL) (hAn:AL.Nodup) (hAr:(AL.all fun i=>decide (i<l.length))=true)
  (hk:kindOk l C AL ks 0=true) (h0:Fr W (O 0) (N 0) w0) (hs:StepsF P l Q a0 W O N A C R ks l 0)
  (hend:∀ (vs:Nat→Value) (w:World),Fr W (O C.length) (N C.length ++ aAll A vs C.length) w→(∀ i o,l[i]?=some o→R i (vs i) (maskV o vs))→Q .normal (putAll l vs 0 a0) w) :
  anyW P l.toArray Q l.toArray.size (Array.replicate l.toArray.size false) a0 w0.drew:=by
 subst hAL
 refine any_stepsJ hB (fun dn vs w=>∃ k,k≤C.length∧(∀ p m,C[p]?=some m→dn m=decide (p<k))∧Fr W (O k) (N k ++ aTab A dn vs k) w) (fun _ _ _=>True) (fun i v d _=>R i v d) ?_ (fun _ _ _ _ _ _ _ _ h _=>h)
  (StepsOkJ.of l 0 fun i o hi=>?_) ?_
 ·intro vs
  refine ⟨0,Nat.zero_le _,fun p m _=>by simp,?_⟩
  have e:aTab A (fun _=>false) vs 0=[]:=by unfold aTab;rw [List.filter_eq_nil_iff.2 (fun _ _=>by simp)];rfl
  rw [e,List.append_nil];exact h0.drew
 ·exact StepsF.ok hch hAn ks l 0 (fun j o h=>by rw [Nat.zero_add];exact h) hk hs i o hi
 ·intro vs dn w hall ⟨k,hkl,hc,hf⟩ hr
  have hkC:k=C.length:=by
   rcases Nat.lt_or_ge k C.length with g | g
   ·exfalso
    have hm:=List.getElem?_eq_getElem g
    have h1:=hc k _ hm
    unfold chainOk at hch
    rw [List.all_eq_true] at hch
    have h4:=hch k (List.mem_range.2 g)
    rw [hm] at h4
    simp only [Bool.and_eq_true,decide_eq_true_eq] at h4
    rw [hall _ h4.1] at h1
    simp at h1
   ·omega
  subst hkC
  have e:aTab A dn vs C.length=aAll A vs C.length:=by
   refine aTab_all fun x hx=>hall _ ?_
   rw [List.all_eq_true] at hAr
   have:=hAr x.1 (List.mem_map.2 ⟨x,hx,rfl⟩)
   simpa using this
  rw [e] at hf
  exact hend vs w hf hr
theorem wp_region_fr {id:Nat} {w0:World} (ks:List Kind) (C:List Nat) (A:List AEnt) (W:World) (O N:Nat→List Ent) (R:Nat→Value→(Nat→Value)→Prop) (hm:P.follows .mixedOrders=true) (hB:regB l a0.tmps.size=true) (hch:chainOk l C=true) (AL:List Nat) (hAL:A.map (·.1)=AL) (hAn:AL.Nodup) (hAr:(AL.all fun i=>decide (i<l.length))=true)
  (hk:kindOk l C AL ks 0=true) (h0:Fr W (O 0) (N 0) w0) (hs:StepsF P l Q a0 W O N A C R ks l 0)
  (hend:∀ (vs:Nat→Value) (w:World),Fr W (O C.length) (N C.length ++ aAll A vs C.length) w→(∀ i o,l[i]?=some o→R i (vs i) (maskV o vs))→Q .normal (putAll l vs 0 a0) w) :
  (Code.region id l.toArray true).wp P Q a0 w0 :=
 wp_region_any hm (any_fr ks C A W O N R hB hch AL hAL hAn hAr hk h0 hs hend).any
theorem RS.at {i:Nat} {dn:Nat→Bool} {vs:Nat→Value} {k:Nat} {w:World} (h:RS l W O N A C i dn vs k w) (j:Nat) {x:AEnt} (hj:A[j]?=some x) (hd:dn x.1=true):Bk w (gOf (vs x.1)) x.2.1 (x.2.2 k):=by
 refine (h.fr.new (gOf (vs x.1),x.2.1,x.2.2 k) (List.mem_append_right _ ?_)).2
 unfold aTab
 exact List.mem_map.2 ⟨x,List.mem_filter.2 ⟨List.mem_of_getElem? hj,hd⟩,rfl⟩
end
def AllSt:List AEnt→Nat→Prop
 | [],_=>True
 | x :: A,s=>x.2.2 (s+1)=x.2.2 s∧AllSt A s
def AllDn:List AEnt→(Nat→Bool)→Prop
 | [],_=>True
 | x :: A,dn=>dn x.1=true∧AllDn A dn
theorem AllSt.mem:∀ {A:List AEnt} {s:Nat},AllSt A s→∀ x ∈ A,x.2.2 (s+1)=x.2.2 s
 | [],_,_,x,hx=>(List.not_mem_nil hx).elim
 | y :: A,s,h,x,hx=>by
  rcases List.mem_cons.1 hx with rfl | hx
  ·exact h.1
  ·exact AllSt.mem h.2 x hx
theorem AllDn.mem:∀ {A:List AEnt} {dn:Nat→Bool},AllDn A dn→∀ x ∈ A,dn x.1=true
 | [],_,_,x,hx=>(List.not_mem_nil hx).elim
 | y :: A,s,h,x,hx=>by
  rcases List.mem_cons.1 hx with rfl | hx
  ·exact h.1
  ·exact AllDn.mem h.2 x hx
theorem aTab_stage {A:List AEnt} {dn:Nat→Bool} {vs:Nat→Value} {s:Nat} (h:AllSt A s):aTab A dn vs (s+1)=aTab A dn vs s:=by
 unfold aTab
 exact List.map_congr_left fun x hx=>by rw [h.mem x (List.mem_filter.1 hx).1]
theorem aTab_done {A:List AEnt} {dn:Nat→Bool} {vs:Nat→Value} {k:Nat} (h:AllDn A dn):aTab A dn vs k=aAll A vs k:=aTab_all h.mem
theorem Fr.stage {W w:World} {O N:List Ent} {A:List AEnt} {dn:Nat→Bool} {vs:Nat→Value} {s:Nat} (h:Fr W O (N ++ aTab A dn vs s) w) (hA:AllSt A s):Fr W O (N ++ aTab A dn vs (s+1)) w:=by rw [aTab_stage hA];exact h
theorem Fr.done {W w:World} {O N:List Ent} {A:List AEnt} {dn:Nat→Bool} {vs:Nat→Value} {s:Nat} (h:Fr W O (N ++ aTab A dn vs s) w) (hA:AllDn A dn):Fr W O (N ++ aAll A vs s) w:=by rw [← aTab_done hA];exact h
theorem Fr.undone {W w:World} {O N:List Ent} {A:List AEnt} {dn:Nat→Bool} {vs:Nat→Value} {s:Nat} (h:Fr W O (N ++ aAll A vs s) w) (hA:AllDn A dn):Fr W O (N ++ aTab A dn vs s) w:=by rw [aTab_done hA];exact h

theorem one_all {L:List Value} (h:(L.all fun u=>u.oneCell')=true):∀ u ∈ L,u.oneCell'=true:=by rw [List.all_eq_true] at h;exact h
section
variable {P:Program}
/-- The cells S lie in cs from place off on. -/
theorem seg_at {w:World} {g:Nat} {t:TypeId} {cs:Array Value} (h:Bk w g t cs) (off:Nat) {S:Array Value} (hs:(cs.toList.drop off).take S.size=S.toList):∀ j u,S[j]?=some u→w.cell? ⟨g,off+j,none⟩=some u:=by
 intro j u hj
 have hjl:j<S.size:=by
  rcases Nat.lt_or_ge j S.size with h | h
  ·exact h
  ·rw [Array.getElem?_eq_none h] at hj;cases hj
 rw [h.cell,← Array.getElem?_toList]
 rw [← Array.getElem?_toList,← hs,List.getElem?_take,if_pos hjl,List.getElem?_drop] at hj
 exact hj
/-- A load of several cells, out of a block that is known. -/
theorem wpLoadF {ops:Array Oper} {rest:List Oper} {o:Oper} {a:Act} {w:World} {Q:Exit→Act→World→Prop} (hgd:o.guard=none) (ty:TypeId) (x:Operand) (ho:o.op=.load ty x)
  (g off:Nat) (hx:a.eval x=.pointer (some ⟨g,off,none⟩)) (t:TypeId) (cs:Array Value) (hk:Bk w g t cs) (S:Array Value) (hs:(cs.toList.drop off).take S.size=S.toList) (d:TypeDesc)
  (hu:P.underlying ty=some d) (hd:(match d with | .struct _ | .array _ _=>true | _=>false)=true) (hi:(P.info? ty).map (·.size)=some S.size)
  (h:wpList P ops Q rest (a.put o.dst (.agg S)) w):wpList P ops Q (o :: rest) a w :=
 wpLoadAt hgd ty x ho g off hx S d (seg_at hk off hs) hu hd hi h
theorem wpo_loadF {o:Oper} {a:Act} {w:World} {K:Act→World→Prop} {Q:Exit→Act→World→Prop} (ty:TypeId) (x:Operand) (ho:o.op=.load ty x)
  (g off:Nat) (hx:a.eval x=.pointer (some ⟨g,off,none⟩)) (t:TypeId) (cs:Array Value) (hk:Bk w g t cs) (S:Array Value) (hs:(cs.toList.drop off).take S.size=S.toList) (d:TypeDesc)
  (hu:P.underlying ty=some d) (hd:(match d with | .struct _ | .array _ _=>true | _=>false)=true) (hi:(P.info? ty).map (·.size)=some S.size)
  (h:K (a.put o.dst (.agg S)) w):o.wp P a w K Q :=
 wpo_loadS ty x ho g off hx S d (seg_at hk off hs) hu hd hi h
/-- The like, guarded by what holds. -/
theorem wpLoadFG {ops:Array Oper} {rest:List Oper} {o:Oper} {a:Act} {w:World} {Q:Exit→Act→World→Prop} (hgd:Region.wanted o (yielded ops a.tmps)=true) (ty:TypeId) (x:Operand) (ho:o.op=.load ty x)
  (g off:Nat) (hx:a.eval x=.pointer (some ⟨g,off,none⟩)) (t:TypeId) (cs:Array Value) (hk:Bk w g t cs) (S:Array Value) (hs:(cs.toList.drop off).take S.size=S.toList) (d:TypeDesc)
  (hu:P.underlying ty=some d) (hd:(match d with | .struct _ | .array _ _=>true | _=>false)=true) (hi:(P.info? ty).map (·.size)=some S.size)
  (h:wpList P ops Q rest (a.put o.dst (.agg S)) w):wpList P ops Q (o :: rest) a w:=by
 rw [wpList,if_pos hgd]
 exact .inl (wpo_loadF ty x ho g off hx t cs hk S hs d hu hd hi h)
theorem run_storeVar_cell (w:World) (g off:Nat) (t ty:TypeId) (cs:Array Value) (u:Value) (h:Bk w g t cs) (hl:off<cs.size) (h1:u.oneCell'=true) (hi:(P.info? ty).map (·.size)=some 1) :
  ∃ w',(storeVar ty ⟨g,off,none⟩ u).run P w=.ok () w'∧Bk w' g t (cs.setIfInBounds off u)∧Only g w w':=by
 obtain ⟨w',r1,r2,r3⟩:=run_storeCells_row (P:=P) t g [u] w cs off 0 h (by show off+0+1≤cs.size;omega) (by simpa using h1)
 refine ⟨w',?_,by simpa [splA] using r2,r3⟩
 have hc:u.cells=#[u]:=by cases u <;> simp_all [Value.cells,Value.oneCell']
 cases hq:P.info? ty with
 | none=>simp [hq] at hi
 | some i =>
  have hs:i.size=1:=by simpa [hq] using hi
  simp [storeVar,Sem.run_bind,hc,sizeOf,typeInfo,hq,hs,r1]
/-- A store of one cell. -/
theorem wpStoreCell {ops:Array Oper} {rest:List Oper} {o:Oper} {a:Act} {w:World} {Q:Exit→Act→World→Prop} (hgd:o.guard=none) (hdst:o.dst=none) (ty:TypeId) (x y:Operand) (ho:o.op=.store ty x y)
  (g off:Nat) (hx:a.eval x=.pointer (some ⟨g,off,none⟩)) (u:Value) (hy:a.eval y=u) (t:TypeId) (cs:Array Value) (hb:Bk w g t cs)
  (hl:off<cs.size) (h1:u.oneCell'=true) (hi:(P.info? ty).map (·.size)=some 1)
  (h:∀ w',Bk w' g t (cs.setIfInBounds off u)→Only g w w'→wpList P ops Q rest a w'):wpList P ops Q (o :: rest) a w :=
 wpList_plain hgd fun _ hK=>by
  obtain ⟨w',r1,r2,r3⟩:=run_storeVar_cell (P:=P) w g off t ty cs u hb hl h1 hi
  unfold Oper.wp execOp
  simp only [ho,hx,hy,Instr.storeAt,Instr.sureAddr,Sem.run_bind,Sem.run_pure,Result.andThen_ok,r1]
  have:=hK _ _ (h w' r2 r3)
  simpa [Oper.upon,hdst,Act.put] using this
theorem wpo_storeCell {o:Oper} {a:Act} {w:World} {K:Act→World→Prop} {Q:Exit→Act→World→Prop} (ty:TypeId) (x y:Operand) (ho:o.op=.store ty x y) (hdst:o.dst=none)
  (g off:Nat) (hx:a.eval x=.pointer (some ⟨g,off,none⟩)) (u:Value) (hy:a.eval y=u) (t:TypeId) (cs:Array Value) (hb:Bk w g t cs)
  (hl:off<cs.size) (h1:u.oneCell'=true) (hi:(P.info? ty).map (·.size)=some 1)
  (h:∀ w',Bk w' g t (cs.setIfInBounds off u)→Only g w w'→K (a.put o.dst undef) w'):o.wp P a w K Q:=by
 obtain ⟨w',r1,r2,r3⟩:=run_storeVar_cell (P:=P) w g off t ty cs u hb hl h1 hi
 unfold Oper.wp execOp
 simp only [ho,hx,hy,Instr.storeAt,Instr.sureAddr,Sem.run_bind,Sem.run_pure,Result.andThen_ok,r1]
 have:=h w' r2 r3
 simpa [Oper.upon,hdst,Act.put] using this
theorem lit_get (L S:List Value) (off i:Nat) (h:off+S.length≤L.length):(L.take off ++ S ++ L.drop (off+S.length))[i]?=if off≤i∧i<off+S.length then S[i - off]? else L[i]?:=by
 have hlen:(L.take off).length=off:=by rw [List.length_take];omega
 by_cases h1:i<off
 ·rw [if_neg (by omega),List.append_assoc,List.getElem?_append_left (by omega),List.getElem?_take,if_pos h1]
 ·by_cases h2:i<off+S.length
  ·rw [if_pos (by omega),List.append_assoc,List.getElem?_append_right (by omega),hlen,List.getElem?_append_left (by omega)]
  ·rw [if_neg (by omega),List.getElem?_append_right (by simp [hlen];omega),List.length_append,hlen,List.getElem?_drop,show off+S.length+(i - (off+S.length))=i by omega]
theorem splA_lit (cs:Array Value) (off:Nat) (S:List Value) (h:off+S.length≤cs.size):splA cs off S=(cs.toList.take off ++ S ++ cs.toList.drop (off+S.length)).toArray:=by
 apply Array.ext_getElem?
 intro i
 rw [splA_get S cs off i h]
 have h2:=lit_get cs.toList S off i (by simpa using h)
 rw [Array.getElem?_toList (xs:=cs)] at h2
 rw [← h2]
 exact (List.getElem?_toArray ..).symm
theorem Bk.spl {w:World} {g:Nat} {t:TypeId} {cs S R:Array Value} {off:Nat} (h:Bk w g t (splA cs off S.toList)) (hl:off+S.size≤cs.size) (hR:cs.toList.take off ++ S.toList ++ cs.toList.drop (off+S.size)=R.toList):Bk w g t R:=by
 rw [splA_lit cs off S.toList (by simpa using hl),Array.length_toList,hR,Array.toArray_toList] at h
 exact h
/-- A store of several cells; R: the block's cells behind it. -/
theorem wpStoreF {ops:Array Oper} {rest:List Oper} {o:Oper} {a:Act} {w:World} {Q:Exit→Act→World→Prop} (hgd:o.guard=none) (hdst:o.dst=none) (ty:TypeId) (x y:Operand) (ho:o.op=.store ty x y)
  (g off:Nat) (hx:a.eval x=.pointer (some ⟨g,off,none⟩)) (S:Array Value) (hy:a.eval y=.agg S) (t:TypeId) (cs R:Array Value) (hb:Bk w g t cs) (hR:cs.toList.take off ++ S.toList ++ cs.toList.drop (off+S.size)=R.toList)
  (hl:off+S.size≤cs.size) (h1:∀ u ∈ S.toList,u.oneCell'=true) (hi:(P.info? ty).map (·.size)=some S.size)
  (h:∀ w',Bk w' g t R→Only g w w'→wpList P ops Q rest a w'):wpList P ops Q (o :: rest) a w :=
 wpStoreAt hgd hdst ty x y ho g off hx S hy t cs hb hl h1 hi fun w' hk ho=>h w' (hk.spl hl hR) ho
theorem wpo_storeF {o:Oper} {a:Act} {w:World} {K:Act→World→Prop} {Q:Exit→Act→World→Prop} (ty:TypeId) (x y:Operand) (ho:o.op=.store ty x y) (hdst:o.dst=none)
  (g off:Nat) (hx:a.eval x=.pointer (some ⟨g,off,none⟩)) (S:Array Value) (hy:a.eval y=.agg S) (t:TypeId) (cs R:Array Value) (hb:Bk w g t cs) (hR:cs.toList.take off ++ S.toList ++ cs.toList.drop (off+S.size)=R.toList)
  (hl:off+S.size≤cs.size) (h1:∀ u ∈ S.toList,u.oneCell'=true) (hi:(P.info? ty).map (·.size)=some S.size)
  (h:∀ w',Bk w' g t R→Only g w w'→K (a.put o.dst undef) w'):o.wp P a w K Q :=
 wpo_storeS ty x y ho hdst g off hx S hy t cs hb hl h1 hi fun w' hk ho=>h w' (hk.spl hl hR) ho
/-- A call of a function value. -/
theorem wpCallV {ops:Array Oper} {rest:List Oper} {o:Oper} {a:Act} {w:World} {Q:Exit→Act→World→Prop} (hgd:o.guard=none) (f:Nat) (x:Operand) (xs:Array Operand) (ts:Array TypeId) (ho:o.op=.call { callee:=.value x,args:=xs,argTypes:=ts })
  (hv:a.eval x=.func (.func f) #[] #[]) (vs:Array Value) (hx:xs.map a.eval=vs) (eg:∀ args w,(callFunc f args).run P w=.ok (.enter f args) w)
  (h:Calls P f vs w fun e w'=>∃ v,e=.returned v∧wpList P ops Q rest (a.put o.dst v) w'):wpList P ops Q (o :: rest) a w :=
 wpList_plain hgd fun _ hK=>wpo_callV f x xs ts ho hv vs hx eg (h.mono fun _ _ ⟨v,he,hk⟩=>⟨v,he,hK _ _ hk⟩)
/-- A return of what lies in one cell of several places. -/
theorem ret_agg {fn:Func} {p:Tmp} {ty:TypeId} (h:fn.results=#[.cell p ty]) {a:Act} (ha:a.defers=[]) {w:World} {g:Nat} {t:TypeId} {cs:Array Value} {d:TypeDesc} {Q:Ending→World→Prop}
  (hp:a.tmps.getD p undef=.pointer (some ⟨g,0,none⟩)) (hk:Bk w g t cs) (hu:P.underlying ty=some d) (hd:(match d with | .struct _ | .array _ _=>true | _=>false)=true) (hi:(P.info? ty).map (·.size)=some cs.size)
  (hQ:Q (.returned (.agg cs)) w):bodyPost P fn Q .ret a w :=
 bodyPost_ret (v:=.agg cs) (results_cellS h _ _ g t cs d hp hk hu hd hi) ha hQ
theorem ret_agg2 {fn:Func} {p u:Tmp} {ty:TypeId} (h:fn.results=#[.cell p ty,.tmp u]) {a:Act} (ha:a.defers=[]) {w:World} {g:Nat} {t:TypeId} {cs:Array Value} {d:TypeDesc} {v:Value} {Q:Ending→World→Prop}
  (hp:a.tmps.getD p undef=.pointer (some ⟨g,0,none⟩)) (hk:Bk w g t cs) (hv:a.tmps.getD u undef=v) (hu:P.underlying ty=some d) (hd:(match d with | .struct _ | .array _ _=>true | _=>false)=true) (hi:(P.info? ty).map (·.size)=some cs.size)
  (hQ:Q (.returned (.tuple #[.agg cs,v])) w):bodyPost P fn Q .ret a w :=
 bodyPost_ret (v:=.tuple #[.agg cs,v]) (by subst hv;exact results_cellS_tmp h _ _ g t cs d hp hk hu hd hi) ha hQ
end
/-! What an operation yields is of 64 bits. -/
theorem wd_zero:WdS zeroS:=by unfold WdS zeroS;decide
theorem wd_fit (lo hi:Int):WdS (fitB lo hi).1:=by
 unfold fitB
 split
 ·rename_i h
  rw [Bool.and_eq_true] at h
  have h1:=big_iff.1 h.1
  have h2:=big_iff.1 h.2
  unfold WdS;dsimp only;omega
 ·exact wd_zero
theorem wd_add (a b:SpanD):WdS (addB a b).1:=by unfold addB;split;exact wd_fit _ _;exact wd_zero
theorem wd_sub (a b:SpanD):WdS (subB a b).1:=by unfold subB;split;exact wd_add _ _;exact wd_zero
theorem wd_mul (a b:SpanD):WdS (mulB a b).1:=by unfold mulB;split;exact wd_fit _ _;exact wd_zero
theorem wd_div (a b:SpanD):WdS (divB a b).1:=by
 unfold divB
 split
 ·split
  ·exact wd_zero
  ·exact wd_fit _ _
 ·exact wd_zero
theorem wd_square (a:SpanD):WdS (squareB a).1:=by unfold squareB;split;exact wd_mul _ _;exact wd_zero
theorem wd_pt {n:Int} (h:I64 n):WdS (ptS n):=⟨h,h⟩
theorem wd_hull {a b:SpanD} (ha:WdS a) (hb:WdS b):WdS (hullB a b).1:=by
 unfold hullB
 split
 ·unfold WdS hullS at *;dsimp only;omega
 ·exact wd_zero

section
variable (P:Program) (l:List Oper) (Q:Exit→Act→World→Prop) (a0:Act) (W:World) (T:Nat→(Nat→Value)→List Ent→List Ent→Prop) (A:List AEnt) (C:List Nat) (R:Nat→Value→(Nat→Value)→Prop)
/-- What is known when operation i comes up, at stage k. -/
structure RT (i:Nat) (dn:Nat→Bool) (vs:Nat→Value) (k:Nat) (O N:List Ent) (w:World):Prop where
 fr:Fr W O (N ++ aTab A dn vs k) w
 t:T k vs O N
 kle:k≤C.length
 hi:∀ p m,C[p]?=some m→(m == i || afterI l m i)=true→k≤p
 lo:∀ p m,C[p]?=some m→afterI l i m=true→p<k
 done:∀ j,afterI l i j=true→dn j=true
def StepT (i:Nat) (o:Oper) (pre:Nat→Prop) (post:(Nat→Bool)→(Nat→Value)→Nat→List Ent→List Ent→Value→World→World→Prop):Prop :=
 ∀ (a:Act) (w:World) (vs:Nat→Value) (dn:Nat→Bool) (k:Nat) (O N:List Ent) (K:Act→World→Prop),RT l W T A C i dn vs k O N w→pre k →
  (∀ t,keepB l i t=true→a.tmps[t]?.getD undef=a0.tmps[t]?.getD undef) →
  (∀ j oj d,l[j]?=some oj→oj.dst=some d→afterB o j=true→a.tmps[d]?.getD undef=vs j∧R j (vs j) (maskV oj vs)) →
  (∀ v w',(o.dst=none→v=undef)→post dn vs k O N v w w'→R i v (maskV o vs)→K (a.put o.dst v) w') →
  if Region.wanted o (yielded l.toArray a.tmps) then o.wp P a w K Q else K (a.put o.dst undef) w
def StepsT:List Kind→List Oper→Nat→Prop
 | .p :: ks,o :: r,i=>StepT P l Q a0 W T A C R i o (fun _=>True) (fun _ _ _ _ _ _ w w'=>Below w.heap.size w w')∧StepsT ks r (i+1)
 | .a j :: ks,o :: r,i=>StepT P l Q a0 W T A C R i o (fun _=>True) (fun dn vs k O N v _ w'=>match A[j]? with | some x=>Fr W O ((N ++ aTab A dn vs k) ++ [(gOf v,x.2.1,x.2.2 k)]) w' | none=>False)∧StepsT ks r (i+1)
 | .c s :: ks,o :: r,i=>StepT P l Q a0 W T A C R i o (fun k=>k=s) (fun dn vs _ _ _ v _ w'=>∃ O' N',T (s+1) (updV vs i v) O' N'∧Fr W O' (N' ++ aTab A dn vs (s+1)) w')∧StepsT ks r (i+1)
 | [],[],_=>True
 | _,_,_=>False
end
section
variable {P:Program} {l:List Oper} {Q:Exit→Act→World→Prop} {a0:Act} {W:World} {T:Nat→(Nat→Value)→List Ent→List Ent→Prop} {A:List AEnt} {C:List Nat} {R:Nat→Value→(Nat→Value)→Prop}
theorem rt_of {i:Nat} {o:Oper} (hio:l[i]?=some o) {dn:Nat→Bool} {vs:Nat→Value} {k:Nat} {O N:List Ent} {w:World} (hb:∀ m,dn m=true→i ≠ m∧ancB l l.length m i=false) (hb2:∀ j,afterB o j=true→dn j=true)
  (hk:k≤C.length) (hc:∀ p m,C[p]?=some m→dn m=decide (p<k)) (ht:T k vs O N) (hf:Fr W O (N ++ aTab A dn vs k) w):RT l W T A C i dn vs k O N w:=by
 have h:=rs_of (W:=W) (O:=fun _=>O) (N:=fun _=>N) (A:=A) (C:=C) hio hb hb2 hk hc hf
 exact ⟨hf,ht,hk,h.hi,h.lo,h.done⟩
theorem StepsT.ok (hT:∀ k vs vs' O N,(∀ i ∈ C,vs' i=vs i)→T k vs O N→T k vs' O N) (hch:chainOk l C=true) (hAn:(A.map (·.1)).Nodup):∀ (ks:List Kind) (r:List Oper) (i:Nat),(∀ j o,r[j]?=some o→l[i+j]?=some o)→kindOk l C (A.map (·.1)) ks i=true→StepsT P l Q a0 W T A C R ks r i →
  ∀ j o,r[j]?=some o→StepOkJ P l Q a0 (fun dn vs w=>∃ k O N,k≤C.length∧(∀ p m,C[p]?=some m→dn m=decide (p<k))∧T k vs O N∧Fr W O (N ++ aTab A dn vs k) w) (fun _ _ _=>True) (fun i v d _=>R i v d) (i+j) o
 | ks,[],i,_,_,_,j,o,ho=>by simp at ho
 | [],o :: r,i,_,_,hs,_,_,_=>by simp [StepsT] at hs
 | kd :: ks,o :: r,i,hl,hk,hs,j+1,x,hx=>by
  rw [show i+(j+1)=i+1+j from by omega]
  have hl':∀ j o,r[j]?=some o→l[i+1+j]?=some o:=fun j o' h=>by have:=hl (j+1) o' (by simpa using h);rwa [show i+(j+1)=i+1+j from by omega] at this
  cases kd with
  | p=>unfold kindOk at hk;unfold StepsT at hs;rw [Bool.and_eq_true] at hk;exact StepsT.ok hT hch hAn ks r (i+1) hl' hk.2 hs.2 j x (by simpa using hx)
  | a q=>unfold kindOk at hk;unfold StepsT at hs;rw [Bool.and_eq_true] at hk;exact StepsT.ok hT hch hAn ks r (i+1) hl' hk.2 hs.2 j x (by simpa using hx)
  | c q=>unfold kindOk at hk;unfold StepsT at hs;rw [Bool.and_eq_true] at hk;exact StepsT.ok hT hch hAn ks r (i+1) hl' hk.2 hs.2 j x (by simpa using hx)
 | kd :: ks,o :: r,i,hl,hk,hs,0,x,hx=>by
  simp at hx
  subst hx
  have hio:l[i]?=some o:=hl 0 o rfl
  rw [Nat.add_zero]
  intro a w vs K dn hb hb2 hJ hkp hd _ hK
  obtain ⟨k,O,N,hkl,hc,ht,hf⟩:=hJ
  have hrs:=rt_of (T:=T) hio hb hb2 hkl hc ht hf
  have hdi:dn i=false:=by
   cases e:dn i with
   | false=>rfl
   | true=>exact absurd rfl (hb i e).1
  have hTn:∀ v,i ∉ C→T k (updV vs i v) O N:=fun v hn=>hT k vs _ O N (fun q hq=>by unfold updV;rw [if_neg (fun e=>hn (by rw [← e];exact hq))]) ht
  cases kd with
  | p =>
   unfold kindOk at hk;unfold StepsT at hs
   simp only [Bool.and_eq_true,Bool.not_eq_true',List.contains_eq_mem,decide_eq_false_iff_not] at hk
   refine hs.1 a w vs dn k O N K hrs trivial hkp hd fun v w' h1 h2 h3=>hK v w' h1 ⟨k,O,N,hkl,fun p m hm=>?_,hTn v hk.1.1,?_⟩ trivial h3
   ·unfold updB
    rw [if_neg (fun e:m=i=>hk.1.1 (by rw [← e];exact List.mem_of_getElem? hm)),hc p m hm]
   ·rw [aTab_same (fun x hx e=>hk.1.2 (List.mem_map.2 ⟨x,hx,e⟩))]
    exact hf.below h2
  | a q =>
   unfold kindOk at hk;unfold StepsT at hs
   simp only [Bool.and_eq_true,Bool.not_eq_true',List.contains_eq_mem,decide_eq_false_iff_not,beq_iff_eq] at hk
   refine hs.1 a w vs dn k O N K hrs trivial hkp hd fun v w' h1 h2 h3=>hK v w' h1 ⟨k,O,N,hkl,fun p m hm=>?_,hTn v hk.1.2,?_⟩ trivial h3
   ·unfold updB
    rw [if_neg (fun e:m=i=>hk.1.2 (by rw [← e];exact List.mem_of_getElem? hm)),hc p m hm]
   ·rw [List.getElem?_map,Option.map_eq_some_iff] at hk
    obtain ⟨y,hy,hyi⟩:=hk.1.1
    rw [hy] at h2
    refine h2.perm ?_
    rw [List.append_assoc]
    exact (aTab_more hdi hAn hy hyi).append_left _
  | c s =>
   unfold kindOk at hk;unfold StepsT at hs
   simp only [Bool.and_eq_true,Bool.not_eq_true',List.contains_eq_mem,decide_eq_false_iff_not,beq_iff_eq,Bool.or_eq_true] at hk
   obtain ⟨⟨⟨hcs,hna⟩,hprev⟩,_⟩:=hk
   have hks:k=s:=by
    have h1:=hrs.hi s i hcs (by simp)
    rcases hprev with h | h
    ·omega
    ·cases e:C[s - 1]? with
     | none=>rw [e] at h;cases h
     | some m=>rw [e] at h;have:=hrs.lo (s - 1) m e h;omega
   subst hks
   refine hs.1 a w vs dn k O N K hrs rfl hkp hd fun v w' h1 h2 h3=>?_
   obtain ⟨O',N',h2t,h2⟩:=h2
   refine hK v w' h1 ⟨k+1,O',N',(List.getElem?_eq_some_iff.1 hcs).1,fun p m hm=>?_,h2t,?_⟩ trivial h3
   ·unfold updB
    by_cases hmi:m=i
    ·rw [if_pos hmi]
     have:p=k:=by
      unfold chainOk at hch
      rw [List.all_eq_true] at hch
      have hpl:=(List.getElem?_eq_some_iff.1 hm).1
      have h4:=hch k (List.mem_range.2 (List.getElem?_eq_some_iff.1 hcs).1)
      rw [hcs] at h4
      simp only [Bool.and_eq_true,List.all_eq_true] at h4
      have h5:=h4.2 p (List.mem_range.2 hpl)
      rw [hm,hmi] at h5
      simp at h5
      exact h5.symm
     subst this;simp
    ·rw [if_neg hmi,hc p m hm]
     have:p ≠ k:=fun e=>hmi (by subst e;rw [hcs] at hm;exact (Option.some.inj hm).symm)
     by_cases g:p<k
     ·rw [decide_eq_true g,decide_eq_true (by omega)]
     ·rw [decide_eq_false g,decide_eq_false (by omega)]
   ·rw [aTab_same (fun x hx e=>hna (List.mem_map.2 ⟨x,hx,e⟩))]
    exact h2
theorem any_ft {w0:World} (ks:List Kind) (C:List Nat) (A:List AEnt) (W:World) (T:Nat→(Nat→Value)→List Ent→List Ent→Prop) (R:Nat→Value→(Nat→Value)→Prop) (hB:regB l a0.tmps.size=true) (hch:chainOk l C=true) (AL:List Nat) (hAL:A.map (·.1)=AL) (hAn:AL.Nodup) (hAr:(AL.all fun i=>decide (i<l.length))=true)
  (hk:kindOk l C AL ks 0=true) (hT:∀ k vs vs' O N,(∀ i ∈ C,vs' i=vs i)→T k vs O N→T k vs' O N) {O0 N0:List Ent} (h0:Fr W O0 N0 w0) (hT0:∀ vs,T 0 vs O0 N0) (hs:StepsT P l Q a0 W T A C R ks l 0)
  (hend:∀ (vs:Nat→Value) (w:World) (O N:List Ent),T C.length vs O N→Fr W O (N ++ aAll A vs C.length) w→(∀ i o,l[i]?=some o→R i (vs i) (maskV o vs))→Q .normal (putAll l vs 0 a0) w) :
  anyW P l.toArray Q l.toArray.size (Array.replicate l.toArray.size false) a0 w0.drew:=by
 subst hAL
 refine any_stepsJ hB (fun dn vs w=>∃ k O N,k≤C.length∧(∀ p m,C[p]?=some m→dn m=decide (p<k))∧T k vs O N∧Fr W O (N ++ aTab A dn vs k) w) (fun _ _ _=>True) (fun i v d _=>R i v d) ?_ (fun _ _ _ _ _ _ _ _ h _=>h)
  (StepsOkJ.of l 0 fun i o hi=>?_) ?_
 ·intro vs
  refine ⟨0,O0,N0,Nat.zero_le _,fun p m _=>by simp,hT0 vs,?_⟩
  have e:aTab A (fun _=>false) vs 0=[]:=by unfold aTab;rw [List.filter_eq_nil_iff.2 (fun _ _=>by simp)];rfl
  rw [e,List.append_nil];exact h0.drew
 ·exact StepsT.ok hT hch hAn ks l 0 (fun j o h=>by rw [Nat.zero_add];exact h) hk hs i o hi
 ·intro vs dn w hall ⟨k,O,N,hkl,hc,ht,hf⟩ hr
  have hkC:k=C.length:=by
   rcases Nat.lt_or_ge k C.length with g | g
   ·exfalso
    have hm:=List.getElem?_eq_getElem g
    have h1:=hc k _ hm
    unfold chainOk at hch
    rw [List.all_eq_true] at hch
    have h4:=hch k (List.mem_range.2 g)
    rw [hm] at h4
    simp only [Bool.and_eq_true,decide_eq_true_eq] at h4
    rw [hall _ h4.1] at h1
    simp at h1
   ·omega
  subst hkC
  have e:aTab A dn vs C.length=aAll A vs C.length:=by
   refine aTab_all fun x hx=>hall _ ?_
   rw [List.all_eq_true] at hAr
   have:=hAr x.1 (List.mem_map.2 ⟨x,hx,rfl⟩)
   simpa using this
  rw [e] at hf
  exact hend vs w O N ht hf hr
theorem wp_region_ft {id:Nat} {w0:World} (ks:List Kind) (C:List Nat) (A:List AEnt) (W:World) (T:Nat→(Nat→Value)→List Ent→List Ent→Prop) (R:Nat→Value→(Nat→Value)→Prop) (hm:P.follows .mixedOrders=true) (hB:regB l a0.tmps.size=true) (hch:chainOk l C=true) (AL:List Nat) (hAL:A.map (·.1)=AL) (hAn:AL.Nodup) (hAr:(AL.all fun i=>decide (i<l.length))=true)
  (hk:kindOk l C AL ks 0=true) (hT:∀ k vs vs' O N,(∀ i ∈ C,vs' i=vs i)→T k vs O N→T k vs' O N) {O0 N0:List Ent} (h0:Fr W O0 N0 w0) (hT0:∀ vs,T 0 vs O0 N0) (hs:StepsT P l Q a0 W T A C R ks l 0)
  (hend:∀ (vs:Nat→Value) (w:World) (O N:List Ent),T C.length vs O N→Fr W O (N ++ aAll A vs C.length) w→(∀ i o,l[i]?=some o→R i (vs i) (maskV o vs))→Q .normal (putAll l vs 0 a0) w) :
  (Code.region id l.toArray true).wp P Q a0 w0 :=
 wp_region_any hm (any_ft ks C A W T R hB hch AL hAL hAn hAr hk hT h0 hT0 hs hend).any
theorem RT.at {i:Nat} {dn:Nat→Bool} {vs:Nat→Value} {k:Nat} {O N:List Ent} {w:World} (h:RT l W T A C i dn vs k O N w) (j:Nat) {x:AEnt} (hj:A[j]?=some x) (hd:dn x.1=true):Bk w (gOf (vs x.1)) x.2.1 (x.2.2 k):=by
 refine (h.fr.new (gOf (vs x.1),x.2.1,x.2.2 k) (List.mem_append_right _ ?_)).2
 unfold aTab
 exact List.mem_map.2 ⟨x,List.mem_filter.2 ⟨List.mem_of_getElem? hj,hd⟩,rfl⟩
end
/-! A list that grows, in a table. -/
def lstE (e:TypeId) (v:Value) (cur:Array Value):List Ent:=match v with | .slice (some p) _ _=>[(p.block,e,cur)] | _=>[]
/-- v is a list of n elements of sz cells each, the cells xs; it lies in a block cur of its own. -/
def LstAt (sz:Nat) (v:Value) (cur:Array Value) (n:Nat) (xs:List Value):Prop :=
 xs.length=n * sz∧((v=.slice none 0 0∧n=0) ∨ ∃ g cap,v=.slice (some ⟨g,0,none⟩) n cap∧n≤cap∧cap≤maxLen∧cur.size=cap * sz∧cur.toList.take (n * sz)=xs)
theorem LstAt.nil (sz:Nat):LstAt sz (.slice none 0 0) #[] 0 []:=⟨by simp,.inl ⟨rfl,rfl⟩⟩
theorem Fr.grown {W w w':World} {O N Y:List Ent} {e:TypeId} {v v':Value} {cur cur':Array Value} (h:Fr W O (N ++ (lstE e v cur ++ Y)) w) (hg:w.grownBy w' v.ownBlock)
  (h':(v'=.slice none 0 0∧v=.slice none 0 0) ∨ ∃ g n c,v'=.slice (some ⟨g,0,none⟩) n c∧Bk w' g e cur'∧(v.ownBlock=some g ∨ w.heap.size≤g)) (hv:v=.slice none 0 0 ∨ ∃ g n c,v=.slice (some ⟨g,0,none⟩) n c):Fr W O (N ++ (lstE e v' cur' ++ Y)) w':=by
 have hof:∀ g,v.ownBlock=some g→(g,e,cur) ∈ lstE e v cur:=fun g hgv=>by
  rcases hv with rfl | ⟨g',n,c,rfl⟩
  ·simp [Value.ownBlock] at hgv
  ·simp [Value.ownBlock] at hgv;subst hgv;simp [lstE]
 have hofW:∀ g,v.ownBlock=some g→W.heap.size≤g:=fun g hgv=>(h.new _ (List.mem_append_right _ (List.mem_append_left _ (hof g hgv)))).1
 have keep:∀ x ∈ N ++ Y,Bk w' x.1 x.2.1 x.2.2:=fun x hx=>by
  have hxm:x ∈ N ++ (lstE e v cur ++ Y):=by
   rcases List.mem_append.1 hx with hx | hx
   ·exact List.mem_append_left _ hx
   ·exact List.mem_append_right _ (List.mem_append_right _ hx)
  have hb:=(h.new x hxm).2
  refine (hg.block x.1 hb.lt fun ee=>?_).trans hb
  have hm:=hof x.1 ee.symm
  have hnd:=h.ndN
  rw [List.map_append,List.map_append] at hnd
  have hperm:(N.map (·.1) ++ ((lstE e v cur).map (·.1) ++ Y.map (·.1))).Perm ((lstE e v cur).map (·.1) ++ (N ++ Y).map (·.1)):=by
   rw [List.map_append,← List.append_assoc,← List.append_assoc]
   exact List.perm_append_comm.append_right _
  rw [hperm.nodup_iff,List.nodup_append] at hnd
  exact hnd.2.2 x.1 (List.mem_map.2 ⟨_,hm,rfl⟩) x.1 (List.mem_map.2 ⟨x,hx,rfl⟩) rfl
 have hsub:(N ++ Y).Sublist (N ++ (lstE e v cur ++ Y)):=(List.sublist_append_right _ _).append_left _
 have h0:=h.sub hsub
 refine ⟨hg.os.trans h.os,hg.tape.trans h.tape,hg.output.trans h.output,Nat.le_trans h.size hg.size,fun c hc hx=>?_,fun x hx=>⟨(h.old x hx).1,?_⟩,fun x hx=>?_,h.ndO,?_⟩
 ·exact (hg.block c (Nat.lt_of_lt_of_le hc h.size) (fun ee=>by have:=hofW c ee.symm;omega)).trans (h.far c hc hx)
 ·exact (hg.block x.1 (h.old x hx).2.lt (fun ee=>by have:=hofW x.1 ee.symm;have:=(h.old x hx).1;omega)).trans (h.old x hx).2
 ·rcases List.mem_append.1 hx with h1 | h1
  ·exact ⟨(h0.new x (List.mem_append_left _ h1)).1,keep x (List.mem_append_left _ h1)⟩
  ·rcases List.mem_append.1 h1 with h1 | h1
   ·rcases h' with ⟨rfl,rfl⟩ | ⟨g,n,c,rfl,hbk,hgw⟩
    ·simp [lstE] at h1
    ·simp [lstE] at h1
     subst h1
     refine ⟨?_,hbk⟩
     rcases hgw with hgw | hgw
     ·exact hofW g hgw
     ·exact Nat.le_trans h.size hgw
   ·exact ⟨(h0.new x (List.mem_append_right _ h1)).1,keep x (List.mem_append_right _ h1)⟩
 ·rcases h' with ⟨rfl,rfl⟩ | ⟨g,n,c,rfl,hbk,hgw⟩
  ·have:lstE e (.slice none 0 0) cur'=lstE e (.slice none 0 0) cur:=rfl
   rw [this];exact h.ndN
  ·have hperm:((N ++ (lstE e (.slice (some ⟨g,0,none⟩) n c) cur' ++ Y)).map (·.1)).Perm (g :: (N ++ Y).map (·.1)):=by
    simp only [lstE,List.map_append,List.map_cons,List.map_nil]
    exact List.perm_middle
   rw [hperm.nodup_iff,List.nodup_cons]
   refine ⟨fun hm=>?_,h0.ndN⟩
   obtain ⟨x,hx,hxg⟩:=List.mem_map.1 hm
   rcases hgw with hgw | hgw
   ·have hm2:=hof g hgw
    have hnd:=h.ndN
    have hperm2:((N ++ (lstE e v cur ++ Y)).map (·.1)).Perm ((lstE e v cur).map (·.1) ++ (N ++ Y).map (·.1)):=by
     rw [List.map_append,List.map_append,List.map_append,← List.append_assoc,← List.append_assoc]
     exact List.perm_append_comm.append_right _
    rw [hperm2.nodup_iff,List.nodup_append] at hnd
    exact hnd.2.2 g (List.mem_map.2 ⟨_,hm2,rfl⟩) g (List.mem_map.2 ⟨x,hx,hxg⟩) rfl
   ·have:=(h0.new x hx).2.lt
    have hxg':x.1=g:=hxg
    omega
theorem run_push {P:Program} {W w:World} {O N Y:List Ent} {e:TypeId} {sz bytes:Nat} {v z:Value} {cur:Array Value} {n:Nat} {xs:List Value} (hf:Fr W O (N ++ (lstE e v cur ++ Y)) w) (hl:LstAt sz v cur n xs)
  (t ty:TypeId) (ht:P.underlying t=some (.slice e)) (hinf:(P.info? e).map (fun i=>(i.zero,i.size,i.bytes))=some (some z,sz,bytes)) (hzs:z.cells.size=sz) (hsz:0<sz) (hby:bytes≤4096) (hn:n≤65536)
  (ad:Addr) (c:Nat) (news:List Value) (hnl:news.length=sz) (hnews:∀ j u,news[j]?=some u→w.cell? (ad.add j)=some u) (h1:∀ u ∈ news,u.oneCell'=true) :
  ∃ v' w' cur',(Builtin.append_ #[t,t] ty #[v,.slice (some ad) 1 c]).run P w=.ok v' w'∧LstAt sz v' cur' (n+1) (xs ++ news)∧Fr W O (N ++ (lstE e v' cur' ++ Y)) w':=by
 obtain ⟨i,hi,hz,hk,hb⟩:=info_parts hinf
 have hmul:(n+1) * bytes≤140737488355328:=Nat.le_trans (Nat.mul_le_mul (show n+1≤65537 by omega) hby) (by decide)
 have hv:v=.slice none 0 0 ∨ ∃ g n c,v=.slice (some ⟨g,0,none⟩) n c:=by
  rcases hl.2 with h | ⟨g,cap,h,_⟩
  ·exact .inl h.1
  ·exact .inr ⟨g,n,cap,h⟩
 rcases hl.2 with ⟨rfl,rfl⟩ | ⟨g0,cap0,rfl,q2,q3,q4,q5⟩
 ·have hx:xs=[]:=List.eq_nil_of_length_eq_zero (by simpa using hl.1)
  subst hx
  obtain ⟨v',w',hr,a1,a2,a3⟩:=run_append_own (P:=P) w w.heap.size t ty e i z sz bytes ht hi hz hk hb hzs hsz _ 0 [] (World.ownsRow_nil w _ e sz) ad 1 c news (by omega) hnews h1 (by unfold maxLen;omega) hmul (Nat.le_refl _)
  rcases a1.2 with ⟨_,h0⟩ | ⟨g,cap,cur',rfl,hge,hg,h2,h3,h4,h5⟩
  ·omega
  ·exact ⟨_,w',cur',hr,⟨a1.1,.inr ⟨g,cap,rfl,h2,h3,h4,h5⟩⟩,hf.grown a2 (.inr ⟨g,_,_,rfl,hg,.inr hge⟩) hv⟩
 ·have hbk:=(hf.new (g0,e,cur) (List.mem_append_right _ (List.mem_append_left _ (by simp [lstE])))).2
  have hown:w.ownsRow 0 e sz (.slice (some ⟨g0,0,none⟩) n cap0) n xs:=⟨hl.1,.inr ⟨g0,cap0,cur,rfl,Nat.zero_le _,hbk,q2,q3,q4,q5⟩⟩
  by_cases hroom:n+1≤cap0
  ·obtain ⟨w',hr,a1,a2⟩:=run_append_fits (P:=P) w 0 t ty e i sz ht hi hk g0 n cap0 xs hown ad 1 c news (by omega) hnews h1 hroom
   rcases a1.2 with ⟨h0,_⟩ | ⟨g,cap,cur',h0,_,hg,h2,h3,h4,h5⟩
   ·cases h0
   ·injection h0 with e1 e2 e3
    injection e1 with e1
    injection e1 with e1
    subst e1 e3
    exact ⟨_,w',cur',hr,⟨a1.1,.inr ⟨g0,cap0,rfl,h2,h3,h4,h5⟩⟩,hf.grown a2 (.inr ⟨g0,_,_,rfl,hg,.inl rfl⟩) hv⟩
  ·subst hk hb
   have hr:=run_append_grow (P:=P) w t ty e i z ht hi hz ⟨g0,0,none⟩ n cap0 xs hl.1 (hown.cells (g:=g0) rfl) ad 1 c news (by omega) hnews (by omega) (by omega) (growslice_fits (by omega) hmul)
   refine ⟨_,_,_,hr,?_,hf.grown (v:=.slice (some ⟨g0,0,none⟩) n cap0) ⟨rfl,rfl,rfl,by simp,fun k hk _=>by first | exact heap_alloc_old w.drew _ hk | exact heap_alloc_old w.drew _ _ hk⟩ (.inr ⟨w.heap.size,_,_,rfl,Bk.new w.drew _ _,.inr (Nat.le_refl _)⟩) hv⟩
   have hge:=grownCap_ge w (n+1) cap0 e
   have hlen:(xs ++ news).length=(n+1) * i.size:=by rw [List.length_append,hl.1,hnl,Nat.add_mul];omega
   refine ⟨hlen,.inr ⟨_,_,rfl,hge,grownCap_le_maxLen w (n+1) cap0 e (by unfold maxLen;omega),?_,?_⟩⟩
   ·simp only [Array.size_append,List.size_toArray,size_zeroCells,hzs,hl.1,hnl]
    have:n * i.size+i.size=(n+1) * i.size:=by rw [Nat.add_mul];omega
    rw [this,← Nat.add_mul]
    congr 1
    omega
   ·simp only [Array.toList_append,List.append_assoc]
    rw [← List.append_assoc,← hlen]
    exact List.take_left
section
variable {P:Program} {W w:World} {O N Y:List Ent} {e:TypeId} {sz bytes:Nat} {v z:Value} {cur:Array Value} {n:Nat} {xs:List Value}
theorem wpo_push {o:Oper} {a:Act} {K:Act→World→Prop} {Q:Exit→Act→World→Prop} (s x:Operand) (t:TypeId) (ho:o.op=.call { callee:=.builtin .append,args:=#[s,x],argTypes:=#[t,t] })
  (hf:Fr W O (N ++ (lstE e v cur ++ Y)) w) (hl:LstAt sz v cur n xs) (ht:P.underlying t=some (.slice e)) (hinf:(P.info? e).map (fun i=>(i.zero,i.size,i.bytes))=some (some z,sz,bytes)) (hzs:z.cells.size=sz) (hsz:0<sz) (hby:bytes≤4096) (hn:n≤65536)
  (g:Nat) (c:Nat) (cs:Array Value) (t':TypeId) (hs:a.eval s=v) (hx:a.eval x=.slice (some ⟨g,0,none⟩) 1 c) (hk:Bk w g t' cs) (hcs:cs.size=sz) (h1:(cs.toList.all fun u=>u.oneCell')=true)
  (h:∀ v' w' cur',LstAt sz v' cur' (n+1) (xs ++ cs.toList)→Fr W O (N ++ (lstE e v' cur' ++ Y)) w'→K (a.put o.dst v') w'):o.wp P a w K Q:=by
 obtain ⟨v',w',cur',hr,h2,h3⟩:=run_push (P:=P) hf hl t o.type ht hinf hzs hsz hby hn ⟨g,0,none⟩ c cs.toList (by simpa using hcs) (fun j u hj=>by rw [Addr.add_lit,Nat.zero_add,hk.cell,← Array.getElem?_toList];exact hj) (one_all h1)
 unfold Oper.wp execOp
 simp only [ho,resolve,invoke,builtin,Sem.run_bind,Sem.run_pure,Result.andThen_ok,List.map_toArray,List.map_cons,List.map_nil,hs,hx,hr]
 exact h v' w' cur' h2 h3
theorem wpList_push {ops:Array Oper} {rest:List Oper} {o:Oper} {a:Act} {Q:Exit→Act→World→Prop} (hgd:o.guard=none) (s x:Operand) (t:TypeId) (ho:o.op=.call { callee:=.builtin .append,args:=#[s,x],argTypes:=#[t,t] })
  (hf:Fr W O (N ++ (lstE e v cur ++ Y)) w) (hl:LstAt sz v cur n xs) (ht:P.underlying t=some (.slice e)) (hinf:(P.info? e).map (fun i=>(i.zero,i.size,i.bytes))=some (some z,sz,bytes)) (hzs:z.cells.size=sz) (hsz:0<sz) (hby:bytes≤4096) (hn:n≤65536)
  (g:Nat) (c:Nat) (cs:Array Value) (t':TypeId) (hs:a.eval s=v) (hx:a.eval x=.slice (some ⟨g,0,none⟩) 1 c) (hk:Bk w g t' cs) (hcs:cs.size=sz) (h1:(cs.toList.all fun u=>u.oneCell')=true)
  (h:∀ v' w' cur',LstAt sz v' cur' (n+1) (xs ++ cs.toList)→Fr W O (N ++ (lstE e v' cur' ++ Y)) w'→wpList P ops Q rest (a.put o.dst v') w'):wpList P ops Q (o :: rest) a w :=
 wpList_plain hgd fun _ hK=>wpo_push s x t ho hf hl ht hinf hzs hsz hby hn g c cs t' hs hx hk hcs h1 fun v' w' cur' h2 h3=>hK _ _ (h v' w' cur' h2 h3)
end
theorem Fr.allocM {W w:World} {O N T:List Ent} (h:Fr W O (N ++ T) w) {g:Nat} (hg:g=w.heap.size) (t:TypeId) (cs:Array Value):Fr W O ((N ++ [(g,t,cs)]) ++ T) (w.alloc (.cells cs t)):=by
 refine (h.alloc hg t cs).perm ?_
 rw [List.append_assoc,List.append_assoc]
 exact List.perm_append_comm.append_left _

/-- hull of two. -/
theorem hull2_ex {t1 t2:Bool} {x1 y1 x2 y2 v1 v2:Int} (h1:IsBig (.agg #[.bool t1,.int .u64 x1,.int .u64 y1]) v1) (h2:IsBig (.agg #[.bool t2,.int .u64 x2,.int .u64 y2]) v2) :
  ∃ tl xl yl th xh yh,IsBig (.agg #[.bool tl,.int .u64 xl,.int .u64 yl]) (min v1 v2)∧IsBig (.agg #[.bool th,.int .u64 xh,.int .u64 yh]) (max v1 v2)∧∀ (w:World) (g:Nat) (t:TypeId),Bk w g t #[.bool t1,.int .u64 x1,.int .u64 y1,.bool t2,.int .u64 x2,.int .u64 y2] →
   Calls Tryz.prog 139 #[.slice (some ⟨g,0,none⟩) 2 2] w fun e w'=>e=.returned (.tuple #[.agg #[.bool tl,.int .u64 xl,.int .u64 yl],.agg #[.bool th,.int .u64 xh,.int .u64 yh]])∧Below w.heap.size w w':=by
 obtain ⟨tf,htf⟩:∃ tf:Nat→Bool,tf=fun i=>match i with | 0=>t1 | _=>t2:=⟨_,rfl⟩
 obtain ⟨xf,hxf⟩:∃ tf:Nat→Int,tf=fun i=>match i with | 0=>x1 | _=>x2:=⟨_,rfl⟩
 obtain ⟨yf,hyf⟩:∃ tf:Nat→Int,tf=fun i=>match i with | 0=>y1 | _=>y2:=⟨_,rfl⟩
 obtain ⟨v,hv⟩:∃ v:Nat→Int,v=fun i=>match i with | 0=>v1 | _=>v2:=⟨_,rfl⟩
 have hV:∀ i,i<1+1→IsBig (.agg (bc tf xf yf i)) (v i):=fun i hi=>by
  match i,hi with
  | 0,_=>subst htf hxf hyf hv;exact h1
  | 1,_=>subst htf hxf hyf hv;exact h2
 have m1:IsBig (.agg (bc tf xf yf (pmin v 1))) (min v1 v2):=by
  have:=hV (pmin v 1) (Nat.lt_succ_of_le (pmin_le v 1))
  rw [pmin_val v] at this
  have e:minK v 1=min v1 v2:=by subst hv;show min v1 v2=_ ;rfl
  rwa [e] at this
 have m2:IsBig (.agg (bc tf xf yf (pmax v 1))) (max v1 v2):=by
  have:=hV (pmax v 1) (Nat.lt_succ_of_le (pmax_le v 1))
  rw [pmax_val v] at this
  have e:maxK v 1=max v1 v2:=by subst hv;show max v1 v2=_ ;rfl
  rwa [e] at this
 refine ⟨tf (pmin v 1),xf (pmin v 1),yf (pmin v 1),tf (pmax v 1),xf (pmax v 1),yf (pmax v 1),m1,m2,fun w g t hk=>?_⟩
 refine hull_ex w _ 1 2 tf xf yf v ⟨by omega,fun _=>⟨g,0,rfl,hk.lt,fun i hi j hj=>?_⟩⟩ hV (by omega) (by omega) (by omega) (by omega)
 rw [hk.cell]
 subst htf hxf hyf
 match i,j,hi,hj with
 | 0,0,_,_=>rfl
 | 0,1,_,_=>rfl
 | 0,2,_,_=>rfl
 | 1,0,_,_=>rfl
 | 1,1,_,_=>rfl
 | 1,2,_,_=>rfl
/-- hull of four. -/
theorem hull4_ex {t0 t1 t2 t3:Bool} {x0 y0 x1 y1 x2 y2 x3 y3 v0 v1 v2 v3:Int} (h0:IsBig (.agg #[.bool t0,.int .u64 x0,.int .u64 y0]) v0) (h1:IsBig (.agg #[.bool t1,.int .u64 x1,.int .u64 y1]) v1) (h2:IsBig (.agg #[.bool t2,.int .u64 x2,.int .u64 y2]) v2) (h3:IsBig (.agg #[.bool t3,.int .u64 x3,.int .u64 y3]) v3) :
  ∃ tl xl yl th xh yh,IsBig (.agg #[.bool tl,.int .u64 xl,.int .u64 yl]) (min4 v0 v1 v2 v3)∧IsBig (.agg #[.bool th,.int .u64 xh,.int .u64 yh]) (max4 v0 v1 v2 v3)∧∀ (w:World) (g:Nat) (t:TypeId),Bk w g t #[.bool t0,.int .u64 x0,.int .u64 y0,.bool t1,.int .u64 x1,.int .u64 y1,.bool t2,.int .u64 x2,.int .u64 y2,.bool t3,.int .u64 x3,.int .u64 y3] →
   Calls Tryz.prog 139 #[.slice (some ⟨g,0,none⟩) 4 4] w fun e w'=>e=.returned (.tuple #[.agg #[.bool tl,.int .u64 xl,.int .u64 yl],.agg #[.bool th,.int .u64 xh,.int .u64 yh]])∧Below w.heap.size w w':=by
 obtain ⟨tf,htf⟩:∃ tf:Nat→Bool,tf=fun i=>match i with | 0=>t0 | 1=>t1 | 2=>t2 | _=>t3:=⟨_,rfl⟩
 obtain ⟨xf,hxf⟩:∃ tf:Nat→Int,tf=fun i=>match i with | 0=>x0 | 1=>x1 | 2=>x2 | _=>x3:=⟨_,rfl⟩
 obtain ⟨yf,hyf⟩:∃ tf:Nat→Int,tf=fun i=>match i with | 0=>y0 | 1=>y1 | 2=>y2 | _=>y3:=⟨_,rfl⟩
 obtain ⟨v,hv⟩:∃ v:Nat→Int,v=fun i=>match i with | 0=>v0 | 1=>v1 | 2=>v2 | _=>v3:=⟨_,rfl⟩
 have hV:∀ i,i<3+1→IsBig (.agg (bc tf xf yf i)) (v i):=fun i hi=>by
  match i,hi with
  | 0,_=>subst htf hxf hyf hv;exact h0
  | 1,_=>subst htf hxf hyf hv;exact h1
  | 2,_=>subst htf hxf hyf hv;exact h2
  | 3,_=>subst htf hxf hyf hv;exact h3
 have m1:IsBig (.agg (bc tf xf yf (pmin v 3))) (min4 v0 v1 v2 v3):=by
  have:=hV (pmin v 3) (Nat.lt_succ_of_le (pmin_le v 3))
  rw [pmin_val v] at this
  have e:minK v 3=min4 v0 v1 v2 v3:=by subst hv;unfold min4;show min (min (min v0 v1) v2) v3=_;omega
  rwa [e] at this
 have m2:IsBig (.agg (bc tf xf yf (pmax v 3))) (max4 v0 v1 v2 v3):=by
  have:=hV (pmax v 3) (Nat.lt_succ_of_le (pmax_le v 3))
  rw [pmax_val v] at this
  have e:maxK v 3=max4 v0 v1 v2 v3:=by subst hv;unfold max4;show max (max (max v0 v1) v2) v3=_;omega
  rwa [e] at this
 refine ⟨tf (pmin v 3),xf (pmin v 3),yf (pmin v 3),tf (pmax v 3),xf (pmax v 3),yf (pmax v 3),m1,m2,fun w g t hk=>?_⟩
 refine hull_ex w _ 3 4 tf xf yf v ⟨by omega,fun _=>⟨g,0,rfl,hk.lt,fun i hi j hj=>?_⟩⟩ hV (by omega) (by omega) (by omega) (by omega)
 rw [hk.cell]
 subst htf hxf hyf
 match i,j,hi,hj with
 | 0,0,_,_=>rfl
 | 0,1,_,_=>rfl
 | 0,2,_,_=>rfl
 | 1,0,_,_=>rfl
 | 1,1,_,_=>rfl
 | 1,2,_,_=>rfl
 | 2,0,_,_=>rfl
 | 2,1,_,_=>rfl
 | 2,2,_,_=>rfl
 | 3,0,_,_=>rfl
 | 3,1,_,_=>rfl
 | 3,2,_,_=>rfl
theorem mul_range {a b:Int} (ha:I64 a) (hb:I64 b):-85070591730234615865843651857942052864≤a * b∧a * b≤85070591730234615865843651857942052864:=by
 have h1:=mul_one (lo:=-9223372036854775808) (hi:=9223372036854775807) (x:=a) (c:=b) ha.1 ha.2
 unfold I64 at hb
 omega
theorem scale_any (a:SpanD) (n:Int) (ha:WdS a) (hn:I64 n) (w:World):Calls Tryz.prog 136 #[spanV a,.int .i64 n] w (SpPost (scaleB a n) w.heap.size w):=by
 obtain ⟨lo,hi⟩:=a
 have H1:=Lib.hid (fun w=>check_any ⟨lo,hi⟩ w)
 unfold spanV at H1 ⊢
 dsimp only at H1 ⊢
 obtain ⟨⟨a1,a2⟩,a3,a4⟩:=ha
 dsimp only at a1 a2 a3 a4
 have z1:=mul_range (a:=lo) (b:=n) ⟨a1,a2⟩ hn
 have z2:=mul_range (a:=hi) (b:=n) ⟨a3,a4⟩ hn
 have HFIN:Hid (∀ w',Fr w [] [] w'→SpPost (scaleB ⟨lo,hi⟩ n) w.heap.size w (.returned (.tuple #[.agg #[.int .i64 (scaleB ⟨lo,hi⟩ n).1.lo,.int .i64 (scaleB ⟨lo,hi⟩ n).1.hi],.int .i64 (scaleB ⟨lo,hi⟩ n).2])) w'):=Lib.hid fun w' h=>⟨rfl,h.toBelow⟩
 cases hc:chkB ⟨lo,hi⟩ with
 | false =>
  have he:errC ⟨lo,hi⟩=2:=by unfold errC;rw [hc];rfl
  have hs:scaleB ⟨lo,hi⟩ n=(zeroS,2):=by unfold scaleB;rw [hc];rfl
  rw [he] at H1
  rw [hs] at HFIN ⊢
  clear hc he hs a1 a2 a3 a4 hn z1 z2
  obtain ⟨qb,hqb⟩:∃ qb,w.heap.size=qb:=⟨_,rfl⟩
  obtain ⟨W0,hW0⟩:∃ W0,(w.alloc (.cells #[.int .i64 lo,.int .i64 hi] 31)).alloc (.cells #[.int .i64 0,.int .i64 0] 31)=W0:=⟨_,rfl⟩
  have HF0:Hid (Fr w [] [(qb,31,iC [lo,hi]),(qb+1,31,iC [0,0])] W0):=Lib.hid (by rw [← hW0];exact ((Fr.start w).alloc (by simp [← hqb]) 31 #[.int .i64 lo,.int .i64 hi]).alloc (by simp [← hqb]) 31 #[.int .i64 0,.int .i64 0])
  go_enter Tryz.func136,Tryz.ntmps136
  go_upto_region 1 with (fail)
  clear hW0 hqb
  go_wp2_with (refine wpLoadF rfl 31 _ rfl qb 0 rfl _ _ (HF0.out.get 0 rfl) #[.int .i64 lo,.int .i64 hi] rfl _ und_span rfl info_span ?_)
  refine (H1.out _).mono ?_
  rintro e w1 ⟨rfl,hw⟩
  have HF2:=Lib.hid (HF0.out.below hw)
  clear hw
  go_wp2_with (refine wpStoreF rfl rfl 31 _ _ rfl (qb+1) 0 rfl #[.int .i64 0,.int .i64 0] rfl _ _ (iC [0,0]) (HF2.out.get 1 rfl) rfl (by show 0+2≤2;omega) (one_all rfl) info_span ?_;intro w3 hk ho;have HF4:=Lib.hid (HF2.out.only 1 rfl ho hk);clear ho hk)
  refine ret_agg2 rfl rfl rfl (HF4.out.get 1 rfl) rfl und_span rfl info_span ?_
  exact HFIN.out _ HF4.out.drop
 | true =>
  have he:errC ⟨lo,hi⟩=0:=by unfold errC;rw [hc];rfl
  have hs:scaleB ⟨lo,hi⟩ n=fitB (min (lo * n) (hi * n)) (max (lo * n) (hi * n)):=by unfold scaleB;rw [hc];rfl
  rw [he] at H1
  rw [hs] at HFIN ⊢
  obtain ⟨r1,hr1,hs1⟩:=times_ex lo n ⟨a1,a2⟩ hn
  obtain ⟨r2,hr2,hs2⟩:=times_ex hi n ⟨a3,a4⟩ hn
  obtain ⟨t1,x1,y1,rfl⟩:=big_cells hr1
  obtain ⟨t2,x2,y2,rfl⟩:=big_cells hr2
  obtain ⟨tl,xl,yl,th,xh,yh,hl,hh,HH⟩:=hull2_ex hr1 hr2
  have HFT:=Lib.hid (fun w=>fit_any hl hh (by unfold S127;omega) (by unfold S127;omega) w)
  have HT1:=Lib.hid hs1
  have HT2:=Lib.hid hs2
  replace HH:=Lib.hid HH
  unfold SpPost spanV at HFT
  obtain ⟨fl,hfl⟩:∃ z,(fitB (min (lo * n) (hi * n)) (max (lo * n) (hi * n))).1.lo=z:=⟨_,rfl⟩
  obtain ⟨fh,hfh⟩:∃ z,(fitB (min (lo * n) (hi * n)) (max (lo * n) (hi * n))).1.hi=z:=⟨_,rfl⟩
  obtain ⟨fe,hfe⟩:∃ z,(fitB (min (lo * n) (hi * n)) (max (lo * n) (hi * n))).2=z:=⟨_,rfl⟩
  rw [hfl,hfh,hfe] at HFT HFIN
  clear hc he hs a1 a2 a3 a4 hn z1 z2 hr1 hr2 hs1 hs2 hl hh hfl hfh hfe
  obtain ⟨qb,hqb⟩:∃ qb,w.heap.size=qb:=⟨_,rfl⟩
  obtain ⟨W0,hW0⟩:∃ W0,(w.alloc (.cells #[.int .i64 lo,.int .i64 hi] 31)).alloc (.cells #[.int .i64 0,.int .i64 0] 31)=W0:=⟨_,rfl⟩
  have HF0:Hid (Fr w [] [(qb,31,iC [lo,hi]),(qb+1,31,iC [0,0])] W0):=Lib.hid (by rw [← hW0];exact ((Fr.start w).alloc (by simp [← hqb]) 31 #[.int .i64 lo,.int .i64 hi]).alloc (by simp [← hqb]) 31 #[.int .i64 0,.int .i64 0])
  go_enter Tryz.func136,Tryz.ntmps136
  go_upto_region 1 with (fail)
  clear hW0 hqb
  go_wp2_with (refine wpLoadF rfl 31 _ rfl qb 0 rfl _ _ (HF0.out.get 0 rfl) #[.int .i64 lo,.int .i64 hi] rfl _ und_span rfl info_span ?_)
  refine (H1.out _).mono ?_
  rintro e w1 ⟨rfl,hw⟩
  have HF2:=Lib.hid (HF0.out.below hw)
  clear hw
  go_upto_region 4 with (fail)
  refine wp_region_fr [Kind.p,Kind.p,Kind.p,Kind.p,Kind.p,Kind.p,Kind.p,Kind.p,Kind.a 0,Kind.p,Kind.p,Kind.p,Kind.p,Kind.p,Kind.p,Kind.c 0,Kind.p] [15] [(8,217,fun _=>#[.bool t1,.int .u64 x1,.int .u64 y1,.bool t2,.int .u64 x2,.int .u64 y2])] w (fun _=>[]) (fun k=>[(qb,31,iC [lo,hi]),(qb+1,31,(if k≤0 then iC [0,0] else iC [fl,fh]))])
     (fun ix u _=>match ix with
      | 0=>u=.pointer (some ⟨qb,0,none⟩)
      | 1=>u=.int .i64 lo
      | 2=>u=.int .i64 n
      | 3=>u=.agg #[.bool t1,.int .u64 x1,.int .u64 y1]
      | 4=>u=.pointer (some ⟨qb,1,none⟩)
      | 5=>u=.int .i64 hi
      | 6=>u=.int .i64 n
      | 7=>u=.agg #[.bool t2,.int .u64 x2,.int .u64 y2]
      | 8=>u=.slice (some ⟨gOf u,0,none⟩) 2 2
      | 9=>u=.tuple #[.agg #[.bool tl,.int .u64 xl,.int .u64 yl],.agg #[.bool th,.int .u64 xh,.int .u64 yh]]
      | 10=>u=.agg #[.bool tl,.int .u64 xl,.int .u64 yl]
      | 11=>u=.agg #[.bool th,.int .u64 xh,.int .u64 yh]
      | 12=>u=.tuple #[.agg #[.int .i64 fl,.int .i64 fh],.int .i64 fe]
      | 13=>u=.agg #[.int .i64 fl,.int .i64 fh]
      | 14=>u=.int .i64 fe
      | 16=>u=.int .i64 fe
      | _=>True)
     (by kernel_rfl) (by kernel_rfl) (by kernel_rfl) [8] rfl (by decide) (by kernel_rfl) (by kernel_rfl) HF2.out ?_ ?_
  ·refine ⟨?_,?_,?_,?_,?_,?_,?_,?_,?_,?_,?_,?_,?_,?_,?_,?_,?_,trivial⟩
   all_goals intro a w1 vs dn k K S hpre KE DE kk
   ·have e2:=KE 2 (by decide)
    go_simp;exact kk _ _ (by simp) bR rfl
   ·have e13:=dep (DE 0 _ 13 rfl rfl rfl)
    have ca:w1.cell? ⟨qb,0,none⟩=some (.int .i64 lo):=(S.fr.left.get 0 rfl).cell 0
    go_simp;exact kk _ _ (by simp) bR rfl
   ·have e1:=KE 1 (by decide)
    go_simp;exact kk _ _ (by simp) bR rfl
   ·have e14:=dep (DE 1 _ 14 rfl rfl rfl)
    have e15:=dep (DE 2 _ 15 rfl rfl rfl)
    exact wpo_call 138 _ _ rfl #[.int .i64 lo,.int .i64 n] (by simp [Act.eval,e14,e15]) (fun args w=>by kernel_rfl)
     ((HT1.out w1).mono fun e w' ⟨he,hb⟩=>⟨_,he,kk _ _ (by simp) hb rfl⟩)
   ·have e2:=KE 2 (by decide)
    go_simp;exact kk _ _ (by simp) bR rfl
   ·have e17:=dep (DE 4 _ 17 rfl rfl rfl)
    have ca:w1.cell? ⟨qb,1,none⟩=some (.int .i64 hi):=(S.fr.left.get 0 rfl).cell 1
    go_simp;exact kk _ _ (by simp) bR rfl
   ·have e1:=KE 1 (by decide)
    go_simp;exact kk _ _ (by simp) bR rfl
   ·have e18:=dep (DE 5 _ 18 rfl rfl rfl)
    have e19:=dep (DE 6 _ 19 rfl rfl rfl)
    exact wpo_call 138 _ _ rfl #[.int .i64 hi,.int .i64 n] (by simp [Act.eval,e18,e19]) (fun args w=>by kernel_rfl)
     ((HT2.out w1).mono fun e w' ⟨he,hb⟩=>⟨_,he,kk _ _ (by simp) hb rfl⟩)
   ·have e16:=dep (DE 3 _ 16 rfl rfl rfl)
    have e20:=dep (DE 7 _ 20 rfl rfl rfl)
    go_simp;exact kk _ _ (by simp) (S.fr.alloc rfl _ _) rfl
   ·have e21:=dep (DE 8 _ 21 rfl rfl rfl)
    exact wpo_call 139 _ _ rfl #[.slice (some ⟨(gOf (vs 8)),0,none⟩) 2 2] (by simp [Act.eval,e21]) (fun args w=>by kernel_rfl)
     ((HH.out w1 _ _ (S.at 0 rfl (S.done 8 rfl))).mono fun e w' ⟨he,hb⟩=>⟨_,he,kk _ _ (by simp) hb rfl⟩)
   ·have e22:=dep (DE 9 _ 22 rfl rfl rfl)
    go_simp;exact kk _ _ (by simp) bR rfl
   ·have e22:=dep (DE 9 _ 22 rfl rfl rfl)
    go_simp;exact kk _ _ (by simp) bR rfl
   ·have e23:=dep (DE 10 _ 23 rfl rfl rfl)
    have e24:=dep (DE 11 _ 24 rfl rfl rfl)
    exact wpo_call 131 _ _ rfl #[.agg #[.bool tl,.int .u64 xl,.int .u64 yl],.agg #[.bool th,.int .u64 xh,.int .u64 yh]] (by simp [Act.eval,e23,e24]) (fun args w=>by kernel_rfl)
     ((HFT.out w1).mono fun e w' ⟨he,hb⟩=>⟨_,he,kk _ _ (by simp) hb rfl⟩)
   ·have e25:=dep (DE 12 _ 25 rfl rfl rfl)
    go_simp;exact kk _ _ (by simp) bR rfl
   ·have e25:=dep (DE 12 _ 25 rfl rfl rfl)
    go_simp;exact kk _ _ (by simp) bR rfl
   ·subst hpre
    have e4:=KE 4 (by decide)
    have e26:=dep (DE 13 _ 26 rfl rfl rfl)
    exact wpo_storeF 31 (.tmp 4) (.tmp 26) rfl rfl (qb+1) 0 (by simpa [Act.eval] using e4) #[.int .i64 fl,.int .i64 fh] (by simpa [Act.eval] using e26) _ _ (iC [fl,fh]) (by have:=S.fr.left.get 1 rfl;rw [if_pos (S.hi 0 15 rfl rfl)] at this;exact this) rfl (by show 0+2≤2;omega) (one_all rfl) info_span fun w' hk ho=>kk _ _ (by simp) (Fr.stage (S.fr.only 1 rfl ho hk) (by exact ⟨rfl,trivial⟩)) trivial
   ·have e27:=dep (DE 14 _ 27 rfl rfl rfl)
    go_simp;exact kk _ _ (by simp) bR rfl
  ·intro vs wf HFr HR
   have HFr':Fr w [] [(qb,31,iC [lo,hi]),(qb+1,31,iC [fl,fh]),((gOf (vs 8)),217,#[.bool t1,.int .u64 x1,.int .u64 y1,.bool t2,.int .u64 x2,.int .u64 y2])] wf:=HFr
   have v16:vs 16=.int .i64 fe:=HR 16 _ rfl
   clear HFr HR
   obtain ⟨g3_8,hg3_8⟩:∃ g,gOf (vs 8)=g:=⟨_,rfl⟩
   rw [hg3_8] at HFr'
   clear hg3_8
   have HF3:=Lib.hid HFr'
   clear HFr'
   simp only [putAll,Act.put,List.setIfInBounds_toArray,List.set_cons_zero,List.set_cons_succ]
   simp only [v16]
   clear v16
   obtain ⟨w3,rfl⟩:∃ u:World,u=wf:=⟨_,rfl⟩
   go_wp2_with fail
   refine ret_agg2 rfl rfl rfl (HF3.out.get 1 rfl) rfl und_span rfl info_span ?_
   exact HFIN.out _ HF3.out.drop
/-- Mul's closure. -/
theorem mulc_ex (a b:Int) (ha:I64 a) (hb:I64 b):∃ t x y,IsBig (.agg #[.bool t,.int .u64 x,.int .u64 y]) (a * b)∧∀ w,Calls Tryz.prog 137 #[.int .i64 a,.int .i64 b] w fun e w'=>e=.returned (.agg #[.bool t,.int .u64 x,.int .u64 y])∧Below w.heap.size w w':=by
 obtain ⟨r,hr,hs⟩:=times_ex a b ha hb
 obtain ⟨t,x,y,rfl⟩:=big_cells hr
 refine ⟨t,x,y,hr,fun w=>?_⟩
 have H1:=Lib.hid hs
 have HFIN:Hid (∀ w',Fr w [] [] w'→Below w.heap.size w w'):=Lib.hid fun w' h=>h.toBelow
 clear hr hs ha hb
 obtain ⟨qb,hqb⟩:∃ qb,w.heap.size=qb:=⟨_,rfl⟩
 obtain ⟨W0,hW0⟩:∃ W0,w.alloc (.cells #[.bool false,.int .u64 0,.int .u64 0] 217)=W0:=⟨_,rfl⟩
 have HF0:Hid (Fr w [] [(qb,217,#[.bool false,.int .u64 0,.int .u64 0])] W0):=Lib.hid (by rw [← hW0];exact (Fr.start w).alloc (by simp [← hqb]) 217 #[.bool false,.int .u64 0,.int .u64 0])
 go_enter Tryz.func137,Tryz.ntmps137
 go_upto_region 1 with (fail)
 clear hW0 hqb
 go_wp2_with fail
 refine (H1.out _).mono ?_
 rintro e w1 ⟨rfl,hw⟩
 have HF2:=Lib.hid (HF0.out.below hw)
 clear hw
 go_wp2_with (refine wpStoreF rfl rfl 217 _ _ rfl qb 0 rfl #[.bool t,.int .u64 x,.int .u64 y] rfl _ _ #[.bool t,.int .u64 x,.int .u64 y] (HF2.out.get 0 rfl) rfl (by show 0+3≤3;omega) (one_all rfl) info_big ?_;intro w3 hk ho;have HF4:=Lib.hid (HF2.out.only 0 rfl ho hk);clear ho hk)
 refine ret_agg rfl rfl rfl (HF4.out.get 0 rfl) und_big rfl info_big ?_
 exact ⟨rfl,HFIN.out _ HF4.out.drop⟩
theorem checked2_ex (a b:SpanD) (w:World) (g:Nat) (t:TypeId) (hk:Bk w g t #[.int .i64 a.lo,.int .i64 a.hi,.int .i64 b.lo,.int .i64 b.hi]) :
  Calls Tryz.prog 127 #[.slice (some ⟨g,0,none⟩) 2 2] w fun e w'=>e=.returned (.int .i64 (if (chkB a && chkB b)=true then 0 else 2))∧Below w.heap.size w w':=by
 have h:=checked_any w (some ⟨g,0,none⟩) 2 2 (fun i=>match i with | 0=>a | _=>b) ⟨by omega,fun _=>⟨g,0,rfl,hk.lt,fun i hi j hj=>by
  match i,j,hi,hj with
  | 0,0,_,_=>exact hk.cell 0
  | 0,1,_,_=>exact hk.cell 1
  | 1,0,_,_=>exact hk.cell 2
  | 1,1,_,_=>exact hk.cell 3⟩⟩ (by omega)
 have e:(if (allN 2 fun i=>chkB ((fun i=>match i with | 0=>a | _=>b) i))=true then (0:Int) else 2)=if (chkB a && chkB b)=true then 0 else 2:=by
  show (if (chkB a && (chkB b && true))=true then (0:Int) else 2)=_
  rw [Bool.and_true]
 rw [e] at h
 exact h
theorem divide_big {a:Value} {v b:Int} (ha:IsBig a v) (hv:S127 v) (hb:0<b) (hb2:b≤18446744073709551615) (w:World) :
  Calls Tryz.prog 140 #[a,bigV false 0 b] w fun e w'=>∃ t x y t' x' y',e=.returned (.tuple #[.agg #[.bool t,.int .u64 x,.int .u64 y],.agg #[.bool t',.int .u64 x',.int .u64 y']])∧IsBig (.agg #[.bool t,.int .u64 x,.int .u64 y]) (v / b)∧IsBig (.agg #[.bool t',.int .u64 x',.int .u64 y']) (-(-v / b))∧Below w.heap.size w w':=by
 obtain ⟨n,m,rfl,p,q⟩:=ha
 obtain ⟨m,rfl⟩:=Int.eq_ofNat_of_zero_le p
 obtain ⟨b,rfl⟩:=Int.eq_ofNat_of_zero_le (show 0≤b by omega)
 have s:=val_size p q
 obtain ⟨hv1,hv2⟩:=hv
 have h:=divide_any n m b (by omega) (by omega) (by omega) w
 rw [q] at h
 refine Calls.mono (show Calls _ _ #[bigN n (m:Int),bigV false 0 (b:Int)] w _ from h) ?_
 rintro e w' ⟨x,y,rfl,hx,hy,hw⟩
 obtain ⟨t,x1,x2,rfl⟩:=big_cells hx
 obtain ⟨t',y1,y2,rfl⟩:=big_cells hy
 exact ⟨_,_,_,_,_,_,rfl,hx,hy,hw⟩
theorem ediv32_range {v:Int} (h1:-85070591730234615865843651857942052864≤v) (h2:v≤85070591730234615865843651857942052864):S127 (v / 4294967296)∧S127 (-(-v / 4294967296)):=by unfold S127;omega
theorem mul_any (a b:SpanD) (ha:WdS a) (hb:WdS b) (w:World):Calls Tryz.prog 74 #[spanV a,spanV b] w (SpPost (mulB a b) w.heap.size w):=by
 have HCK:=Lib.hid (fun w g t h=>checked2_ex a b w g t h)
 have HFIN:Hid (∀ w',Fr w [] [] w'→SpPost (mulB a b) w.heap.size w (.returned (.tuple #[.agg #[.int .i64 (mulB a b).1.lo,.int .i64 (mulB a b).1.hi],.int .i64 (mulB a b).2])) w'):=Lib.hid fun w' h=>⟨rfl,h.toBelow⟩
 cases hc:chkB a && chkB b with
 | false =>
  have hs:mulB a b=(zeroS,2):=by unfold mulB;rw [hc];rfl
  rw [hs] at HFIN ⊢
  rw [hc] at HCK
  obtain ⟨al,ah⟩:=a
  obtain ⟨bl,bh⟩:=b
  clear hc hs ha hb
  unfold spanV
  dsimp only at HCK HFIN ⊢
  obtain ⟨qb,hqb⟩:∃ qb,w.heap.size=qb:=⟨_,rfl⟩
  obtain ⟨W0,hW0⟩:∃ W0,((w.alloc (.cells #[.int .i64 al,.int .i64 ah] 31)).alloc (.cells #[.int .i64 bl,.int .i64 bh] 31)).alloc (.cells #[.int .i64 0,.int .i64 0] 31)=W0:=⟨_,rfl⟩
  have HF0:Hid (Fr w [] [(qb,31,iC [al,ah]),(qb+1,31,iC [bl,bh]),(qb+1+1,31,iC [0,0])] W0):=Lib.hid (by rw [← hW0];exact (((Fr.start w).alloc (by simp [← hqb]) 31 #[.int .i64 al,.int .i64 ah]).alloc (by simp [← hqb]) 31 #[.int .i64 bl,.int .i64 bh]).alloc (by simp [← hqb]) 31 #[.int .i64 0,.int .i64 0])
  go_enter Tryz.func74,Tryz.ntmps74
  go_upto_region 1 with (fail)
  clear hW0 hqb
  obtain ⟨g1,hg1⟩:∃ g,W0.heap.size=g:=⟨_,rfl⟩
  obtain ⟨w1,hw1⟩:∃ u,W0.alloc (.cells #[.int .i64 al,.int .i64 ah,.int .i64 bl,.int .i64 bh] 31)=u:=⟨_,rfl⟩
  have HF2:=Lib.hid (frE hw1 (HF0.out.alloc hg1.symm 31 #[.int .i64 al,.int .i64 ah,.int .i64 bl,.int .i64 bh]))
  go_wp2_with (first
    | (refine wpLoadF rfl 31 _ rfl qb 0 rfl _ _ (HF0.out.get 0 rfl) #[.int .i64 al,.int .i64 ah] rfl _ und_span rfl info_span ?_)
    | (refine wpLoadF rfl 31 _ rfl (qb+1) 0 rfl _ _ (HF0.out.get 1 rfl) #[.int .i64 bl,.int .i64 bh] rfl _ und_span rfl info_span ?_))
  clear hw1 hg1
  refine (HCK.out _ g1 31 (HF2.out.get 3 rfl)).mono ?_
  rintro e w3 ⟨rfl,hw⟩
  have HF4:=Lib.hid (HF2.out.below hw)
  clear hw
  go_wp2_with (refine wpStoreF rfl rfl 31 _ _ rfl (qb+1+1) 0 rfl #[.int .i64 0,.int .i64 0] rfl _ _ (iC [0,0]) (HF4.out.get 2 rfl) rfl (by show 0+2≤2;omega) (one_all rfl) info_span ?_;intro w5 hk ho;have HF6:=Lib.hid (HF4.out.only 2 rfl ho hk);clear ho hk)
  refine ret_agg2 rfl rfl rfl (HF6.out.get 2 rfl) rfl und_span rfl info_span ?_
  exact HFIN.out _ HF6.out.drop
 | true =>
  have hs:mulB a b=fitB (dn32 (min4 (a.lo * b.lo) (a.lo * b.hi) (a.hi * b.lo) (a.hi * b.hi))) (up32 (max4 (a.lo * b.lo) (a.lo * b.hi) (a.hi * b.lo) (a.hi * b.hi))):=by unfold mulB;rw [hc];rfl
  rw [hs] at HFIN ⊢
  rw [hc] at HCK
  obtain ⟨al,ah⟩:=a
  obtain ⟨bl,bh⟩:=b
  unfold spanV
  dsimp only at HCK HFIN ⊢
  obtain ⟨a1,a2⟩:=ha
  obtain ⟨b1,b2⟩:=hb
  dsimp only at a1 a2 b1 b2
  obtain ⟨t00,x00,y00,h00,HM00⟩:=mulc_ex al bl a1 b1
  obtain ⟨t01,x01,y01,h01,HM01⟩:=mulc_ex al bh a1 b2
  obtain ⟨t10,x10,y10,h10,HM10⟩:=mulc_ex ah bl a2 b1
  obtain ⟨t11,x11,y11,h11,HM11⟩:=mulc_ex ah bh a2 b2
  replace HM00:=Lib.hid HM00
  replace HM01:=Lib.hid HM01
  replace HM10:=Lib.hid HM10
  replace HM11:=Lib.hid HM11
  obtain ⟨tl,xl,yl,th,xh,yh,hl,hh,HH⟩:=hull4_ex h00 h01 h10 h11
  replace HH:=Lib.hid HH
  have r00:=mul_range a1 b1
  have r01:=mul_range a1 b2
  have r10:=mul_range a2 b1
  have r11:=mul_range a2 b2
  unfold dn32 up32 at HFIN ⊢
  obtain ⟨vl,hvl⟩:∃ z,min4 (al * bl) (al * bh) (ah * bl) (ah * bh)=z:=⟨_,rfl⟩
  obtain ⟨vh,hvh⟩:∃ z,max4 (al * bl) (al * bh) (ah * bl) (ah * bh)=z:=⟨_,rfl⟩
  have HZ1:Hid (-85070591730234615865843651857942052864≤vl∧vl≤85070591730234615865843651857942052864):=Lib.hid (by rw [← hvl];unfold min4;omega)
  have HZ2:Hid (-85070591730234615865843651857942052864≤vh∧vh≤85070591730234615865843651857942052864):=Lib.hid (by rw [← hvh];unfold max4;omega)
  rw [hvl] at hl HFIN
  rw [hvh] at hh HFIN
  rw [hvl,hvh]
  have HD1:=Lib.hid (fun w=>divide_big (b:=4294967296) hl (by have:=HZ1.out;unfold S127;omega) (by omega) (by omega) w)
  have HD2:=Lib.hid (fun w=>divide_big (b:=4294967296) hh (by have:=HZ2.out;unfold S127;omega) (by omega) (by omega) w)
  unfold bigV at HD1 HD2
  have HONE:Hid (∀ w,Calls Tryz.prog 130 #[.int .i64 4294967296] w fun e w'=>e=.returned (.agg #[.bool false,.int .u64 0,.int .u64 4294967296])∧Below w.heap.size w w'):=Lib.hid fun w=>of_any 4294967296 (by unfold I64;omega) w
  obtain ⟨⟨⟨fl,fh⟩,fe⟩,hfe⟩:∃ z:SpanD × Int,fitB (vl / 4294967296) (-(-vh / 4294967296))=z:=⟨_,rfl⟩
  have HFE:=Lib.hid hfe
  rw [hfe] at HFIN
  rw [hfe]
  dsimp only at HFIN
  clear hc hs a1 a2 b1 b2 h00 h01 h10 h11 hl hh r00 r01 r10 r11 hvl hvh hfe
  obtain ⟨qb,hqb⟩:∃ qb,w.heap.size=qb:=⟨_,rfl⟩
  obtain ⟨W0,hW0⟩:∃ W0,((w.alloc (.cells #[.int .i64 al,.int .i64 ah] 31)).alloc (.cells #[.int .i64 bl,.int .i64 bh] 31)).alloc (.cells #[.int .i64 0,.int .i64 0] 31)=W0:=⟨_,rfl⟩
  have HF0:Hid (Fr w [] [(qb,31,iC [al,ah]),(qb+1,31,iC [bl,bh]),(qb+1+1,31,iC [0,0])] W0):=Lib.hid (by rw [← hW0];exact (((Fr.start w).alloc (by simp [← hqb]) 31 #[.int .i64 al,.int .i64 ah]).alloc (by simp [← hqb]) 31 #[.int .i64 bl,.int .i64 bh]).alloc (by simp [← hqb]) 31 #[.int .i64 0,.int .i64 0])
  go_enter Tryz.func74,Tryz.ntmps74
  go_upto_region 1 with (fail)
  clear hW0 hqb
  obtain ⟨g1,hg1⟩:∃ g,W0.heap.size=g:=⟨_,rfl⟩
  obtain ⟨w1,hw1⟩:∃ u,W0.alloc (.cells #[.int .i64 al,.int .i64 ah,.int .i64 bl,.int .i64 bh] 31)=u:=⟨_,rfl⟩
  have HF2:=Lib.hid (frE hw1 (HF0.out.alloc hg1.symm 31 #[.int .i64 al,.int .i64 ah,.int .i64 bl,.int .i64 bh]))
  go_wp2_with (first
    | (refine wpLoadF rfl 31 _ rfl qb 0 rfl _ _ (HF0.out.get 0 rfl) #[.int .i64 al,.int .i64 ah] rfl _ und_span rfl info_span ?_)
    | (refine wpLoadF rfl 31 _ rfl (qb+1) 0 rfl _ _ (HF0.out.get 1 rfl) #[.int .i64 bl,.int .i64 bh] rfl _ und_span rfl info_span ?_))
  clear hw1 hg1
  refine (HCK.out _ g1 31 (HF2.out.get 3 rfl)).mono ?_
  rintro e w3 ⟨rfl,hw⟩
  have HF4:=Lib.hid (HF2.out.below hw)
  clear hw
  go_upto_region 5 with (fail)
  refine wp_region_fr [Kind.p,Kind.p,Kind.p,Kind.p,Kind.p,Kind.p,Kind.p,Kind.p,Kind.p,Kind.p,Kind.p,Kind.p,Kind.p,Kind.p,Kind.p,Kind.p,Kind.p,Kind.p,Kind.p,Kind.p,Kind.p,Kind.p,Kind.p,Kind.p,Kind.a 0,Kind.p,Kind.p,Kind.p,Kind.p,Kind.a 1,Kind.a 2,Kind.c 0,Kind.c 1] [31,32] [(24,217,fun _=>#[.bool t00,.int .u64 x00,.int .u64 y00,.bool t01,.int .u64 x01,.int .u64 y01,.bool t10,.int .u64 x10,.int .u64 y10,.bool t11,.int .u64 x11,.int .u64 y11]),(29,217,fun k=>(if k≤0 then #[.bool false,.int .u64 0,.int .u64 0] else #[.bool tl,.int .u64 xl,.int .u64 yl])),(30,217,fun k=>(if k≤1 then #[.bool false,.int .u64 0,.int .u64 0] else #[.bool th,.int .u64 xh,.int .u64 yh]))] w (fun _=>[]) (fun _=>_)
     (fun ix u _=>match ix with
      | 0=>u=.func (.func 137) #[] #[]
      | 1=>u=.pointer (some ⟨qb,0,none⟩)
      | 2=>u=.int .i64 al
      | 3=>u=.pointer (some ⟨qb+1,0,none⟩)
      | 4=>u=.int .i64 bl
      | 5=>u=.agg #[.bool t00,.int .u64 x00,.int .u64 y00]
      | 6=>u=.func (.func 137) #[] #[]
      | 7=>u=.pointer (some ⟨qb,0,none⟩)
      | 8=>u=.int .i64 al
      | 9=>u=.pointer (some ⟨qb+1,1,none⟩)
      | 10=>u=.int .i64 bh
      | 11=>u=.agg #[.bool t01,.int .u64 x01,.int .u64 y01]
      | 12=>u=.func (.func 137) #[] #[]
      | 13=>u=.pointer (some ⟨qb,1,none⟩)
      | 14=>u=.int .i64 ah
      | 15=>u=.pointer (some ⟨qb+1,0,none⟩)
      | 16=>u=.int .i64 bl
      | 17=>u=.agg #[.bool t10,.int .u64 x10,.int .u64 y10]
      | 18=>u=.func (.func 137) #[] #[]
      | 19=>u=.pointer (some ⟨qb,1,none⟩)
      | 20=>u=.int .i64 ah
      | 21=>u=.pointer (some ⟨qb+1,1,none⟩)
      | 22=>u=.int .i64 bh
      | 23=>u=.agg #[.bool t11,.int .u64 x11,.int .u64 y11]
      | 24=>u=.slice (some ⟨gOf u,0,none⟩) 4 4
      | 25=>u=.tuple #[.agg #[.bool tl,.int .u64 xl,.int .u64 yl],.agg #[.bool th,.int .u64 xh,.int .u64 yh]]
      | 26=>u=.tuple #[.agg #[.bool tl,.int .u64 xl,.int .u64 yl],.agg #[.bool th,.int .u64 xh,.int .u64 yh]]
      | 27=>u=.agg #[.bool tl,.int .u64 xl,.int .u64 yl]
      | 28=>u=.agg #[.bool th,.int .u64 xh,.int .u64 yh]
      | 29=>u=.pointer (some ⟨gOf u,0,none⟩)
      | 30=>u=.pointer (some ⟨gOf u,0,none⟩)
      | _=>True)
     (by kernel_rfl) (by kernel_rfl) (by kernel_rfl) [24,29,30] rfl (by decide) (by kernel_rfl) (by kernel_rfl) HF4.out ?_ ?_
  ·refine ⟨?_,?_,?_,?_,?_,?_,?_,?_,?_,?_,?_,?_,?_,?_,?_,?_,?_,?_,?_,?_,?_,?_,?_,?_,?_,?_,?_,?_,?_,?_,?_,?_,?_,trivial⟩
   all_goals intro a w1 vs dn k K S hpre KE DE kk
   ·have e7:=KE 7 (by decide)
    go_simp;exact kk _ _ (by simp) bR rfl
   ·have e2:=KE 2 (by decide)
    go_simp;exact kk _ _ (by simp) bR rfl
   ·have e25:=dep (DE 1 _ 25 rfl rfl rfl)
    have ca:w1.cell? ⟨qb,0,none⟩=some (.int .i64 al):=(S.fr.left.get 0 rfl).cell 0
    go_simp;exact kk _ _ (by simp) bR rfl
   ·have e3:=KE 3 (by decide)
    go_simp;exact kk _ _ (by simp) bR rfl
   ·have e27:=dep (DE 3 _ 27 rfl rfl rfl)
    have ca:w1.cell? ⟨qb+1,0,none⟩=some (.int .i64 bl):=(S.fr.left.get 1 rfl).cell 0
    go_simp;exact kk _ _ (by simp) bR rfl
   ·have e24:=dep (DE 0 _ 24 rfl rfl rfl)
    have e26:=dep (DE 2 _ 26 rfl rfl rfl)
    have e28:=dep (DE 4 _ 28 rfl rfl rfl)
    exact wpo_callV 137 (.tmp 24) _ _ rfl (by simpa [Act.eval] using e24) #[.int .i64 al,.int .i64 bl] (by simp [Act.eval,e26,e28]) (fun args w=>by kernel_rfl)
     ((HM00.out w1).mono fun e w' ⟨he,hb⟩=>⟨_,he,kk _ _ (by simp) hb rfl⟩)
   ·have e7:=KE 7 (by decide)
    go_simp;exact kk _ _ (by simp) bR rfl
   ·have e2:=KE 2 (by decide)
    go_simp;exact kk _ _ (by simp) bR rfl
   ·have e31:=dep (DE 7 _ 31 rfl rfl rfl)
    have ca:w1.cell? ⟨qb,0,none⟩=some (.int .i64 al):=(S.fr.left.get 0 rfl).cell 0
    go_simp;exact kk _ _ (by simp) bR rfl
   ·have e3:=KE 3 (by decide)
    go_simp;exact kk _ _ (by simp) bR rfl
   ·have e33:=dep (DE 9 _ 33 rfl rfl rfl)
    have ca:w1.cell? ⟨qb+1,1,none⟩=some (.int .i64 bh):=(S.fr.left.get 1 rfl).cell 1
    go_simp;exact kk _ _ (by simp) bR rfl
   ·have e30:=dep (DE 6 _ 30 rfl rfl rfl)
    have e32:=dep (DE 8 _ 32 rfl rfl rfl)
    have e34:=dep (DE 10 _ 34 rfl rfl rfl)
    exact wpo_callV 137 (.tmp 30) _ _ rfl (by simpa [Act.eval] using e30) #[.int .i64 al,.int .i64 bh] (by simp [Act.eval,e32,e34]) (fun args w=>by kernel_rfl)
     ((HM01.out w1).mono fun e w' ⟨he,hb⟩=>⟨_,he,kk _ _ (by simp) hb rfl⟩)
   ·have e7:=KE 7 (by decide)
    go_simp;exact kk _ _ (by simp) bR rfl
   ·have e2:=KE 2 (by decide)
    go_simp;exact kk _ _ (by simp) bR rfl
   ·have e37:=dep (DE 13 _ 37 rfl rfl rfl)
    have ca:w1.cell? ⟨qb,1,none⟩=some (.int .i64 ah):=(S.fr.left.get 0 rfl).cell 1
    go_simp;exact kk _ _ (by simp) bR rfl
   ·have e3:=KE 3 (by decide)
    go_simp;exact kk _ _ (by simp) bR rfl
   ·have e39:=dep (DE 15 _ 39 rfl rfl rfl)
    have ca:w1.cell? ⟨qb+1,0,none⟩=some (.int .i64 bl):=(S.fr.left.get 1 rfl).cell 0
    go_simp;exact kk _ _ (by simp) bR rfl
   ·have e36:=dep (DE 12 _ 36 rfl rfl rfl)
    have e38:=dep (DE 14 _ 38 rfl rfl rfl)
    have e40:=dep (DE 16 _ 40 rfl rfl rfl)
    exact wpo_callV 137 (.tmp 36) _ _ rfl (by simpa [Act.eval] using e36) #[.int .i64 ah,.int .i64 bl] (by simp [Act.eval,e38,e40]) (fun args w=>by kernel_rfl)
     ((HM10.out w1).mono fun e w' ⟨he,hb⟩=>⟨_,he,kk _ _ (by simp) hb rfl⟩)
   ·have e7:=KE 7 (by decide)
    go_simp;exact kk _ _ (by simp) bR rfl
   ·have e2:=KE 2 (by decide)
    go_simp;exact kk _ _ (by simp) bR rfl
   ·have e43:=dep (DE 19 _ 43 rfl rfl rfl)
    have ca:w1.cell? ⟨qb,1,none⟩=some (.int .i64 ah):=(S.fr.left.get 0 rfl).cell 1
    go_simp;exact kk _ _ (by simp) bR rfl
   ·have e3:=KE 3 (by decide)
    go_simp;exact kk _ _ (by simp) bR rfl
   ·have e45:=dep (DE 21 _ 45 rfl rfl rfl)
    have ca:w1.cell? ⟨qb+1,1,none⟩=some (.int .i64 bh):=(S.fr.left.get 1 rfl).cell 1
    go_simp;exact kk _ _ (by simp) bR rfl
   ·have e42:=dep (DE 18 _ 42 rfl rfl rfl)
    have e44:=dep (DE 20 _ 44 rfl rfl rfl)
    have e46:=dep (DE 22 _ 46 rfl rfl rfl)
    exact wpo_callV 137 (.tmp 42) _ _ rfl (by simpa [Act.eval] using e42) #[.int .i64 ah,.int .i64 bh] (by simp [Act.eval,e44,e46]) (fun args w=>by kernel_rfl)
     ((HM11.out w1).mono fun e w' ⟨he,hb⟩=>⟨_,he,kk _ _ (by simp) hb rfl⟩)
   ·have e29:=dep (DE 5 _ 29 rfl rfl rfl)
    have e35:=dep (DE 11 _ 35 rfl rfl rfl)
    have e41:=dep (DE 17 _ 41 rfl rfl rfl)
    have e47:=dep (DE 23 _ 47 rfl rfl rfl)
    go_simp;exact kk _ _ (by simp) (S.fr.alloc rfl _ _) rfl
   ·have e48:=dep (DE 24 _ 48 rfl rfl rfl)
    exact wpo_call 139 _ _ rfl #[.slice (some ⟨(gOf (vs 24)),0,none⟩) 4 4] (by simp [Act.eval,e48]) (fun args w=>by kernel_rfl)
     ((HH.out w1 _ _ (S.at 0 rfl (S.done 24 rfl))).mono fun e w' ⟨he,hb⟩=>⟨_,he,kk _ _ (by simp) hb rfl⟩)
   ·have e49:=dep (DE 25 _ 49 rfl rfl rfl)
    go_simp;exact kk _ _ (by simp) bR rfl
   ·have e23:=dep (DE 26 _ 23 rfl rfl rfl)
    go_simp;exact kk _ _ (by simp) bR rfl
   ·have e23:=dep (DE 26 _ 23 rfl rfl rfl)
    go_simp;exact kk _ _ (by simp) bR rfl
   ·go_simp;exact kk _ _ (by simp) (by have h:=S.fr.alloc rfl 217 #[.bool false,.int .u64 0,.int .u64 0];show Fr _ _ (_ ++ [(_,217,if k≤0 then _ else _)]) _;rw [if_pos (S.hi 0 31 rfl rfl)];exact h) rfl
   ·go_simp;exact kk _ _ (by simp) (by have h:=S.fr.alloc rfl 217 #[.bool false,.int .u64 0,.int .u64 0];show Fr _ _ (_ ++ [(_,217,if k≤1 then _ else _)]) _;rw [if_pos (S.hi 1 32 rfl rfl)];exact h) rfl
   ·subst hpre
    have e8:=dep (DE 29 _ 8 rfl rfl rfl)
    have e50:=dep (DE 27 _ 50 rfl rfl rfl)
    have HS:=Fr.done S.fr (by exact ⟨S.done 24 rfl,S.done 29 rfl,S.done 30 rfl,trivial⟩)
    exact wpo_storeF 217 (.tmp 8) (.tmp 50) rfl rfl ((gOf (vs 29))) 0 (by simpa [Act.eval] using e8) #[.bool tl,.int .u64 xl,.int .u64 yl] (by simpa [Act.eval] using e50) _ _ #[.bool tl,.int .u64 xl,.int .u64 yl] (HS.get 5 rfl) rfl (by show 0+3≤3;omega) (one_all rfl) info_big fun w' hk ho=>kk _ _ (by simp) (Fr.undone (HS.only 5 rfl ho hk) (by exact ⟨S.done 24 rfl,S.done 29 rfl,S.done 30 rfl,trivial⟩)) trivial
   ·subst hpre
    have e9:=dep (DE 30 _ 9 rfl rfl rfl)
    have e51:=dep (DE 28 _ 51 rfl rfl rfl)
    have HS:=Fr.done S.fr (by exact ⟨S.done 24 rfl,S.done 29 rfl,S.done 30 rfl,trivial⟩)
    exact wpo_storeF 217 (.tmp 9) (.tmp 51) rfl rfl ((gOf (vs 30))) 0 (by simpa [Act.eval] using e9) #[.bool th,.int .u64 xh,.int .u64 yh] (by simpa [Act.eval] using e51) _ _ #[.bool th,.int .u64 xh,.int .u64 yh] (HS.get 6 rfl) rfl (by show 0+3≤3;omega) (one_all rfl) info_big fun w' hk ho=>kk _ _ (by simp) (Fr.undone (HS.only 6 rfl ho hk) (by exact ⟨S.done 24 rfl,S.done 29 rfl,S.done 30 rfl,trivial⟩)) trivial
  ·intro vs wf HFr HR
   have HFr':Fr w [] [(qb,31,iC [al,ah]),(qb+1,31,iC [bl,bh]),(qb+1+1,31,iC [0,0]),(g1,31,iC [al,ah,bl,bh]),((gOf (vs 24)),217,#[.bool t00,.int .u64 x00,.int .u64 y00,.bool t01,.int .u64 x01,.int .u64 y01,.bool t10,.int .u64 x10,.int .u64 y10,.bool t11,.int .u64 x11,.int .u64 y11]),((gOf (vs 29)),217,#[.bool tl,.int .u64 xl,.int .u64 yl]),((gOf (vs 30)),217,#[.bool th,.int .u64 xh,.int .u64 yh])] wf:=HFr
   have v29:vs 29=.pointer (some ⟨(gOf (vs 29)),0,none⟩):=HR 29 _ rfl
   have v30:vs 30=.pointer (some ⟨(gOf (vs 30)),0,none⟩):=HR 30 _ rfl
   clear HFr HR
   obtain ⟨g5_24,hg5_24⟩:∃ g,gOf (vs 24)=g:=⟨_,rfl⟩
   obtain ⟨g5_29,hg5_29⟩:∃ g,gOf (vs 29)=g:=⟨_,rfl⟩
   obtain ⟨g5_30,hg5_30⟩:∃ g,gOf (vs 30)=g:=⟨_,rfl⟩
   rw [hg5_24,hg5_29,hg5_30] at HFr'
   rw [hg5_29] at v29
   rw [hg5_30] at v30
   clear hg5_24 hg5_29 hg5_30
   have HF5:=Lib.hid HFr'
   clear HFr'
   simp only [putAll,Act.put,List.setIfInBounds_toArray,List.set_cons_zero,List.set_cons_succ]
   simp only [v29,v30]
   clear v29 v30
   obtain ⟨w5,rfl⟩:∃ u:World,u=wf:=⟨_,rfl⟩
   go_wp2_with fail
   refine (HONE.out _).mono ?_
   rintro e w6 ⟨rfl,hw⟩
   have HF7:=Lib.hid (HF5.out.below hw)
   clear hw
   obtain ⟨g8,hg8⟩:∃ g,w6.heap.size=g:=⟨_,rfl⟩
   obtain ⟨w8,hw8⟩:∃ u,w6.alloc (.cells #[.bool false,.int .u64 0,.int .u64 0] 217)=u:=⟨_,rfl⟩
   have HF9:=Lib.hid (frE hw8 (HF7.out.alloc hg8.symm 217 #[.bool false,.int .u64 0,.int .u64 0]))
   go_wp2_with (first
     | (refine wpLoadF rfl 217 _ rfl g5_29 0 rfl _ _ (HF11.out.get 5 rfl) #[.bool tl,.int .u64 xl,.int .u64 yl] rfl _ und_big rfl info_big ?_)
     | (refine wpLoadF rfl 217 _ rfl g8 0 rfl _ _ (HF11.out.get 7 rfl) #[.bool false,.int .u64 0,.int .u64 4294967296] rfl _ und_big rfl info_big ?_)
     | (refine wpStoreF rfl rfl 217 _ _ rfl g8 0 rfl #[.bool false,.int .u64 0,.int .u64 4294967296] rfl _ _ #[.bool false,.int .u64 0,.int .u64 4294967296] (HF9.out.get 7 rfl) rfl (by show 0+3≤3;omega) (one_all rfl) info_big ?_;intro w10 hk ho;clear hw8 hg8;have HF11:=Lib.hid (HF9.out.only 7 rfl ho hk);clear ho hk))
   refine (HD1.out _).mono ?_
   rintro e w12 ⟨tp,xp,yp,tp',xp',yp',rfl,hp,hp',hw⟩
   have HF13:=Lib.hid (HF11.out.below hw)
   clear hw
   obtain ⟨g14,hg14⟩:∃ g,w12.heap.size=g:=⟨_,rfl⟩
   obtain ⟨w14,hw14⟩:∃ u,w12.alloc (.cells #[.bool false,.int .u64 0,.int .u64 0] 217)=u:=⟨_,rfl⟩
   have HF15:=Lib.hid (frE hw14 (HF13.out.alloc hg14.symm 217 #[.bool false,.int .u64 0,.int .u64 0]))
   obtain ⟨g16,hg16⟩:∃ g,w14.heap.size=g:=⟨_,rfl⟩
   obtain ⟨w16,hw16⟩:∃ u,w14.alloc (.cells #[.bool false,.int .u64 0,.int .u64 0] 217)=u:=⟨_,rfl⟩
   have HF17:=Lib.hid (frE hw16 (HF15.out.alloc hg16.symm 217 #[.bool false,.int .u64 0,.int .u64 0]))
   go_wp2_with (first
     | (refine wpStoreF rfl rfl 217 _ _ rfl g14 0 rfl #[.bool tp,.int .u64 xp,.int .u64 yp] rfl _ _ #[.bool tp,.int .u64 xp,.int .u64 yp] (HF17.out.get 8 rfl) rfl (by show 0+3≤3;omega) (one_all rfl) info_big ?_;intro w18 hk ho;clear hw14 hg14 hw16 hg16;have HF19:=Lib.hid (HF17.out.only 8 rfl ho hk);clear ho hk)
     | (refine wpLoadF rfl 217 _ rfl g5_30 0 rfl _ _ (HF21.out.get 6 rfl) #[.bool th,.int .u64 xh,.int .u64 yh] rfl _ und_big rfl info_big ?_)
     | (refine wpLoadF rfl 217 _ rfl g8 0 rfl _ _ (HF21.out.get 7 rfl) #[.bool false,.int .u64 0,.int .u64 4294967296] rfl _ und_big rfl info_big ?_)
     | (refine wpStoreF rfl rfl 217 _ _ rfl g16 0 rfl #[.bool tp',.int .u64 xp',.int .u64 yp'] rfl _ _ #[.bool tp',.int .u64 xp',.int .u64 yp'] (HF19.out.get 9 rfl) rfl (by show 0+3≤3;omega) (one_all rfl) info_big ?_;intro w20 hk ho;have HF21:=Lib.hid (HF19.out.only 9 rfl ho hk);clear ho hk))
   refine (HD2.out _).mono ?_
   rintro e w22 ⟨tq,xq,yq,tq',xq',yq',rfl,hq,hq',hw⟩
   have HF23:=Lib.hid (HF21.out.below hw)
   clear hw
   obtain ⟨g24,hg24⟩:∃ g,w22.heap.size=g:=⟨_,rfl⟩
   obtain ⟨w24,hw24⟩:∃ u,w22.alloc (.cells #[.bool false,.int .u64 0,.int .u64 0] 217)=u:=⟨_,rfl⟩
   have HF25:=Lib.hid (frE hw24 (HF23.out.alloc hg24.symm 217 #[.bool false,.int .u64 0,.int .u64 0]))
   obtain ⟨g26,hg26⟩:∃ g,w24.heap.size=g:=⟨_,rfl⟩
   obtain ⟨w26,hw26⟩:∃ u,w24.alloc (.cells #[.bool false,.int .u64 0,.int .u64 0] 217)=u:=⟨_,rfl⟩
   have HF27:=Lib.hid (frE hw26 (HF25.out.alloc hg26.symm 217 #[.bool false,.int .u64 0,.int .u64 0]))
   have HFT:=Lib.hid (fun w=>fit_any hp hq' (ediv32_range HZ1.out.1 HZ1.out.2).1 (ediv32_range HZ2.out.1 HZ2.out.2).2 w)
   unfold SpPost spanV at HFT
   have HE:Hid (fitB (vl / 4294967296) (-(-vh / 4294967296))=(⟨fl,fh⟩,fe)):=Lib.hid HFE.out
   rw [HE.out] at HFT
   clear hp hp' hq hq' HE
   go_wp2_with (first
     | (refine wpStoreF rfl rfl 217 _ _ rfl g24 0 rfl #[.bool tq,.int .u64 xq,.int .u64 yq] rfl _ _ #[.bool tq,.int .u64 xq,.int .u64 yq] (HF27.out.get 10 rfl) rfl (by show 0+3≤3;omega) (one_all rfl) info_big ?_;intro w28 hk ho;clear hw24 hg24 hw26 hg26;have HF29:=Lib.hid (HF27.out.only 10 rfl ho hk);clear ho hk)
     | (refine wpLoadF rfl 217 _ rfl g14 0 rfl _ _ (HF31.out.get 8 rfl) #[.bool tp,.int .u64 xp,.int .u64 yp] rfl _ und_big rfl info_big ?_)
     | (refine wpLoadF rfl 217 _ rfl g26 0 rfl _ _ (HF31.out.get 11 rfl) #[.bool tq',.int .u64 xq',.int .u64 yq'] rfl _ und_big rfl info_big ?_)
     | (refine wpStoreF rfl rfl 217 _ _ rfl g26 0 rfl #[.bool tq',.int .u64 xq',.int .u64 yq'] rfl _ _ #[.bool tq',.int .u64 xq',.int .u64 yq'] (HF29.out.get 11 rfl) rfl (by show 0+3≤3;omega) (one_all rfl) info_big ?_;intro w30 hk ho;have HF31:=Lib.hid (HF29.out.only 11 rfl ho hk);clear ho hk))
   refine (HFT.out _).mono ?_
   rintro e w32 ⟨rfl,hw⟩
   have HF33:=Lib.hid (HF31.out.below hw)
   clear hw
   go_wp2_with (refine wpStoreF rfl rfl 31 _ _ rfl (qb+1+1) 0 rfl #[.int .i64 fl,.int .i64 fh] rfl _ _ (iC [fl,fh]) (HF33.out.get 2 rfl) rfl (by show 0+2≤2;omega) (one_all rfl) info_span ?_;intro w34 hk ho;have HF35:=Lib.hid (HF33.out.only 2 rfl ho hk);clear ho hk)
   refine ret_agg2 rfl rfl rfl (HF35.out.get 2 rfl) rfl und_span rfl info_span ?_
   exact HFIN.out _ HF35.out.drop

theorem up32_at {n:Bool} {l:Int} (h0:0≤l) (h1:l≤18446744073709551615):∃ h' l':Int,(∀ n',IsBig (.agg #[.bool n',.int .u64 h',.int .u64 l']) (valI n' (l * 4294967296))) ∧
  ∀ w,Calls Tryz.prog 186 #[.agg #[.bool n,.int .u64 0,.int .u64 l],.int .u64 32] w fun e w'=>e=.returned (.agg #[.bool n,.int .u64 h',.int .u64 l'])∧Below w.heap.size w w':=by
 refine ⟨l * 4294967296 / 18446744073709551616,l * 4294967296 % 18446744073709551616,fun n'=>⟨n',l * 4294967296,rfl,by omega,rfl⟩,fun w=>?_⟩
 have H1:=Lib.hid h0
 have H2:=Lib.hid h1
 clear h0 h1
 go_enter Tryz.func186,Tryz.ntmps186
 go_wp2_with fail
 refine ret_big rfl rfl rfl (Bk.newAt _ _ _ _ (by simp)) ⟨?_,((Below.refl _ w).alloc (Nat.le_refl _) _).alloc (by simp) _⟩
 have h0:=H1.out
 have h1:=H2.out
 obtain ⟨k,rfl⟩:=Int.eq_ofNat_of_zero_le h0
 have e1:bits .or .u64 0 ((k:Int) / 4294967296)=(k:Int) / 4294967296:=by
  rw [show (k:Int) / 4294967296=((k / 4294967296:Nat):Int) by omega]
  have:=bits_or_u64_nat 0 (k / 4294967296) (by omega) (by omega)
  rw [Nat.zero_or] at this;exact this
 unfold bigV
 rw [e1,IntKind.wrap_u64,show (k:Int) * 4294967296 / 18446744073709551616=(k:Int) / 4294967296 by omega]
theorem fq_val {a b:Int} (hb:b ≠ 0):valI (decide (a<0) != decide (b<0)) (sizeI a * 4294967296) / sizeI b=fqB a b∧-(-valI (decide (a<0) != decide (b<0)) (sizeI a * 4294967296) / sizeI b)=cqB a b:=by
 unfold cqB fqB sizeI valI
 by_cases ha:a<0
 ·by_cases hb0:b<0
  ·rw [if_pos ha,if_pos hb0,if_neg (show ¬ 0<b by omega),decide_eq_true ha,decide_eq_true hb0,if_neg (by decide),if_neg (show ¬ 0<b by omega)]
   rw [Int.neg_mul,Int.neg_neg]
   exact ⟨rfl,rfl⟩
  ·rw [if_pos ha,if_neg hb0,if_pos (show 0<b by omega),decide_eq_true ha,decide_eq_false hb0,if_pos (by decide),if_pos (show 0<b by omega)]
   rw [Int.neg_mul,Int.neg_neg]
   exact ⟨rfl,rfl⟩
 ·by_cases hb0:b<0
  ·rw [if_neg ha,if_pos hb0,if_neg (show ¬ 0<b by omega),decide_eq_false ha,decide_eq_true hb0,if_pos (by decide),if_neg (show ¬ 0<b by omega)]
   rw [Int.neg_mul]
   exact ⟨rfl,rfl⟩
  ·rw [if_neg ha,if_neg hb0,if_pos (show 0<b by omega),decide_eq_false ha,decide_eq_false hb0,if_neg (by decide),if_pos (show 0<b by omega)]
   rw [Int.neg_mul]
   exact ⟨rfl,rfl⟩
/-- A quotient rounded down, and up. -/
def RatPost (a b:Int) (w:World) (e:Ending) (w':World):Prop:=∃ t x y t' x' y',e=.returned (.tuple #[.agg #[.bool t,.int .u64 x,.int .u64 y],.agg #[.bool t',.int .u64 x',.int .u64 y']])∧IsBig (.agg #[.bool t,.int .u64 x,.int .u64 y]) (fqB a b)∧IsBig (.agg #[.bool t',.int .u64 x',.int .u64 y']) (cqB a b)∧Below w.heap.size w w'
theorem ratio_any (a b:Int) (ha:I64 a) (hb:I64 b) (hb0:b ≠ 0) (w:World):Calls Tryz.prog 159 #[.int .i64 a,.int .i64 b] w (RatPost a b w):=by
 have H1:=Lib.hid (fun w=>of_any a ha w)
 have H2:=Lib.hid (fun w=>of_any b hb w)
 have hsa:0≤sizeI a∧sizeI a≤9223372036854775808:=by unfold I64 at ha;unfold sizeI;split <;> omega
 have hsb:0<sizeI b∧sizeI b≤9223372036854775808:=by unfold I64 at hb;unfold sizeI;split <;> omega
 obtain ⟨v1,v2⟩:=fq_val (a:=a) hb0
 obtain ⟨l1,hl1⟩:∃ z,sizeI a=z:=⟨_,rfl⟩
 obtain ⟨l2,hl2⟩:∃ z,sizeI b=z:=⟨_,rfl⟩
 obtain ⟨n1,hn1⟩:∃ z,decide (a<0)=z:=⟨_,rfl⟩
 obtain ⟨n2,hn2⟩:∃ z,decide (b<0)=z:=⟨_,rfl⟩
 rw [hl1] at hsa
 rw [hl2] at hsb
 rw [hl1,hl2,hn1,hn2] at v1 v2
 unfold bigV at H1 H2
 rw [hn1,hl1] at H1
 rw [hn2,hl2] at H2
 obtain ⟨hh,ll,hB,hU⟩:=up32_at (n:=n1) (l:=l1) hsa.1 (by omega)
 have HU:=Lib.hid hU
 have hD:=fun w=>divide_big (b:=l2) (hB (n1 != n2)) (by unfold S127 valI;split <;> omega) hsb.1 (by omega) w
 rw [v1,v2] at hD
 unfold bigV at hD
 have HD:=Lib.hid hD
 obtain ⟨PQ,hPQ⟩:∃ Q,RatPost a b w=Q:=⟨_,rfl⟩
 have HFIN:Hid (∀ t x y t' x' y' w',IsBig (.agg #[.bool t,.int .u64 x,.int .u64 y]) (fqB a b)→IsBig (.agg #[.bool t',.int .u64 x',.int .u64 y']) (cqB a b)→Fr w [] [] w'→PQ (.returned (.tuple #[.agg #[.bool t,.int .u64 x,.int .u64 y],.agg #[.bool t',.int .u64 x',.int .u64 y']])) w'):=Lib.hid fun t x y t' x' y' w' h1 h2 h=>by
  rw [← hPQ];exact ⟨t,x,y,t',x',y',rfl,h1,h2,h.toBelow⟩
 rw [hPQ]
 clear hPQ hU hD v1 v2 hsa hsb hl1 hl2 hn1 hn2 hB ha hb hb0
 obtain ⟨qb,hqb⟩:∃ qb,w.heap.size=qb:=⟨_,rfl⟩
 obtain ⟨W0,hW0⟩:∃ W0,(w.alloc (.cells #[.bool false,.int .u64 0,.int .u64 0] 217)).alloc (.cells #[.bool false,.int .u64 0,.int .u64 0] 217)=W0:=⟨_,rfl⟩
 have HF0:Hid (Fr w [] [(qb,217,#[.bool false,.int .u64 0,.int .u64 0]),(qb+1,217,#[.bool false,.int .u64 0,.int .u64 0])] W0):=Lib.hid (by rw [← hW0];exact ((Fr.start w).alloc (by simp [← hqb]) 217 #[.bool false,.int .u64 0,.int .u64 0]).alloc (by simp [← hqb]) 217 #[.bool false,.int .u64 0,.int .u64 0])
 go_enter Tryz.func159,Tryz.ntmps159
 go_upto_region 1 with (fail)
 clear hW0 hqb
 go_wp2_with fail
 refine (H1.out _).mono ?_
 rintro e w1 ⟨rfl,hw⟩
 have HF2:=Lib.hid (HF0.out.below hw)
 clear hw
 go_wp2_with fail
 refine (HU.out _).mono ?_
 rintro e w3 ⟨rfl,hw⟩
 have HF4:=Lib.hid (HF2.out.below hw)
 clear hw
 go_wp2_with fail
 refine (H2.out _).mono ?_
 rintro e w5 ⟨rfl,hw⟩
 have HF6:=Lib.hid (HF4.out.below hw)
 clear hw
 obtain ⟨g7,hg7⟩:∃ g,w5.heap.size=g:=⟨_,rfl⟩
 obtain ⟨w7,hw7⟩:∃ u,w5.alloc (.cells #[.bool false,.int .u64 0,.int .u64 0] 217)=u:=⟨_,rfl⟩
 have HF8:=Lib.hid (frE hw7 (HF6.out.alloc hg7.symm 217 #[.bool false,.int .u64 0,.int .u64 0]))
 obtain ⟨g9,hg9⟩:∃ g,w7.heap.size=g:=⟨_,rfl⟩
 obtain ⟨w9,hw9⟩:∃ u,w7.alloc (.cells #[.bool false,.int .u64 0,.int .u64 0] 217)=u:=⟨_,rfl⟩
 have HF10:=Lib.hid (frE hw9 (HF8.out.alloc hg9.symm 217 #[.bool false,.int .u64 0,.int .u64 0]))
 go_wp2_with (first
   | (refine wpStoreF rfl rfl 217 _ _ rfl g7 0 rfl #[.bool n1,.int .u64 hh,.int .u64 ll] rfl _ _ #[.bool n1,.int .u64 hh,.int .u64 ll] (HF10.out.get 2 rfl) rfl (by show 0+3≤3;omega) (one_all rfl) info_big ?_;intro w11 hk ho;clear hw7 hg7 hw9 hg9;have HF12:=Lib.hid (HF10.out.only 2 rfl ho hk);clear ho hk)
   | (refine wpStoreF rfl rfl 217 _ _ rfl g9 0 rfl #[.bool n2,.int .u64 0,.int .u64 l2] rfl _ _ #[.bool n2,.int .u64 0,.int .u64 l2] (HF12.out.get 3 rfl) rfl (by show 0+3≤3;omega) (one_all rfl) info_big ?_;intro w13 hk ho;have HF14:=Lib.hid (HF12.out.only 3 rfl ho hk);clear ho hk;have c15:w13.cell? ⟨g7,0,none⟩=some (.bool n1):=(HF14.out.get 2 rfl).cell 0;have c16:w13.cell? ⟨g9,0,none⟩=some (.bool n2):=(HF14.out.get 3 rfl).cell 0)
   | (refine wpStoreCell rfl rfl 4 _ _ rfl g7 0 rfl (.bool (n1 != n2)) rfl _ _ (HF14.out.get 2 rfl) (by show 0<3;omega) rfl (by kernel_rfl) ?_;intro w17 hk ho;clear c15 c16;have HF18:=Lib.hid (HF14.out.only 2 rfl ho hk);clear ho hk)
   | (refine wpLoadF rfl 217 _ rfl g7 0 rfl _ _ (HF20.out.get 2 rfl) #[.bool (n1 != n2),.int .u64 hh,.int .u64 ll] rfl _ und_big rfl info_big ?_)
   | (refine wpLoadF rfl 217 _ rfl g9 0 rfl _ _ (HF20.out.get 3 rfl) #[.bool false,.int .u64 0,.int .u64 l2] rfl _ und_big rfl info_big ?_)
   | (refine wpStoreCell rfl rfl 4 _ _ rfl g9 0 rfl (.bool false) rfl _ _ (HF18.out.get 3 rfl) (by show 0<3;omega) rfl (by kernel_rfl) ?_;intro w19 hk ho;have HF20:=Lib.hid (HF18.out.only 3 rfl ho hk);clear ho hk))
 refine (HD.out _).mono ?_
 rintro e w21 ⟨tp,xp,yp,tq,xq,yq,rfl,hp,hq,hw⟩
 have HF22:=Lib.hid (HF20.out.below hw)
 clear hw
 go_wp2_with (first
   | (refine wpStoreF rfl rfl 217 _ _ rfl qb 0 rfl #[.bool tp,.int .u64 xp,.int .u64 yp] rfl _ _ #[.bool tp,.int .u64 xp,.int .u64 yp] (HF22.out.get 0 rfl) rfl (by show 0+3≤3;omega) (one_all rfl) info_big ?_;intro w23 hk ho;have HF24:=Lib.hid (HF22.out.only 0 rfl ho hk);clear ho hk)
   | (refine wpStoreF rfl rfl 217 _ _ rfl (qb+1) 0 rfl #[.bool tq,.int .u64 xq,.int .u64 yq] rfl _ _ #[.bool tq,.int .u64 xq,.int .u64 yq] (HF24.out.get 1 rfl) rfl (by show 0+3≤3;omega) (one_all rfl) info_big ?_;intro w25 hk ho;have HF26:=Lib.hid (HF24.out.only 1 rfl ho hk);clear ho hk))
 exact ret_big2 rfl rfl rfl rfl (HF26.out.get 0 rfl) (HF26.out.get 1 rfl) (HFIN.out _ _ _ _ _ _ _ hp hq HF26.out.drop)

/-- A big's cells. -/
abbrev BigR:=Bool × Int × Int
def bgV (r:BigR):List Value:=[.bool r.1,.int .u64 r.2.1,.int .u64 r.2.2]
def rowsC:List BigR→List Value
 | []=>[]
 | r :: l=>bgV r ++ rowsC l
theorem rowsC_snoc (r:BigR):∀ l:List BigR,rowsC (l ++ [r])=rowsC l ++ bgV r
 | []=>rfl
 | x :: l=>by rw [List.cons_append,rowsC,rowsC_snoc r l,rowsC,List.append_assoc]
theorem rowsC_at:∀ (l:List BigR) (i j:Nat) (r:BigR),l[i]?=some r→j<3→(rowsC l)[i * 3+j]?=(bgV r)[j]?
 | [],i,j,r,h,_=>by simp at h
 | x :: l,0,j,r,h,hj=>by
  simp at h
  subst h
  rw [Nat.zero_mul,Nat.zero_add,rowsC,List.getElem?_append_left (by show j<3;exact hj)]
 | x :: l,i+1,j,r,h,hj=>by
  rw [rowsC,show (i+1) * 3+j=3+(i * 3+j) by omega,List.getElem?_append_right (by show 3≤3+_;omega),show 3+(i * 3+j) - (bgV x).length=i * 3+j from Nat.add_sub_cancel_left 3 _]
  exact rowsC_at l i j r (by simpa using h) hj
/-- v is a list of m bigs whose values are q 0, q 1, .. -/
def BgL (q:Nat→Int) (v:Value) (cur:Array Value) (m:Nat):Prop:=∃ rows:List BigR,rows.length=m∧LstAt 3 v cur m (rowsC rows)∧∀ i r,rows[i]?=some r→IsBig (.agg (bgV r).toArray) (q i)
theorem BgL.nil (q:Nat→Int):BgL q (.slice none 0 0) #[] 0:=⟨[],rfl,LstAt.nil 3,fun i r h=>by simp at h⟩
theorem BgL.push {q:Nat→Int} {v':Value} {cur':Array Value} {m:Nat} {rows:List BigR} (hr:rows.length=m) (hq:∀ i r,rows[i]?=some r→IsBig (.agg (bgV r).toArray) (q i)) {r:BigR} (hl:LstAt 3 v' cur' (m+1) (rowsC rows ++ bgV r)) (hb:IsBig (.agg (bgV r).toArray) (q m)):BgL q v' cur' (m+1):=by
 refine ⟨rows ++ [r],by simp [hr],by rw [rowsC_snoc];exact hl,fun i x hx=>?_⟩
 rcases Nat.lt_or_ge i m with h | h
 ·rw [List.getElem?_append_left (by omega)] at hx;exact hq i x hx
 ·rw [List.getElem?_append_right (by omega)] at hx
  have hi:i=m:=by
   have:=(List.getElem?_eq_some_iff.1 hx).1
   simp at this;omega
  subst hi
  rw [hr,Nat.sub_self] at hx
  simp at hx;subst hx;exact hb
theorem hullL_any {W:World} {O N Y:List Ent} {w:World} {q:Nat→Int} {v:Value} {cur:Array Value} {n:Nat} (hf:Fr W O (N ++ (lstE 217 v cur ++ Y)) w) (h:BgL q v cur (n+1)) (h1n:1≤n) (hn:n<16) :
  Calls Tryz.prog 139 #[v] w fun e w'=>∃ t x y t' x' y',e=.returned (.tuple #[.agg #[.bool t,.int .u64 x,.int .u64 y],.agg #[.bool t',.int .u64 x',.int .u64 y']])∧IsBig (.agg #[.bool t,.int .u64 x,.int .u64 y]) (minK q n)∧IsBig (.agg #[.bool t',.int .u64 x',.int .u64 y']) (maxK q n)∧Below w.heap.size w w':=by
 obtain ⟨rows,hr,hl,hq⟩:=h
 rcases hl.2 with ⟨rfl,h0⟩ | ⟨g,cap,rfl,h2,h3,h4,h5⟩
 ·omega
 have hbk:Bk w g 217 cur:=(hf.new (g,217,cur) (List.mem_append_right _ (List.mem_append_left _ (by simp [lstE])))).2
 have hV:∀ i,i<n+1→IsBig (.agg (bc (fun i=>(rows.getD i (false,0,0)).1) (fun i=>(rows.getD i (false,0,0)).2.1) (fun i=>(rows.getD i (false,0,0)).2.2) i)) (q i):=fun i hi=>by
  have e:rows[i]?=some (rows.getD i (false,0,0)):=by rw [List.getD_eq_getElem?_getD,List.getElem?_eq_getElem (by omega)];rfl
  exact hq i _ e
 have m1:=hV (pmin q n) (Nat.lt_succ_of_le (pmin_le q n))
 rw [pmin_val q] at m1
 have m2:=hV (pmax q n) (Nat.lt_succ_of_le (pmax_le q n))
 rw [pmax_val q] at m2
 refine (hull_ex w _ n cap _ _ _ q ⟨by omega,fun _=>⟨g,0,rfl,hbk.lt,fun i hi j hj=>?_⟩⟩ hV h1n hn (by omega) (by unfold maxLen at h3;omega)).mono ?_
 ·have e:rows[i]?=some (rows.getD i (false,0,0)):=by rw [List.getD_eq_getElem?_getD,List.getElem?_eq_getElem (by omega)];rfl
  have hc:=rowsC_at rows i j _ e hj
  have hlen:i * 3+j<(n+1) * 3:=by omega
  rw [← h5,List.getElem?_take,if_pos hlen,Array.getElem?_toList] at hc
  rw [hbk.cell,Nat.zero_add,hc]
  match j,hj with
  | 0,_=>rfl
  | 1,_=>rfl
  | 2,_=>rfl
 ·rintro e w' ⟨rfl,hw⟩
  exact ⟨_,_,_,_,_,_,rfl,m1,m2,hw⟩
theorem info_push:(Tryz.prog.info? 217).map (fun i=>(i.zero,i.size,i.bytes))=some (some (.agg #[.bool false,.int .u64 0,.int .u64 0]),3,24):=by kernel_rfl
def fx (x y:Int):Nat→Int
 | 0=>x
 | _=>y
/-- What Div has, m quotients reckoned. -/
def DivI (W:World) (base:List Ent) (qd qu:Nat→Int) (vd vu:Value) (m:Nat) (w:World):Prop :=
 ∃ cd cu,Fr W [] (base ++ (lstE 217 vd cd ++ (lstE 217 vu cu ++ []))) w∧BgL qd vd cd m∧BgL qu vu cu m
theorem fq_range {a b:Int} (ha:I64 a) (hb:b ≠ 0):S127 (fqB a b)∧S127 (cqB a b):=by
 have key:∀ {u v:Int},-9223372036854775808≤u→u≤9223372036854775808→0<v→-39614081257132168796771975168≤u * 4294967296 / v∧u * 4294967296 / v≤39614081257132168796771975168:=fun {u v} h1 h2 hv=>by
  constructor
  ·rw [Int.le_ediv_iff_mul_le hv]
   have:-39614081257132168796771975168 * v≤-39614081257132168796771975168 * 1:=Int.mul_le_mul_of_nonpos_left (by decide) (by omega)
   omega
  ·have h3:u * 4294967296 / v<39614081257132168796771975169:=by
    rw [Int.ediv_lt_iff_lt_mul hv]
    have:39614081257132168796771975169 * 1≤39614081257132168796771975169 * v:=Int.mul_le_mul_of_nonneg_left (by omega) (by decide)
    omega
   omega
 unfold I64 at ha
 unfold S127 cqB fqB
 by_cases h:0<b
 ·rw [if_pos h,if_pos h]
  have h1:=key (u:=a) (v:=b) (by omega) (by omega) h
  have h2:=key (u:=-a) (v:=b) (by omega) (by omega) h
  omega
 ·rw [if_neg h,if_neg h]
  have h1:=key (u:=-a) (v:=-b) (by omega) (by omega) (by omega)
  have h2:=key (u:=a) (v:=-b) (by omega) (by omega) (by omega)
  rw [Int.neg_mul,Int.neg_neg]
  rw [Int.neg_mul] at h1
  omega
theorem div_any (a b:SpanD) (ha:WdS a) (hb:WdS b) (w:World):Calls Tryz.prog 110 #[spanV a,spanV b] w (SpPost (divB a b) w.heap.size w):=by
 have HCK:=Lib.hid (fun w g t h=>checked2_ex a b w g t h)
 have HFIN:Hid (∀ w',Fr w [] [] w'→SpPost (divB a b) w.heap.size w (.returned (.tuple #[.agg #[.int .i64 (divB a b).1.lo,.int .i64 (divB a b).1.hi],.int .i64 (divB a b).2])) w'):=Lib.hid fun w' h=>⟨rfl,h.toBelow⟩
 cases hc:chkB a && chkB b with
 | false =>
  have hs:divB a b=(zeroS,2):=by unfold divB;rw [hc];rfl
  rw [hs] at HFIN ⊢
  rw [hc] at HCK
  obtain ⟨al,ah⟩:=a
  obtain ⟨bl,bh⟩:=b
  clear hc hs ha hb
  unfold spanV
  dsimp only at HCK HFIN ⊢
  obtain ⟨qb,hqb⟩:∃ qb,w.heap.size=qb:=⟨_,rfl⟩
  obtain ⟨W0,hW0⟩:∃ W0,((w.alloc (.cells #[.int .i64 al,.int .i64 ah] 31)).alloc (.cells #[.int .i64 bl,.int .i64 bh] 31)).alloc (.cells #[.int .i64 0,.int .i64 0] 31)=W0:=⟨_,rfl⟩
  have HF0:Hid (Fr w [] [(qb,31,iC [al,ah]),(qb+1,31,iC [bl,bh]),(qb+1+1,31,iC [0,0])] W0):=Lib.hid (by rw [← hW0];exact (((Fr.start w).alloc (by simp [← hqb]) 31 #[.int .i64 al,.int .i64 ah]).alloc (by simp [← hqb]) 31 #[.int .i64 bl,.int .i64 bh]).alloc (by simp [← hqb]) 31 #[.int .i64 0,.int .i64 0])
  go_enter Tryz.func110,Tryz.ntmps110
  go_upto_region 1 with (fail)
  clear hW0 hqb
  obtain ⟨g1,hg1⟩:∃ g,W0.heap.size=g:=⟨_,rfl⟩
  obtain ⟨w1,hw1⟩:∃ u,W0.alloc (.cells #[.int .i64 al,.int .i64 ah,.int .i64 bl,.int .i64 bh] 31)=u:=⟨_,rfl⟩
  have HF2:=Lib.hid (frE hw1 (HF0.out.alloc hg1.symm 31 #[.int .i64 al,.int .i64 ah,.int .i64 bl,.int .i64 bh]))
  go_wp2_with (first
    | (refine wpLoadF rfl 31 _ rfl qb 0 rfl _ _ (HF0.out.get 0 rfl) #[.int .i64 al,.int .i64 ah] rfl _ und_span rfl info_span ?_)
    | (refine wpLoadF rfl 31 _ rfl (qb+1) 0 rfl _ _ (HF0.out.get 1 rfl) #[.int .i64 bl,.int .i64 bh] rfl _ und_span rfl info_span ?_))
  clear hw1 hg1
  refine (HCK.out _ g1 31 (HF2.out.get 3 rfl)).mono ?_
  rintro e w3 ⟨rfl,hw⟩
  have HF4:=Lib.hid (HF2.out.below hw)
  clear hw
  go_wp2_with (refine wpStoreF rfl rfl 31 _ _ rfl (qb+1+1) 0 rfl #[.int .i64 0,.int .i64 0] rfl _ _ (iC [0,0]) (HF4.out.get 2 rfl) rfl (by show 0+2≤2;omega) (one_all rfl) info_span ?_;intro w5 hk ho;have HF6:=Lib.hid (HF4.out.only 2 rfl ho hk);clear ho hk)
  refine ret_agg2 rfl rfl rfl (HF6.out.get 2 rfl) rfl und_span rfl info_span ?_
  exact HFIN.out _ HF6.out.drop
 | true =>
  by_cases hz:b.lo≤0∧0≤b.hi
  ·have hs:divB a b=(zeroS,10):=by unfold divB;rw [hc,if_pos rfl,if_pos hz]
   rw [hs] at HFIN ⊢
   rw [hc] at HCK
   obtain ⟨al,ah⟩:=a
   obtain ⟨bl,bh⟩:=b
   have g1:decide (bl≤0)=true:=decide_eq_true hz.1
   have g2:decide (0≤bh)=true:=decide_eq_true hz.2
   clear hc hs ha hb hz
   unfold spanV
   dsimp only at HCK HFIN ⊢
   obtain ⟨qb,hqb⟩:∃ qb,w.heap.size=qb:=⟨_,rfl⟩
   obtain ⟨W0,hW0⟩:∃ W0,((w.alloc (.cells #[.int .i64 al,.int .i64 ah] 31)).alloc (.cells #[.int .i64 bl,.int .i64 bh] 31)).alloc (.cells #[.int .i64 0,.int .i64 0] 31)=W0:=⟨_,rfl⟩
   have HF0:Hid (Fr w [] [(qb,31,iC [al,ah]),(qb+1,31,iC [bl,bh]),(qb+1+1,31,iC [0,0])] W0):=Lib.hid (by rw [← hW0];exact (((Fr.start w).alloc (by simp [← hqb]) 31 #[.int .i64 al,.int .i64 ah]).alloc (by simp [← hqb]) 31 #[.int .i64 bl,.int .i64 bh]).alloc (by simp [← hqb]) 31 #[.int .i64 0,.int .i64 0])
   go_enter Tryz.func110,Tryz.ntmps110
   go_upto_region 1 with (fail)
   clear hW0 hqb
   obtain ⟨g1,hg1⟩:∃ g,W0.heap.size=g:=⟨_,rfl⟩
   obtain ⟨w1,hw1⟩:∃ u,W0.alloc (.cells #[.int .i64 al,.int .i64 ah,.int .i64 bl,.int .i64 bh] 31)=u:=⟨_,rfl⟩
   have HF2:=Lib.hid (frE hw1 (HF0.out.alloc hg1.symm 31 #[.int .i64 al,.int .i64 ah,.int .i64 bl,.int .i64 bh]))
   go_wp2_with (first
     | (refine wpLoadF rfl 31 _ rfl qb 0 rfl _ _ (HF0.out.get 0 rfl) #[.int .i64 al,.int .i64 ah] rfl _ und_span rfl info_span ?_)
     | (refine wpLoadF rfl 31 _ rfl (qb+1) 0 rfl _ _ (HF0.out.get 1 rfl) #[.int .i64 bl,.int .i64 bh] rfl _ und_span rfl info_span ?_))
   clear hw1 hg1
   refine (HCK.out _ g1 31 (HF2.out.get 3 rfl)).mono ?_
   rintro e w3 ⟨rfl,hw⟩
   have HF4:=Lib.hid (HF2.out.below hw)
   clear hw
   have c5:w3.cell? ⟨qb+1,0,none⟩=some (.int .i64 bl):=(HF4.out.get 1 rfl).cell 0
   have c6:w3.cell? ⟨qb+1,1,none⟩=some (.int .i64 bh):=(HF4.out.get 1 rfl).cell 1
   go_wp2_with (refine wpStoreF rfl rfl 31 _ _ rfl (qb+1+1) 0 rfl #[.int .i64 0,.int .i64 0] rfl _ _ (iC [0,0]) (HF4.out.get 2 rfl) rfl (by show 0+2≤2;omega) (one_all rfl) info_span ?_;intro w7 hk ho;clear c5 c6;have HF8:=Lib.hid (HF4.out.only 2 rfl ho hk);clear ho hk)
   refine ret_agg2 rfl rfl rfl (HF8.out.get 2 rfl) rfl und_span rfl info_span ?_
   exact HFIN.out _ HF8.out.drop
  ·have hs:divB a b=fitB (min4 (fqB a.lo b.lo) (fqB a.lo b.hi) (fqB a.hi b.lo) (fqB a.hi b.hi)) (max4 (cqB a.lo b.lo) (cqB a.lo b.hi) (cqB a.hi b.lo) (cqB a.hi b.hi)):=by unfold divB;rw [hc,if_pos rfl,if_neg hz]
   rw [hs] at HFIN ⊢
   rw [hc] at HCK
   obtain ⟨al,ah⟩:=a
   obtain ⟨bl,bh⟩:=b
   unfold spanV
   dsimp only at HCK HFIN hz ⊢
   have hcc:=hc
   rw [Bool.and_eq_true] at hcc
   have hord:=(chk_iff.1 hcc.2).2.2
   dsimp only at hord
   have hbl:bl ≠ 0:=by omega
   have hbh:bh ≠ 0:=by omega
   obtain ⟨a1,a2⟩:=ha
   obtain ⟨b1,b2⟩:=hb
   dsimp only at a1 a2 b1 b2
   have HRat:Hid (∀ (i j:Nat) w,Calls Tryz.prog 159 #[.int .i64 (fx al ah i),.int .i64 (fx bl bh j)] w (RatPost (fx al ah i) (fx bl bh j) w)):=Lib.hid fun i j w=>ratio_any _ _ (by unfold fx;split;exact a1;exact a2) (by unfold fx;split;exact b1;exact b2) (by unfold fx;split;exact hbl;exact hbh) w
   obtain ⟨qd,hqd⟩:∃ q:Nat→Int,q=fun m=>fqB (fx al ah (m / 2)) (fx bl bh (m % 2)):=⟨_,rfl⟩
   obtain ⟨qu,hqu⟩:∃ q:Nat→Int,q=fun m=>cqB (fx al ah (m / 2)) (fx bl bh (m % 2)):=⟨_,rfl⟩
   have HQ:Hid (∀ k j:Nat,j<2→fqB (fx al ah k) (fx bl bh j)=qd (2 * k+j)∧cqB (fx al ah k) (fx bl bh j)=qu (2 * k+j)):=Lib.hid fun k j hj=>by
    rw [hqd,hqu];dsimp only;rw [show (2 * k+j) / 2=k by omega,show (2 * k+j) % 2=j by omega];exact ⟨rfl,rfl⟩
   have HE1:Hid (min4 (fqB al bl) (fqB al bh) (fqB ah bl) (fqB ah bh)=minK qd 3):=Lib.hid (by rw [hqd];unfold min4;show _=min (min (min (fqB al bl) (fqB al bh)) (fqB ah bl)) (fqB ah bh);omega)
   have HE2:Hid (max4 (cqB al bl) (cqB al bh) (cqB ah bl) (cqB ah bh)=maxK qu 3):=Lib.hid (by rw [hqu];unfold max4;show _=max (max (max (cqB al bl) (cqB al bh)) (cqB ah bl)) (cqB ah bh);omega)
   have hr1:=(fq_range a1 hbl).1
   have hr2:=(fq_range a1 hbh).1
   have hr3:=(fq_range a2 hbl).1
   have hr4:=(fq_range a2 hbh).1
   have hr5:=(fq_range a1 hbl).2
   have hr6:=(fq_range a1 hbh).2
   have hr7:=(fq_range a2 hbl).2
   have hr8:=(fq_range a2 hbh).2
   have HS1:Hid (S127 (minK qd 3)):=Lib.hid (by rw [← HE1.out];unfold S127 at *;unfold min4;omega)
   have HS2:Hid (S127 (maxK qu 3)):=Lib.hid (by rw [← HE2.out];unfold S127 at *;unfold max4;omega)
   clear hr1 hr2 hr3 hr4 hr5 hr6 hr7 hr8
   rw [HE1.out,HE2.out] at HFIN ⊢
   obtain ⟨⟨⟨fl,fh⟩,fe⟩,hfe⟩:∃ z:SpanD × Int,fitB (minK qd 3) (maxK qu 3)=z:=⟨_,rfl⟩
   have HFE:=Lib.hid hfe
   rw [hfe] at HFIN ⊢
   dsimp only at HFIN
   have hg:(decide (bl≤0)=true∧decide (0≤bh)=false) ∨ decide (bl≤0)=false:=by
    by_cases h:bl≤0
    ·exact .inl ⟨decide_eq_true h,decide_eq_false (by omega)⟩
    ·exact .inr (decide_eq_false h)
   clear hc hcc hs hz hord hbl hbh a1 a2 b1 b2 hqd hqu hfe HE1 HE2
   rcases hg with ⟨g1,g2⟩ | g1
   all_goals
    obtain ⟨qb,hqb⟩:∃ qb,w.heap.size=qb:=⟨_,rfl⟩
    obtain ⟨W0,hW0⟩:∃ W0,((w.alloc (.cells #[.int .i64 al,.int .i64 ah] 31)).alloc (.cells #[.int .i64 bl,.int .i64 bh] 31)).alloc (.cells #[.int .i64 0,.int .i64 0] 31)=W0:=⟨_,rfl⟩
    have HF0:Hid (Fr w [] [(qb,31,iC [al,ah]),(qb+1,31,iC [bl,bh]),(qb+1+1,31,iC [0,0])] W0):=Lib.hid (by rw [← hW0];exact (((Fr.start w).alloc (by simp [← hqb]) 31 #[.int .i64 al,.int .i64 ah]).alloc (by simp [← hqb]) 31 #[.int .i64 bl,.int .i64 bh]).alloc (by simp [← hqb]) 31 #[.int .i64 0,.int .i64 0])
    go_enter Tryz.func110,Tryz.ntmps110
    go_upto_region 1 with (fail)
    clear hW0 hqb
    obtain ⟨g1,hg1⟩:∃ g,W0.heap.size=g:=⟨_,rfl⟩
    obtain ⟨w1,hw1⟩:∃ u,W0.alloc (.cells #[.int .i64 al,.int .i64 ah,.int .i64 bl,.int .i64 bh] 31)=u:=⟨_,rfl⟩
    have HF2:=Lib.hid (frE hw1 (HF0.out.alloc hg1.symm 31 #[.int .i64 al,.int .i64 ah,.int .i64 bl,.int .i64 bh]))
    go_wp2_with (first
      | (refine wpLoadF rfl 31 _ rfl qb 0 rfl _ _ (HF0.out.get 0 rfl) #[.int .i64 al,.int .i64 ah] rfl _ und_span rfl info_span ?_)
      | (refine wpLoadF rfl 31 _ rfl (qb+1) 0 rfl _ _ (HF0.out.get 1 rfl) #[.int .i64 bl,.int .i64 bh] rfl _ und_span rfl info_span ?_))
    clear hw1 hg1
    refine (HCK.out _ g1 31 (HF2.out.get 3 rfl)).mono ?_
    rintro e w3 ⟨rfl,hw⟩
    have HF4:=Lib.hid (HF2.out.below hw)
    clear hw
    have c5:w3.cell? ⟨qb+1,0,none⟩=some (.int .i64 bl):=(HF4.out.get 1 rfl).cell 0
    have c6:w3.cell? ⟨qb+1,1,none⟩=some (.int .i64 bh):=(HF4.out.get 1 rfl).cell 1
    have c7:w3.cell? ⟨qb,0,none⟩=some (.int .i64 al):=(HF4.out.get 0 rfl).cell 0
    have c8:w3.cell? ⟨qb,1,none⟩=some (.int .i64 ah):=(HF4.out.get 0 rfl).cell 1
    obtain ⟨g9,hg9⟩:∃ g,w3.heap.size=g:=⟨_,rfl⟩
    obtain ⟨w9,hw9⟩:∃ u,w3.alloc (.cells #[.int .i64 al,.int .i64 ah] 29)=u:=⟨_,rfl⟩
    have HF10:=Lib.hid (frE hw9 (HF4.out.alloc hg9.symm 29 #[.int .i64 al,.int .i64 ah]))
    go_wp2_with fail
    clear c5 c6 c7 c8 hw9 hg9
    obtain ⟨base,hbase⟩:∃ b:List Ent,[(qb,31,iC [al,ah]),(qb+1,31,iC [bl,bh]),(qb+1+1,31,iC [0,0]),(g1,31,iC [al,ah,bl,bh]),(g9,29,iC [al,ah])]=b:=⟨_,rfl⟩
    have HB:Hid (base=[(qb,31,iC [al,ah]),(qb+1,31,iC [bl,bh]),(qb+1+1,31,iC [0,0]),(g1,31,iC [al,ah,bl,bh]),(g9,29,iC [al,ah])]):=Lib.hid hbase.symm
    have HD0:Hid (DivI w base qd qu (.slice none 0 0) (.slice none 0 0) 0 w9):=Lib.hid ⟨#[],#[],by rw [HB.out];exact HF10.out,BgL.nil qd,BgL.nil qu⟩
    clear hbase
    go_loopw [7,8,42] (fun vd vu iv wr=>∃ k:Nat,k≤2∧iv=.int .i64 k∧Hid (DivI w base qd qu vd vu (2 * k) wr)) (fun _ _ iv _=>2 - (intOf iv).toNat)
    case atStart=>exact ⟨0,Nat.zero_le _,rfl,HD0⟩
    case round =>
     obtain ⟨wo,rfl⟩:∃ wo:World,wo=wr:=⟨_,rfl⟩
     obtain ⟨k,hk,rfl,hs⟩:=hrel
     obtain ⟨cd0,cu0,hf0,hd0,hu0⟩:=hs.out
     rw [HB.out] at hf0
     have HFA:=Lib.hid hf0
     have HDL:=Lib.hid hd0
     have HUL:=Lib.hid hu0
     clear hf0 hd0 hu0 hs
     obtain ⟨vd0,rfl⟩:∃ z:Value,z=u7:=⟨_,rfl⟩
     obtain ⟨vu0,rfl⟩:∃ z:Value,z=u8:=⟨_,rfl⟩
     by_cases hlt:k<2
     ·have hki:(k:Int)<2:=by omega
      have hca:wo.cell? ⟨g9,k,none⟩=some (.int .i64 (fx al ah k)):=by
       rw [(HFA.out.get 4 rfl).cell]
       match k,hlt with
       | 0,_=>rfl
       | 1,_=>rfl
      have c11:wo.cell? ⟨qb+1,0,none⟩=some (.int .i64 bl):=(HFA.out.get 1 rfl).cell 0
      have c12:wo.cell? ⟨qb+1,1,none⟩=some (.int .i64 bh):=(HFA.out.get 1 rfl).cell 1
      obtain ⟨g13,hg13⟩:∃ g,wo.heap.size=g:=⟨_,rfl⟩
      obtain ⟨w13,hw13⟩:∃ u,wo.alloc (.cells #[.int .i64 bl,.int .i64 bh] 29)=u:=⟨_,rfl⟩
      have HF14:=Lib.hid (frE hw13 (HFA.out.allocM hg13.symm 29 #[.int .i64 bl,.int .i64 bh]))
      go_wp2_with fail
      clear hca c11 c12 hw13 hg13
      obtain ⟨base2,hbase2⟩:∃ b:List Ent,[(qb,31,iC [al,ah]),(qb+1,31,iC [bl,bh]),(qb+1+1,31,iC [0,0]),(g1,31,iC [al,ah,bl,bh]),(g9,29,iC [al,ah]),(g13,29,iC [bl,bh])]=b:=⟨_,rfl⟩
      have HB2:Hid (base2=[(qb,31,iC [al,ah]),(qb+1,31,iC [bl,bh]),(qb+1+1,31,iC [0,0]),(g1,31,iC [al,ah,bl,bh]),(g9,29,iC [al,ah]),(g13,29,iC [bl,bh])]):=Lib.hid hbase2.symm
      have HD2:Hid (DivI w base2 qd qu vd0 vu0 (2 * k+0) w13):=Lib.hid ⟨cd0,cu0,by rw [HB2.out];exact HF14.out,HDL.out,HUL.out⟩
      clear hbase2 HDL HUL
      go_loopw [7,8,52] (fun vd vu iv wr=>∃ j:Nat,j≤2∧iv=.int .i64 j∧Hid (DivI w base2 qd qu vd vu (2 * k+j) wr)) (fun _ _ iv _=>2 - (intOf iv).toNat)
      case atStart=>exact ⟨0,Nat.zero_le _,rfl,HD2⟩
      case round =>
       obtain ⟨wi,rfl⟩:∃ wi:World,wi=wr:=⟨_,rfl⟩
       obtain ⟨j,hj,rfl,hs⟩:=hrel
       obtain ⟨vd1,rfl⟩:∃ z:Value,z=u7:=⟨_,rfl⟩
       obtain ⟨vu1,rfl⟩:∃ z:Value,z=u8:=⟨_,rfl⟩
       obtain ⟨cd1,cu1,hf1,hd1,hu1⟩:=hs.out
       rw [HB2.out] at hf1
       have HFB:=Lib.hid hf1
       by_cases hlj:j<2
       ·have hji:(j:Int)<2:=by omega
        obtain ⟨rd,hrd,hld,hqd⟩:=hd1
        obtain ⟨ru,hru,hlu,hqu⟩:=hu1
        have HLD:=Lib.hid hld
        have HLU:=Lib.hid hlu
        have HRD:=Lib.hid (And.intro hrd hqd)
        have HRU:=Lib.hid (And.intro hru hqu)
        have HM:Hid (2 * k+j≤65536):=Lib.hid (by omega)
        clear hf1 hld hlu hrd hqd hru hqu hs
        obtain ⟨mm,hmm⟩:∃ z,2 * k+j=z:=⟨_,rfl⟩
        have HMM:=Lib.hid hmm
        rw [hmm] at HLD HLU HRD HRU HM
        clear hmm
        have hcb:wi.cell? ⟨g13,j,none⟩=some (.int .i64 (fx bl bh j)):=by
         rw [(HFB.out.get 5 rfl).cell]
         match j,hlj with
         | 0,_=>rfl
         | 1,_=>rfl
        go_wp2_with fail
        clear hcb
        refine (HRat.out k j _).mono ?_
        rintro e w15 ⟨tp,xp,yp,tq,xq,yq,rfl,hp,hq,hw⟩
        have HF16:Hid (Fr w [] ([(qb,31,iC [al,ah]),(qb+1,31,iC [bl,bh]),(qb+1+1,31,iC [0,0]),(g1,31,iC [al,ah,bl,bh]),(g9,29,iC [al,ah]),(g13,29,iC [bl,bh])] ++ (lstE 217 vd1 cd1 ++ (lstE 217 vu1 cu1 ++ []))) w15):=Lib.hid (HFB.out.below hw)
        clear hw
        obtain ⟨g17,hg17⟩:∃ g,w15.heap.size=g:=⟨_,rfl⟩
        obtain ⟨w17,hw17⟩:∃ u,w15.alloc (.cells #[.bool false,.int .u64 0,.int .u64 0] 217)=u:=⟨_,rfl⟩
        have HF18:Hid (Fr w [] ([(qb,31,iC [al,ah]),(qb+1,31,iC [bl,bh]),(qb+1+1,31,iC [0,0]),(g1,31,iC [al,ah,bl,bh]),(g9,29,iC [al,ah]),(g13,29,iC [bl,bh]),(g17,217,#[.bool false,.int .u64 0,.int .u64 0])] ++ (lstE 217 vd1 cd1 ++ (lstE 217 vu1 cu1 ++ []))) w17):=Lib.hid (by rw [← hw17];exact HF16.out.allocM hg17.symm 217 #[.bool false,.int .u64 0,.int .u64 0])
        obtain ⟨g19,hg19⟩:∃ g,w17.heap.size=g:=⟨_,rfl⟩
        obtain ⟨w19,hw19⟩:∃ u,w17.alloc (.cells #[.bool false,.int .u64 0,.int .u64 0] 217)=u:=⟨_,rfl⟩
        have HF20:=Lib.hid (frE hw19 (HF18.out.allocM hg19.symm 217 #[.bool false,.int .u64 0,.int .u64 0]))
        go_upto_region 14 with (first
          | (refine wpStoreF rfl rfl 217 _ _ rfl g17 0 rfl #[.bool tp,.int .u64 xp,.int .u64 yp] rfl _ _ #[.bool tp,.int .u64 xp,.int .u64 yp] (HF20.out.get 6 rfl) rfl (by show 0+3≤3;omega) (one_all rfl) info_big ?_;intro w21 hk ho;clear hw17 hg17 hw19 hg19;have HF22:=Lib.hid (HF20.out.only 6 rfl ho hk);clear ho hk)
          | (refine wpStoreF rfl rfl 217 _ _ rfl g19 0 rfl #[.bool tq,.int .u64 xq,.int .u64 yq] rfl _ _ #[.bool tq,.int .u64 xq,.int .u64 yq] (HF22.out.get 7 rfl) rfl (by show 0+3≤3;omega) (one_all rfl) info_big ?_;intro w23 hk ho;have HF24:=Lib.hid (HF22.out.only 7 rfl ho hk);clear ho hk))
        refine wp_region_ft [Kind.p,Kind.p,Kind.a 0,Kind.c 0,Kind.p,Kind.p,Kind.a 1,Kind.c 1,Kind.p,Kind.p] [3,7] [(2,217,fun _=>#[.bool tp,.int .u64 xp,.int .u64 yp]),(6,217,fun _=>#[.bool tq,.int .u64 xq,.int .u64 yq])] w
          (fun k vs O N=>O=[]∧match k with
           | 0=>N=[(qb,31,iC [al,ah]),(qb+1,31,iC [bl,bh]),(qb+1+1,31,iC [0,0]),(g1,31,iC [al,ah,bl,bh]),(g9,29,iC [al,ah]),(g13,29,iC [bl,bh]),(g17,217,#[.bool tp,.int .u64 xp,.int .u64 yp]),(g19,217,#[.bool tq,.int .u64 xq,.int .u64 yq])] ++ (lstE 217 vd1 cd1 ++ (lstE 217 vu1 cu1 ++ []))
           | 1=>∃ cd',N=[(qb,31,iC [al,ah]),(qb+1,31,iC [bl,bh]),(qb+1+1,31,iC [0,0]),(g1,31,iC [al,ah,bl,bh]),(g9,29,iC [al,ah]),(g13,29,iC [bl,bh]),(g17,217,#[.bool tp,.int .u64 xp,.int .u64 yp]),(g19,217,#[.bool tq,.int .u64 xq,.int .u64 yq])] ++ (lstE 217 (vs 3) cd' ++ (lstE 217 vu1 cu1 ++ []))∧LstAt 3 (vs 3) cd' (mm+1) (rowsC rd ++ [.bool tp,.int .u64 xp,.int .u64 yp])
           | _=>∃ cd' cu',N=[(qb,31,iC [al,ah]),(qb+1,31,iC [bl,bh]),(qb+1+1,31,iC [0,0]),(g1,31,iC [al,ah,bl,bh]),(g9,29,iC [al,ah]),(g13,29,iC [bl,bh]),(g17,217,#[.bool tp,.int .u64 xp,.int .u64 yp]),(g19,217,#[.bool tq,.int .u64 xq,.int .u64 yq])] ++ (lstE 217 (vs 3) cd' ++ (lstE 217 (vs 7) cu' ++ []))∧LstAt 3 (vs 3) cd' (mm+1) (rowsC rd ++ [.bool tp,.int .u64 xp,.int .u64 yp])∧LstAt 3 (vs 7) cu' (mm+1) (rowsC ru ++ [.bool tq,.int .u64 xq,.int .u64 yq]))
          (fun ix u d=>match ix with
           | 0=>u=vd1
           | 1=>u=.agg #[.bool tp,.int .u64 xp,.int .u64 yp]
           | 2=>u=.slice (some ⟨gOf u,0,none⟩) 1 1
           | 4=>u=vu1
           | 5=>u=.agg #[.bool tq,.int .u64 xq,.int .u64 yq]
           | 6=>u=.slice (some ⟨gOf u,0,none⟩) 1 1
           | 8=>u=d 3
           | 9=>u=d 7
           | _=>True)
          (by kernel_rfl) (by kernel_rfl) (by kernel_rfl) [2,6] rfl (by decide) (by kernel_rfl) (by kernel_rfl) ?_ HF24.out (fun _=>⟨rfl,rfl⟩) ?_ ?_
        ·intro k vs vs' O N hv ht
         have h3:=hv 3 (by simp)
         have h7:=hv 7 (by simp)
         match k,ht with
         | 0,ht=>exact ht
         | 1,ht=>(try dsimp only at ht ⊢);rw [h3];exact ht
         | _+2,ht=>(try dsimp only at ht ⊢);rw [h3,h7];exact ht
        ·refine ⟨?_,?_,?_,?_,?_,?_,?_,?_,?_,?_,trivial⟩
         ·intro a w1 vs dn k O N K S hpre KE DE kk
          have e7:=KE 7 (by decide)
          go_simp;exact kk _ _ (by simp) bR rfl
         ·intro a w1 vs dn k O N K S hpre KE DE kk
          have e13:=KE 13 (by decide)
          have HBX:Bk w1 g17 217 #[.bool tp,.int .u64 xp,.int .u64 yp]∧Bk w1 g19 217 #[.bool tq,.int .u64 xq,.int .u64 yq]:=by
           obtain ⟨_,ht⟩:=S.t
           have hkl:=S.kle
           match k,ht,hkl,S.fr with
           | 0,ht,_,hf=>subst ht;exact ⟨hf.left.get 6 rfl,hf.left.get 7 rfl⟩
           | 1,ht,_,hf=>obtain ⟨cd',ht,_⟩:=ht;subst ht;exact ⟨hf.left.get 6 rfl,hf.left.get 7 rfl⟩
           | _+2,ht,_,hf=>obtain ⟨cd',cu',ht,_⟩:=ht;subst ht;exact ⟨hf.left.get 6 rfl,hf.left.get 7 rfl⟩
          exact wpo_loadF 217 (.tmp 13) rfl g17 0 (by simpa [Act.eval] using e13) 217 _ HBX.1 #[.bool tp,.int .u64 xp,.int .u64 yp] rfl _ und_big rfl info_big (kk _ _ (by simp) bR rfl)
         ·intro a w1 vs dn k O N K S hpre KE DE kk
          have e63:=(DE 1 _ 63 rfl rfl rfl).1.trans (DE 1 _ 63 rfl rfl rfl).2
          go_simp;exact kk _ _ (by simp) (S.fr.alloc rfl _ _) rfl
         ·intro a w1 vs dn k O N K S hpre KE DE kk
          subst hpre
          have e62:=(DE 0 _ 62 rfl rfl rfl).1.trans (DE 0 _ 62 rfl rfl rfl).2
          have e64:=(DE 2 _ 64 rfl rfl rfl).1.trans (DE 2 _ 64 rfl rfl rfl).2
          obtain ⟨rfl,rfl⟩:=S.t
          have HS:=S.fr
          rw [List.append_assoc,List.append_assoc,List.append_assoc,List.nil_append] at HS
          exact wpo_push (.tmp 62) (.tmp 64) 241 rfl HS HLD.out (by kernel_rfl) info_push rfl (by decide) (by decide) HM.out _ 1 _ 217 (by simpa [Act.eval] using e62) (by simpa [Act.eval] using e64) (S.at 0 rfl (S.done 2 rfl)) rfl rfl
           fun v' w' cur' h1 h2=>kk _ _ (by simp) ⟨[],_,⟨rfl,cur',rfl,h1⟩,by rw [aTab_stage (A:=[(2,217,fun _=>#[.bool tp,.int .u64 xp,.int .u64 yp]),(6,217,fun _=>#[.bool tq,.int .u64 xq,.int .u64 yq])]) (s:=0) ⟨rfl,rfl,trivial⟩,List.append_assoc,List.append_assoc,List.append_assoc,List.nil_append];exact h2⟩ trivial
         ·intro a w1 vs dn k O N K S hpre KE DE kk
          have e8:=KE 8 (by decide)
          go_simp;exact kk _ _ (by simp) bR rfl
         ·intro a w1 vs dn k O N K S hpre KE DE kk
          have e14:=KE 14 (by decide)
          have HBX:Bk w1 g17 217 #[.bool tp,.int .u64 xp,.int .u64 yp]∧Bk w1 g19 217 #[.bool tq,.int .u64 xq,.int .u64 yq]:=by
           obtain ⟨_,ht⟩:=S.t
           have hkl:=S.kle
           match k,ht,hkl,S.fr with
           | 0,ht,_,hf=>subst ht;exact ⟨hf.left.get 6 rfl,hf.left.get 7 rfl⟩
           | 1,ht,_,hf=>obtain ⟨cd',ht,_⟩:=ht;subst ht;exact ⟨hf.left.get 6 rfl,hf.left.get 7 rfl⟩
           | _+2,ht,_,hf=>obtain ⟨cd',cu',ht,_⟩:=ht;subst ht;exact ⟨hf.left.get 6 rfl,hf.left.get 7 rfl⟩
          exact wpo_loadF 217 (.tmp 14) rfl g19 0 (by simpa [Act.eval] using e14) 217 _ HBX.2 #[.bool tq,.int .u64 xq,.int .u64 yq] rfl _ und_big rfl info_big (kk _ _ (by simp) bR rfl)
         ·intro a w1 vs dn k O N K S hpre KE DE kk
          have e67:=(DE 5 _ 67 rfl rfl rfl).1.trans (DE 5 _ 67 rfl rfl rfl).2
          go_simp;exact kk _ _ (by simp) (S.fr.alloc rfl _ _) rfl
         ·intro a w1 vs dn k O N K S hpre KE DE kk
          subst hpre
          have e66:=(DE 4 _ 66 rfl rfl rfl).1.trans (DE 4 _ 66 rfl rfl rfl).2
          have e68:=(DE 6 _ 68 rfl rfl rfl).1.trans (DE 6 _ 68 rfl rfl rfl).2
          obtain ⟨rfl,cd',rfl,hld⟩:=S.t
          have HS:=S.fr
          rw [← List.append_assoc,List.append_assoc _ (lstE 217 vu1 cu1 ++ []),List.append_assoc (lstE 217 vu1 cu1),List.nil_append] at HS
          exact wpo_push (.tmp 66) (.tmp 68) 241 rfl HS HLU.out (by kernel_rfl) info_push rfl (by decide) (by decide) HM.out _ 1 _ 217 (by simpa [Act.eval] using e66) (by simpa [Act.eval] using e68) (S.at 1 rfl (S.done 6 rfl)) rfl rfl
           fun v' w' cur' h1 h2=>kk _ _ (by simp) ⟨[],_,⟨rfl,cd',cur',rfl,hld,h1⟩,by rw [aTab_stage (A:=[(2,217,fun _=>#[.bool tp,.int .u64 xp,.int .u64 yp]),(6,217,fun _=>#[.bool tq,.int .u64 xq,.int .u64 yq])]) (s:=1) ⟨rfl,rfl,trivial⟩,← List.append_assoc,List.append_assoc _ (lstE 217 _ cur' ++ []),List.append_assoc (lstE 217 _ cur'),List.nil_append];exact h2⟩ trivial
         ·intro a w1 vs dn k O N K S hpre KE DE kk
          have e65:=(DE 3 _ 65 rfl rfl rfl).1
          go_simp;exact kk _ _ (by simp) bR rfl
         ·intro a w1 vs dn k O N K S hpre KE DE kk
          have e69:=(DE 7 _ 69 rfl rfl rfl).1
          go_simp;exact kk _ _ (by simp) bR rfl
        ·intro vs wf O N HT HFr HR
         have v8:vs 8=vs 3:=HR 8 _ rfl
         have v9:vs 9=vs 7:=HR 9 _ rfl
         obtain ⟨rfl,cd',cu',rfl,HLD',HLU'⟩:=HT
         clear HR
         have HFr':=HFr.left
         clear HFr
         simp only [putAll,Act.put,List.setIfInBounds_toArray,List.set_cons_zero,List.set_cons_succ]
         simp only [v8,v9]
         clear v8 v9
         obtain ⟨vd',hvd'⟩:∃ z,vs 3=z:=⟨_,rfl⟩
         obtain ⟨vu',hvu'⟩:∃ z,vs 7=z:=⟨_,rfl⟩
         rw [hvd'] at HLD' HFr' ⊢
         rw [hvu'] at HLU' HFr' ⊢
         clear hvd' hvu'
         go_wp2_with fail
         go_roundw
         case rel =>
          refine ⟨j+1,by omega,by go_num,Lib.hid ⟨cd',cu',?_,?_,?_⟩⟩
          ·rw [HB2.out]
           exact HFr'.sub ((List.sublist_append_left ([(qb,31,iC [al,ah]),(qb+1,31,iC [bl,bh]),(qb+1+1,31,iC [0,0]),(g1,31,iC [al,ah,bl,bh]),(g9,29,iC [al,ah]),(g13,29,iC [bl,bh])]:List Ent) [(g17,217,#[.bool tp,.int .u64 xp,.int .u64 yp]),(g19,217,#[.bool tq,.int .u64 xq,.int .u64 yq])]).append_right _)
          ·rw [show 2 * k+(j+1)=mm+1 by have:=HMM.out;omega]
           exact BgL.push HRD.out.1 HRD.out.2 (r:=(tp,xp,yp)) HLD' (by have:=(HQ.out k j hlj).1;rw [HMM.out] at this;rw [← this];exact hp)
          ·rw [show 2 * k+(j+1)=mm+1 by have:=HMM.out;omega]
           exact BgL.push HRU.out.1 HRU.out.2 (r:=(tq,xq,yq)) HLU' (by have:=(HQ.out k j hlj).2;rw [HMM.out] at this;rw [← this];exact hq)
         case measure=>simp [intOf];omega
       ·obtain rfl:j=2:=by omega
        have HF9:=HFB
        clear hf1
        go_wp2_with fail
        go_roundw
        case rel =>
         refine ⟨k+1,by omega,by go_num,Lib.hid ⟨cd1,cu1,?_,hd1,hu1⟩⟩
         rw [HB.out]
         exact HFB.out.sub ((List.sublist_append_left ([(qb,31,iC [al,ah]),(qb+1,31,iC [bl,bh]),(qb+1+1,31,iC [0,0]),(g1,31,iC [al,ah,bl,bh]),(g9,29,iC [al,ah])]:List Ent) [(g13,29,iC [bl,bh])]).append_right _)
        case measure=>simp [intOf];omega
     ·obtain rfl:k=2:=by omega
      go_wp2_with fail
      refine (hullL_any HFA.out HDL.out (by decide) (by decide)).mono ?_
      rintro e w25 ⟨tp,xp,yp,tp',xp',yp',rfl,hp,hp',hw⟩
      have HF26:Hid (Fr w [] ([(qb,31,iC [al,ah]),(qb+1,31,iC [bl,bh]),(qb+1+1,31,iC [0,0]),(g1,31,iC [al,ah,bl,bh]),(g9,29,iC [al,ah])] ++ (lstE 217 vd0 cd0 ++ (lstE 217 vu0 cu0 ++ []))) w25):=Lib.hid (HFA.out.below hw)
      clear hw
      obtain ⟨g27,hg27⟩:∃ g,w25.heap.size=g:=⟨_,rfl⟩
      obtain ⟨w27,hw27⟩:∃ u,w25.alloc (.cells #[.bool false,.int .u64 0,.int .u64 0] 217)=u:=⟨_,rfl⟩
      have HF28:Hid (Fr w [] ([(qb,31,iC [al,ah]),(qb+1,31,iC [bl,bh]),(qb+1+1,31,iC [0,0]),(g1,31,iC [al,ah,bl,bh]),(g9,29,iC [al,ah]),(g27,217,#[.bool false,.int .u64 0,.int .u64 0])] ++ (lstE 217 vd0 cd0 ++ (lstE 217 vu0 cu0 ++ []))) w27):=Lib.hid (by rw [← hw27];exact HF26.out.allocM hg27.symm 217 #[.bool false,.int .u64 0,.int .u64 0])
      obtain ⟨g29,hg29⟩:∃ g,w27.heap.size=g:=⟨_,rfl⟩
      obtain ⟨w29,hw29⟩:∃ u,w27.alloc (.cells #[.bool false,.int .u64 0,.int .u64 0] 217)=u:=⟨_,rfl⟩
      have HF30:=Lib.hid (frE hw29 (HF28.out.allocM hg29.symm 217 #[.bool false,.int .u64 0,.int .u64 0]))
      go_wp2_with (first
        | (refine wpStoreF rfl rfl 217 _ _ rfl g27 0 rfl #[.bool tp,.int .u64 xp,.int .u64 yp] rfl _ _ #[.bool tp,.int .u64 xp,.int .u64 yp] (HF30.out.get 5 rfl) rfl (by show 0+3≤3;omega) (one_all rfl) info_big ?_;intro w31 hk ho;clear hw27 hg27 hw29 hg29;have HF32:=Lib.hid (HF30.out.only 5 rfl ho hk);clear ho hk)
        | (refine wpStoreF rfl rfl 217 _ _ rfl g29 0 rfl #[.bool tp',.int .u64 xp',.int .u64 yp'] rfl _ _ #[.bool tp',.int .u64 xp',.int .u64 yp'] (HF32.out.get 6 rfl) rfl (by show 0+3≤3;omega) (one_all rfl) info_big ?_;intro w33 hk ho;have HF34:=Lib.hid (HF32.out.only 6 rfl ho hk);clear ho hk))
      refine (hullL_any (W:=w) (O:=[]) (N:=[(qb,31,iC [al,ah]),(qb+1,31,iC [bl,bh]),(qb+1+1,31,iC [0,0]),(g1,31,iC [al,ah,bl,bh]),(g9,29,iC [al,ah]),(g27,217,#[.bool tp,.int .u64 xp,.int .u64 yp]),(g29,217,#[.bool tp',.int .u64 xp',.int .u64 yp'])] ++ lstE 217 vd0 cd0) (Y:=[]) (by rw [List.append_assoc];exact HF34.out) HUL.out (by decide) (by decide)).mono ?_
      rintro e wh ⟨tq,xq,yq,tq',xq',yq',rfl,hq,hq',hw⟩
      have HF35:Hid (Fr w [] ([(qb,31,iC [al,ah]),(qb+1,31,iC [bl,bh]),(qb+1+1,31,iC [0,0]),(g1,31,iC [al,ah,bl,bh]),(g9,29,iC [al,ah]),(g27,217,#[.bool tp,.int .u64 xp,.int .u64 yp]),(g29,217,#[.bool tp',.int .u64 xp',.int .u64 yp'])] ++ (lstE 217 vd0 cd0 ++ (lstE 217 vu0 cu0 ++ []))) wh):=Lib.hid (HF34.out.below hw)
      clear hw
      obtain ⟨g36,hg36⟩:∃ g,wh.heap.size=g:=⟨_,rfl⟩
      obtain ⟨w36,hw36⟩:∃ u,wh.alloc (.cells #[.bool false,.int .u64 0,.int .u64 0] 217)=u:=⟨_,rfl⟩
      have HF37:Hid (Fr w [] ([(qb,31,iC [al,ah]),(qb+1,31,iC [bl,bh]),(qb+1+1,31,iC [0,0]),(g1,31,iC [al,ah,bl,bh]),(g9,29,iC [al,ah]),(g27,217,#[.bool tp,.int .u64 xp,.int .u64 yp]),(g29,217,#[.bool tp',.int .u64 xp',.int .u64 yp']),(g36,217,#[.bool false,.int .u64 0,.int .u64 0])] ++ (lstE 217 vd0 cd0 ++ (lstE 217 vu0 cu0 ++ []))) w36):=Lib.hid (by rw [← hw36];exact HF35.out.allocM hg36.symm 217 #[.bool false,.int .u64 0,.int .u64 0])
      obtain ⟨g38,hg38⟩:∃ g,w36.heap.size=g:=⟨_,rfl⟩
      obtain ⟨w38,hw38⟩:∃ u,w36.alloc (.cells #[.bool false,.int .u64 0,.int .u64 0] 217)=u:=⟨_,rfl⟩
      have HF39:=Lib.hid (frE hw38 (HF37.out.allocM hg38.symm 217 #[.bool false,.int .u64 0,.int .u64 0]))
      go_wp2_with (first
        | (refine wpStoreF rfl rfl 217 _ _ rfl g36 0 rfl #[.bool tq,.int .u64 xq,.int .u64 yq] rfl _ _ #[.bool tq,.int .u64 xq,.int .u64 yq] (HF39.out.get 7 rfl) rfl (by show 0+3≤3;omega) (one_all rfl) info_big ?_;intro w40 hk ho;clear hw36 hg36 hw38 hg38;have HF41:=Lib.hid (HF39.out.only 7 rfl ho hk);clear ho hk)
        | (refine wpLoadF rfl 217 _ rfl g27 0 rfl _ _ (HF43.out.get 5 rfl) #[.bool tp,.int .u64 xp,.int .u64 yp] rfl _ und_big rfl info_big ?_)
        | (refine wpLoadF rfl 217 _ rfl g38 0 rfl _ _ (HF43.out.get 8 rfl) #[.bool tq',.int .u64 xq',.int .u64 yq'] rfl _ und_big rfl info_big ?_)
        | (refine wpStoreF rfl rfl 217 _ _ rfl g38 0 rfl #[.bool tq',.int .u64 xq',.int .u64 yq'] rfl _ _ #[.bool tq',.int .u64 xq',.int .u64 yq'] (HF41.out.get 8 rfl) rfl (by show 0+3≤3;omega) (one_all rfl) info_big ?_;intro w42 hk ho;have HF43:=Lib.hid (HF41.out.only 8 rfl ho hk);clear ho hk))
      have HFT:=fit_any hp hq' HS1.out HS2.out
      unfold SpPost spanV at HFT
      rw [HFE.out] at HFT
      refine (HFT _).mono ?_
      rintro e w44 ⟨rfl,hw⟩
      have HF45:=Lib.hid (HF43.out.below hw)
      clear hw
      go_wp2_with (refine wpStoreF rfl rfl 31 _ _ rfl (qb+1+1) 0 rfl #[.int .i64 fl,.int .i64 fh] rfl _ _ (iC [fl,fh]) (HF45.out.get 2 rfl) rfl (by show 0+2≤2;omega) (one_all rfl) info_span ?_;intro w46 hk ho;have HF47:=Lib.hid (HF45.out.only 2 rfl ho hk);clear ho hk)
      refine ret_agg2 rfl rfl rfl (HF47.out.get 2 rfl) rfl und_span rfl info_span ?_
      exact HFIN.out _ HF47.out.drop

theorem wd_abs {a:SpanD} (h:chkB a=true) (hw:WdS a):WdS (absS a):=by
 have h3:=chk_iff.1 h
 unfold WdS absS negS at *
 split
 ·exact hw
 ·split <;> dsimp only <;> omega
theorem square_any (a:SpanD) (ha:WdS a) (w:World):Calls Tryz.prog 135 #[spanV a] w (SpPost (squareB a) w.heap.size w):=by
 have H1:=Lib.hid (fun w=>abs_any a ha w)
 have HFIN:Hid (∀ w',Fr w [] [] w'→SpPost (squareB a) w.heap.size w (.returned (.tuple #[.agg #[.int .i64 (squareB a).1.lo,.int .i64 (squareB a).1.hi],.int .i64 (squareB a).2])) w'):=Lib.hid fun w' h=>⟨rfl,h.toBelow⟩
 cases hc:chkB a with
 | false =>
  have h1:absB a=(zeroS,2):=by unfold absB;rw [hc];rfl
  have hs:squareB a=(zeroS,2):=by unfold squareB;rw [hc];rfl
  rw [h1] at H1
  rw [hs] at HFIN ⊢
  obtain ⟨al,ah⟩:=a
  clear hc hs ha h1
  unfold SpPost spanV zeroS at H1
  unfold spanV
  dsimp only at H1 HFIN ⊢
  obtain ⟨qb,hqb⟩:∃ qb,w.heap.size=qb:=⟨_,rfl⟩
  obtain ⟨W0,hW0⟩:∃ W0,(w.alloc (.cells #[.int .i64 al,.int .i64 ah] 31)).alloc (.cells #[.int .i64 0,.int .i64 0] 31)=W0:=⟨_,rfl⟩
  have HF0:Hid (Fr w [] [(qb,31,iC [al,ah]),(qb+1,31,iC [0,0])] W0):=Lib.hid (by rw [← hW0];exact ((Fr.start w).alloc (by simp [← hqb]) 31 #[.int .i64 al,.int .i64 ah]).alloc (by simp [← hqb]) 31 #[.int .i64 0,.int .i64 0])
  go_enter Tryz.func135,Tryz.ntmps135
  go_upto_region 1 with (fail)
  clear hW0 hqb
  go_wp2_with (refine wpLoadF rfl 31 _ rfl qb 0 rfl _ _ (HF0.out.get 0 rfl) #[.int .i64 al,.int .i64 ah] rfl _ und_span rfl info_span ?_)
  refine (H1.out _).mono ?_
  rintro e w1 ⟨rfl,hw⟩
  have HF2:=Lib.hid (HF0.out.below hw)
  clear hw
  obtain ⟨g3,hg3⟩:∃ g,w1.heap.size=g:=⟨_,rfl⟩
  obtain ⟨w3,hw3⟩:∃ u,w1.alloc (.cells #[.int .i64 0,.int .i64 0] 31)=u:=⟨_,rfl⟩
  have HF4:=Lib.hid (frE hw3 (HF2.out.alloc hg3.symm 31 #[.int .i64 0,.int .i64 0]))
  go_wp2_with (first
    | (refine wpStoreF rfl rfl 31 _ _ rfl g3 0 rfl #[.int .i64 0,.int .i64 0] rfl _ _ (iC [0,0]) (HF4.out.get 2 rfl) rfl (by show 0+2≤2;omega) (one_all rfl) info_span ?_;intro w5 hk ho;clear hw3 hg3;have HF6:=Lib.hid (HF4.out.only 2 rfl ho hk);clear ho hk)
    | (refine wpStoreF rfl rfl 31 _ _ rfl (qb+1) 0 rfl #[.int .i64 0,.int .i64 0] rfl _ _ (iC [0,0]) (HF6.out.get 1 rfl) rfl (by show 0+2≤2;omega) (one_all rfl) info_span ?_;intro w7 hk ho;have HF8:=Lib.hid (HF6.out.only 1 rfl ho hk);clear ho hk))
  refine ret_agg2 rfl rfl rfl (HF8.out.get 1 rfl) rfl und_span rfl info_span ?_
  exact HFIN.out _ HF8.out.drop
 | true =>
  have h1:absB a=(absS a,0):=by unfold absB;rw [hc];rfl
  have hs:squareB a=mulB (absS a) (absS a):=by unfold squareB;rw [hc];rfl
  rw [h1] at H1
  rw [hs] at HFIN ⊢
  have H2:=Lib.hid (fun w=>mul_any (absS a) (absS a) (wd_abs hc ha) (wd_abs hc ha) w)
  obtain ⟨⟨bl,bh⟩,hb⟩:∃ z,absS a=z:=⟨_,rfl⟩
  rw [hb] at H1 H2 HFIN ⊢
  obtain ⟨⟨⟨fl,fh⟩,fe⟩,hf⟩:∃ z:SpanD × Int,mulB ⟨bl,bh⟩ ⟨bl,bh⟩=z:=⟨_,rfl⟩
  rw [hf] at H2 HFIN ⊢
  obtain ⟨al,ah⟩:=a
  clear hc hs ha h1 hb hf
  unfold SpPost spanV at H1 H2
  unfold spanV
  dsimp only at H1 H2 HFIN ⊢
  obtain ⟨qb,hqb⟩:∃ qb,w.heap.size=qb:=⟨_,rfl⟩
  obtain ⟨W0,hW0⟩:∃ W0,(w.alloc (.cells #[.int .i64 al,.int .i64 ah] 31)).alloc (.cells #[.int .i64 0,.int .i64 0] 31)=W0:=⟨_,rfl⟩
  have HF0:Hid (Fr w [] [(qb,31,iC [al,ah]),(qb+1,31,iC [0,0])] W0):=Lib.hid (by rw [← hW0];exact ((Fr.start w).alloc (by simp [← hqb]) 31 #[.int .i64 al,.int .i64 ah]).alloc (by simp [← hqb]) 31 #[.int .i64 0,.int .i64 0])
  go_enter Tryz.func135,Tryz.ntmps135
  go_upto_region 1 with (fail)
  clear hW0 hqb
  go_wp2_with (refine wpLoadF rfl 31 _ rfl qb 0 rfl _ _ (HF0.out.get 0 rfl) #[.int .i64 al,.int .i64 ah] rfl _ und_span rfl info_span ?_)
  refine (H1.out _).mono ?_
  rintro e w1 ⟨rfl,hw⟩
  have HF2:=Lib.hid (HF0.out.below hw)
  clear hw
  obtain ⟨g3,hg3⟩:∃ g,w1.heap.size=g:=⟨_,rfl⟩
  obtain ⟨w3,hw3⟩:∃ u,w1.alloc (.cells #[.int .i64 0,.int .i64 0] 31)=u:=⟨_,rfl⟩
  have HF4:=Lib.hid (frE hw3 (HF2.out.alloc hg3.symm 31 #[.int .i64 0,.int .i64 0]))
  go_wp2_with (first
    | (refine wpLoadF rfl 31 _ rfl g3 0 rfl _ _ (HF6.out.get 2 rfl) #[.int .i64 bl,.int .i64 bh] rfl _ und_span rfl info_span ?_)
    | (refine wpStoreF rfl rfl 31 _ _ rfl g3 0 rfl #[.int .i64 bl,.int .i64 bh] rfl _ _ (iC [bl,bh]) (HF4.out.get 2 rfl) rfl (by show 0+2≤2;omega) (one_all rfl) info_span ?_;intro w5 hk ho;clear hw3 hg3;have HF6:=Lib.hid (HF4.out.only 2 rfl ho hk);clear ho hk))
  refine (H2.out _).mono ?_
  rintro e w7 ⟨rfl,hw⟩
  have HF8:=Lib.hid (HF6.out.below hw)
  clear hw
  go_wp2_with (refine wpStoreF rfl rfl 31 _ _ rfl (qb+1) 0 rfl #[.int .i64 fl,.int .i64 fh] rfl _ _ (iC [fl,fh]) (HF8.out.get 1 rfl) rfl (by show 0+2≤2;omega) (one_all rfl) info_span ?_;intro w9 hk ho;have HF10:=Lib.hid (HF8.out.only 1 rfl ho hk);clear ho hk)
  refine ret_agg2 rfl rfl rfl (HF10.out.get 1 rfl) rfl und_span rfl info_span ?_
  exact HFIN.out _ HF10.out.drop
theorem up32_exact {n:Bool} {l:Nat} (h1:l≤18446744073709551615) (w:World):Calls Tryz.prog 186 #[.agg #[.bool n,.int .u64 0,.int .u64 l],.int .u64 32] w fun e w'=>e=.returned (.agg #[.bool n,.int .u64 ((l * 4294967296 / 18446744073709551616:Nat):Int),.int .u64 ((l * 4294967296 % 18446744073709551616:Nat):Int)])∧Below w.heap.size w w':=by
 have H2:=Lib.hid h1
 clear h1
 go_enter Tryz.func186,Tryz.ntmps186
 go_wp2_with fail
 refine ret_big rfl rfl rfl (Bk.newAt _ _ _ _ (by simp)) ⟨?_,((Below.refl _ w).alloc (Nat.le_refl _) _).alloc (by simp) _⟩
 have h1:=H2.out
 have e1:bits .or .u64 0 ((l:Int) / 4294967296)=(l:Int) / 4294967296:=by
  rw [show (l:Int) / 4294967296=((l / 4294967296:Nat):Int) by omega]
  have:=bits_or_u64_nat 0 (l / 4294967296) (by omega) (by omega)
  rw [Nat.zero_or] at this;exact this
 unfold bigV
 rw [e1,IntKind.wrap_u64,show ((l * 4294967296 / 18446744073709551616:Nat):Int)=(l:Int) / 4294967296 by omega,show ((l * 4294967296 % 18446744073709551616:Nat):Int)=(l:Int) * 4294967296 % 18446744073709551616 by omega]
/-- The bit that is tried when k bits are left. -/
def bitN:Nat→Nat
 | 0=>0
 | k+1=>2 ^ k
theorem or_add {r k:Nat} (hr:r % 2 ^ (k+1)=0) (h:r<2 ^ 49) (hk:k<49):bits .or .u64 (r:Int) ((2 ^ k:Nat):Int)=((r+2 ^ k:Nat):Int):=by
 have h2:2 ^ k<2 ^ (k+1):=Nat.pow_lt_pow_right (by decide) (by omega)
 have h3:2 ^ k≤2 ^ 48:=Nat.pow_le_pow_right (by decide) (by omega)
 rw [bits_or_u64_nat r (2 ^ k) (by omega) (by omega)]
 have e:r=2 ^ (k+1) * (r / 2 ^ (k+1)):=by have:=Nat.div_add_mod r (2 ^ (k+1));omega
 rw [e,Nat.two_pow_add_eq_or_of_lt h2]
theorem sq_split (p:Nat) (X:Nat) (_:p<2 ^ 50) (_:X<2 ^ 100) :
  ((p * p / 18446744073709551616<X / 18446744073709551616 ∨ p * p / 18446744073709551616=X / 18446744073709551616∧p * p % 18446744073709551616≤X % 18446744073709551616) ↔ p * p≤X):=by
 have h1:=Nat.div_add_mod (p * p) 18446744073709551616
 have h2:=Nat.div_add_mod X 18446744073709551616
 have h3:=Nat.mod_lt (p * p) (show 0<18446744073709551616 by decide)
 have h4:=Nat.mod_lt X (show 0<18446744073709551616 by decide)
 generalize p * p / 18446744073709551616=a at *
 generalize X / 18446744073709551616=b at *
 generalize p * p % 18446744073709551616=c at *
 generalize X % 18446744073709551616=d at *
 omega
/-- What root has, k bits to try. -/
structure RootI (W:World) (g:Nat) (t:Bool) (xh xl:Int) (X k r:Nat) (R:Nat) (w:World):Prop where
 fr:Fr W [] [(g,217,#[.bool t,.int .u64 xh,.int .u64 xl])] w
 val:rootK X k r=R
 low:r % 2 ^ k=0
 lt:r<2 ^ 49
theorem root_any (n:Nat) (hn:n≤9223372036854775807) (w:World) :
  Calls Tryz.prog 180 #[.int .i64 n] w fun e w'=>e=.returned (.tuple #[.int .u64 (rootN n),.bool (decide (rootN n * rootN n=n * 4294967296))])∧Below w.heap.size w w':=by
 have hof:=fun w=>of_any (n:Int) (by unfold I64;omega) w
 have hd:decide ((n:Int)<0)=false:=decide_eq_false (by omega)
 have hsz:sizeI (n:Int)=(n:Int):=by unfold sizeI;rw [if_neg (by omega)]
 rw [hd,hsz] at hof
 unfold bigV at hof
 have HOF:=Lib.hid hof
 have hup:=fun w=>up32_exact (n:=false) (l:=n) (by omega) w
 obtain ⟨X,hX⟩:∃ X,n * 4294967296=X:=⟨_,rfl⟩
 have hXl:X<2 ^ 100:=by omega
 rw [hX] at hup ⊢
 have HUP:=Lib.hid hup
 obtain ⟨xh,hxh⟩:∃ z:Int,((X / 18446744073709551616:Nat):Int)=z:=⟨_,rfl⟩
 obtain ⟨xl,hxl⟩:∃ z:Int,((X % 18446744073709551616:Nat):Int)=z:=⟨_,rfl⟩
 rw [hxh,hxl] at HUP
 have HXH:=Lib.hid hxh
 have HXL:=Lib.hid hxl
 have HXB:=Lib.hid hXl
 obtain ⟨R,hR⟩:∃ R,rootN n=R:=⟨_,rfl⟩
 have HR0:Hid (rootK X 49 0=R):=Lib.hid (by rw [← hR,← hX];rfl)
 have HRL:Hid (R<2 ^ 49):=Lib.hid (by
  rw [← hR]
  have h1:=(rootN_spec (n:=n) (by omega)).1
  have h2:rootN n * rootN n<2 ^ 49 * 2 ^ 49:=by omega
  exact sq_lt h2)
 rw [hR]
 obtain ⟨PQ,hPQ⟩:∃ Q:Ending→World→Prop,(fun e w'=>e=.returned (.tuple #[.int .u64 R,.bool (decide (R * R=X))])∧Below w.heap.size w w')=Q:=⟨_,rfl⟩
 have HFIN:Hid (∀ b w',b=decide (R * R=X)→Fr w [] [] w'→PQ (.returned (.tuple #[.int .u64 R,.bool b])) w'):=Lib.hid fun b w' hb h=>by rw [← hPQ];exact ⟨by rw [hb],h.toBelow⟩
 rw [hPQ]
 clear hPQ hof hup hX hXl hxh hxl hR hd hsz hn
 obtain ⟨qb,hqb⟩:∃ qb,w.heap.size=qb:=⟨_,rfl⟩
 have HF0:Hid (Fr w [] [] w):=Lib.hid (Fr.start w)
 go_enter Tryz.func180,Tryz.ntmps180
 clear hqb qb
 go_wp2_with fail
 refine (HOF.out _).mono ?_
 rintro e w1 ⟨rfl,hw⟩
 have HF2:=Lib.hid (HF0.out.below hw)
 clear hw
 go_wp2_with fail
 refine (HUP.out _).mono ?_
 rintro e w3 ⟨rfl,hw⟩
 have HF4:=Lib.hid (HF2.out.below hw)
 clear hw
 obtain ⟨g5,hg5⟩:∃ g,w3.heap.size=g:=⟨_,rfl⟩
 obtain ⟨w5,hw5⟩:∃ u,w3.alloc (.cells #[.bool false,.int .u64 0,.int .u64 0] 217)=u:=⟨_,rfl⟩
 have HF6:=Lib.hid (frE hw5 (HF4.out.alloc hg5.symm 217 #[.bool false,.int .u64 0,.int .u64 0]))
 go_wp2_with (refine wpStoreF rfl rfl 217 _ _ rfl g5 0 rfl #[.bool false,.int .u64 xh,.int .u64 xl] rfl _ _ #[.bool false,.int .u64 xh,.int .u64 xl] (HF6.out.get 0 rfl) rfl (by show 0+3≤3;omega) (one_all rfl) info_big ?_;intro w7 hk ho;clear hw5 hg5;have HF8:=Lib.hid (HF6.out.only 0 rfl ho hk);clear ho hk)
 have HI0:Hid (RootI w g5 false xh xl X 49 0 R w7):=Lib.hid ⟨HF8.out,HR0.out,by decide,by decide⟩
 go_loopw [2,5] (fun rv bv wr=>∃ k r:Nat,k≤49∧rv=.int .u64 r∧bv=.int .u64 (bitN k:Nat)∧Hid (RootI w g5 false xh xl X k r R wr)) (fun _ bv _=>(intOf bv).toNat)
 case atStart=>exact ⟨49,0,by decide,rfl,rfl,HI0⟩
 case round =>
  obtain ⟨wo,rfl⟩:∃ wo:World,wo=wr:=⟨_,rfl⟩
  obtain ⟨k,r,hk,rfl,rfl,hs⟩:=hrel
  cases k with
  | zero =>
   have hb0:bitN 0=0:=rfl
   rw [hb0]
   have HF:=Lib.hid hs.out.fr
   have hrR:r=R:=hs.out.val
   clear hs hk hb0
   have HRR:=HRL
   subst hrR
   have HM:=Lib.hid (fun w=>Tryz.bits_Mul64 r r (by have:=HRL.out;omega) (by have:=HRL.out;omega) w)
   obtain ⟨mh,hmh⟩:∃ z:Int,((r * r / 18446744073709551616:Nat):Int)=z:=⟨_,rfl⟩
   obtain ⟨ml,hml⟩:∃ z:Int,((r * r % 18446744073709551616:Nat):Int)=z:=⟨_,rfl⟩
   rw [hmh,hml] at HM
   have hEQ:decide (r * r=X)=((mh == xh) && (ml == xl)):=by
    have h1:=HXH.out
    have h2:=HXL.out
    rw [← hmh,← hml,← h1,← h2]
    generalize r * r=p
    rw [Bool.eq_iff_iff]
    simp only [decide_eq_true_eq,Bool.and_eq_true,beq_iff_eq]
    omega
   have HEQ:=Lib.hid hEQ
   clear hEQ hmh hml
   go_wp2_with fail
   refine (HM.out _).mono ?_
   rintro e w9 ⟨rfl,rfl⟩
   have c1:w9.cell? ⟨g5,1,none⟩=some (.int .u64 xh):=(HF.out.get 0 rfl).cell 1
   have c2:w9.cell? ⟨g5,2,none⟩=some (.int .u64 xl):=(HF.out.get 0 rfl).cell 2
   cases he1:(mh == xh) with
   | true =>
    rw [he1] at HEQ
    go_upto_region 9 with (fail)
    go_region
    go_wp2_with fail
    exact HFIN.out _ _ (by rw [HEQ.out];rfl) (HF.out.drop.drewN 1)
   | false =>
    rw [he1] at HEQ
    go_upto_region 9 with (fail)
    go_region
    go_wp2_with fail
    exact HFIN.out _ _ (by rw [HEQ.out];rfl) (HF.out.drop.drewN 1)
  | succ k =>
   have hb0:bitN (k+1)=2 ^ k:=rfl
   rw [hb0]
   have hpos:0<2 ^ k:=Nat.two_pow_pos k
   have hle:2 ^ k≤2 ^ 48:=Nat.pow_le_pow_right (by decide) (by omega)
   have hor:=or_add hs.out.low hs.out.lt (by omega)
   have hlow:=hs.out.low
   have hlt:=hs.out.lt
   have hval:=hs.out.val
   have HF:=Lib.hid hs.out.fr
   rw [rootK_succ] at hval
   have hr2:r+2 ^ k<2 ^ 49:=by
    have e1:=Nat.div_add_mod r (2 ^ (k+1))
    have e2:2 ^ 49=2 ^ (k+1) * 2 ^ (48 - k):=by rw [← Nat.pow_add];congr 1;omega
    have e3:r / 2 ^ (k+1)<2 ^ (48 - k):=Nat.div_lt_of_lt_mul (by rw [← e2];exact hlt)
    have e4:2 ^ (k+1) * (r / 2 ^ (k+1)+1)≤2 ^ (k+1) * 2 ^ (48 - k):=Nat.mul_le_mul_left _ e3
    rw [Nat.mul_add,← e2] at e4
    have e5:2 ^ k<2 ^ (k+1):=Nat.pow_lt_pow_right (by decide) (by omega)
    omega
   have hl1:(r+2 ^ k) % 2 ^ k=0:=by
    rw [Nat.add_mod_right]
    have e1:=Nat.div_add_mod r (2 ^ (k+1))
    have e2:2 ^ (k+1)=2 ^ k * 2:=Nat.pow_succ ..
    rw [hlow,Nat.add_zero,e2,Nat.mul_assoc] at e1
    rw [← e1,Nat.mul_mod_right]
   have hl0:r % 2 ^ k=0:=by rw [Nat.add_mod_right] at hl1;exact hl1
   have hnext:((2 ^ k:Nat):Int) / 2=(bitN k:Nat):=by
    cases k with
    | zero=>rfl
    | succ q=>show ((2 ^ (q+1):Nat):Int) / 2=((2 ^ q:Nat):Int);rw [Nat.pow_succ];omega
   have hdec:bitN k<2 ^ k:=by
    cases k with
    | zero=>decide
    | succ q=>exact Nat.pow_lt_pow_right (by decide) (by omega)
   obtain ⟨b,hb⟩:∃ b,2 ^ k=b:=⟨_,rfl⟩
   obtain ⟨b2,hb2⟩:∃ b,bitN k=b:=⟨_,rfl⟩
   obtain ⟨p,hp⟩:∃ p,r+b=p:=⟨_,rfl⟩
   rw [hb] at hor hval hr2 hl1 hl0 hnext hpos hle hdec ⊢
   rw [hb2] at hnext hdec
   rw [hp] at hor hval hr2 hl1
   have HM:=Lib.hid (fun w=>Tryz.bits_Mul64 p p (by omega) (by omega) w)
   obtain ⟨mh,hmh⟩:∃ z:Int,((p * p / 18446744073709551616:Nat):Int)=z:=⟨_,rfl⟩
   obtain ⟨ml,hml⟩:∃ z:Int,((p * p % 18446744073709551616:Nat):Int)=z:=⟨_,rfl⟩
   rw [hmh,hml] at HM
   have hcmp:=sq_split p X (by omega) HXB.out
   have hcmp2:(mh<xh ∨ mh=xh∧ml≤xl) ↔ p * p≤X:=by
    rw [← hcmp,← hmh,← hml,← HXH.out,← HXL.out];omega
   clear hcmp hmh hml
   have hposI:(0:Int)<(b:Int):=by omega
   have HB:=Lib.hid hb
   have HB2:=Lib.hid hb2
   have HP:=Lib.hid hp
   have HYES:Hid (p * p≤X→∀ w',Fr w [] [(g5,217,#[.bool false,.int .u64 xh,.int .u64 xl])] w'→RootI w g5 false xh xl X k p R w'):=Lib.hid fun h w' hf=>⟨hf,by rw [if_pos h] at hval;exact hval,by rw [hb];exact hl1,hr2⟩
   have HNO:Hid (¬ p * p≤X→∀ w',Fr w [] [(g5,217,#[.bool false,.int .u64 xh,.int .u64 xl])] w'→RootI w g5 false xh xl X k r R w'):=Lib.hid fun h w' hf=>⟨hf,by rw [if_neg h] at hval;exact hval,by rw [hb];exact hl0,hlt⟩
   clear hb hb2 hp hval hl1 hl0 hlow hs hlt hr2 hle hb0 hpos
   have HK:Hid (k+1≤49):=Lib.hid hk
   have HDEC:=Lib.hid hdec
   clear hk hdec
   go_wp2_with fail
   refine (HM.out _).mono ?_
   rintro e w9 ⟨rfl,rfl⟩
   clear HM
   have c1:w9.cell? ⟨g5,1,none⟩=some (.int .u64 xh):=(HF.out.get 0 rfl).cell 1
   have c2:w9.cell? ⟨g5,2,none⟩=some (.int .u64 xl):=(HF.out.get 0 rfl).cell 2
   by_cases h1:mh<xh
   ·have hgood:p * p≤X:=hcmp2.1 (.inl h1)
    have g1:decide (mh<xh)=true:=decide_eq_true h1
    clear hcmp2
    go_wp2_with fail
    go_roundw
    case rel=>exact ⟨k,p,by have:=HK.out;omega,rfl,by rw [HB2.out],Lib.hid (HYES.out hgood _ HF.out)⟩
    case measure=>have:=HDEC.out;simp [intOf];omega
   ·have g1:decide (mh<xh)=false:=decide_eq_false h1
    by_cases h2:mh=xh
    ·have g2:(mh == xh)=true:=by simpa using h2
     by_cases h3:ml≤xl
     ·have hgood:p * p≤X:=hcmp2.1 (.inr ⟨h2,h3⟩)
      have g3:decide (ml≤xl)=true:=decide_eq_true h3
      clear hcmp2 h2
      go_wp2_with fail
      go_roundw
      case rel=>exact ⟨k,p,by have:=HK.out;omega,rfl,by rw [HB2.out],Lib.hid (HYES.out hgood _ HF.out)⟩
      case measure=>have:=HDEC.out;simp [intOf];omega
     ·have hgood:¬ p * p≤X:=fun h=>by have:=hcmp2.2 h;omega
      have g3:decide (ml≤xl)=false:=decide_eq_false h3
      clear hcmp2 h2
      go_wp2_with fail
      go_roundw
      case rel=>exact ⟨k,r,by have:=HK.out;omega,rfl,by rw [HB2.out],Lib.hid (HNO.out hgood _ HF.out)⟩
      case measure=>have:=HDEC.out;simp [intOf];omega
    ·have hgood:¬ p * p≤X:=fun h=>by have:=hcmp2.2 h;omega
     have g2:(mh == xh)=false:=by simpa using h2
     clear hcmp2
     go_wp2_with fail
     go_roundw
     case rel=>exact ⟨k,r,by have:=HK.out;omega,rfl,by rw [HB2.out],Lib.hid (HNO.out hgood _ HF.out)⟩
     case measure=>have:=HDEC.out;simp [intOf];omega
end Go.Proofs.YtmkoegljnebdiaaGreat
namespace Go.Proofs.YtmkoegljnebdiaaGreat
open Go.RowKit Go.Shelf
set_option maxRecDepth 100000
set_option maxHeartbeats 16000000

def noDefer (o:Oper):Bool:=match o.op with | .defer _=>false | _=>true
theorem Oper.wpIn_of_wp {P:Program} {Q:Exit→Act→World→Prop} {K:Act→World→Prop} {o:Oper} {a:Act} {w:World} (l₀ n:Nat) (hd:noDefer o=true) (h:o.wp P a w K Q):o.wpIn (Fence.wide.inRound l₀) n P a w K Q:=by
 unfold Oper.wp at h
 unfold Oper.wpIn
 refine ⟨fun _ _=>trivial,?_⟩
 rw [show (Fence.wide.inRound l₀).round=some l₀ from rfl,Oper.semAt_some l₀ _ _ (fun c hc=>by unfold noDefer at hd;rw [hc] at hd;cases hd)]
 generalize (execOp a.eval o).run P w=r at *
 cases r with
 | ok x w' =>
  cases x <;> simp only [Oper.upon] at h <;> simp only [Oper.uponIn]
  case value u=>exact h
  case skip=>exact h
  case defer d=>exact h
  case enter f args=>exact ⟨fun hs=>by simp [Fence.wide,Fence.inRound] at hs,(CallsIn.inRound l₀ (callsIn_wide.2 h)).mono fun e w'' he=>by cases e <;> exact he⟩
  case row r args=>exact ⟨fun hs=>by simp [Fence.wide,Fence.inRound] at hs,fun c cs _=>let ⟨v,w',q,s⟩:=h c cs;⟨v,w',q,stepsIn_wide.2 s⟩⟩
  all_goals exact absurd h (by simp)
 | halt x w'=>cases x <;> simp only [Oper.upon] at h <;> simp only [Oper.uponIn] <;> exact h
section
variable {l₀ n:Nat} {P:Program} {ops:Array Oper} {rest:List Oper} {o:Oper} {a:Act} {w:World} {Q:Exit→Act→World→Prop}
theorem wpListIn_of_wp (hgd:o.guard=none) (hd:noDefer o=true) (h:∀ K:Act→World→Prop,(∀ a' w',wpListIn (Fence.wide.inRound l₀) n P ops Q rest a' w'→K a' w')→o.wp P a w K Q):wpListIn (Fence.wide.inRound l₀) n P ops Q (o :: rest) a w :=
 wpListIn_plain hgd fun K hK=>Oper.wpIn_of_wp l₀ n hd (h K hK)
/-- A load of several cells, within a round. -/
theorem wpLoadFI (hgd:o.guard=none) (ty:TypeId) (x:Operand) (ho:o.op=.load ty x)
  (g off:Nat) (hx:a.eval x=.pointer (some ⟨g,off,none⟩)) (t:TypeId) (cs:Array Value) (hk:Bk w g t cs) (S:Array Value) (hs:(cs.toList.drop off).take S.size=S.toList) (d:TypeDesc)
  (hu:P.underlying ty=some d) (hd:(match d with | .struct _ | .array _ _=>true | _=>false)=true) (hi:(P.info? ty).map (·.size)=some S.size)
  (h:wpListIn (Fence.wide.inRound l₀) n P ops Q rest (a.put o.dst (.agg S)) w):wpListIn (Fence.wide.inRound l₀) n P ops Q (o :: rest) a w :=
 wpListIn_of_wp hgd (by unfold noDefer;rw [ho]) fun _ hK=>wpo_loadF ty x ho g off hx t cs hk S hs d hu hd hi (hK _ _ h)
/-- A store of several cells, within a round. -/
theorem wpStoreAtI (hgd:o.guard=none) (hdst:o.dst=none) (ty:TypeId) (x y:Operand) (ho:o.op=.store ty x y)
  (g off:Nat) (hx:a.eval x=.pointer (some ⟨g,off,none⟩)) (S:Array Value) (hy:a.eval y=.agg S) (t:TypeId) (cs:Array Value) (hb:Bk w g t cs)
  (hl:off+S.size≤cs.size) (h1:∀ u ∈ S.toList,u.oneCell'=true) (hi:(P.info? ty).map (·.size)=some S.size)
  (h:∀ w',Bk w' g t (splA cs off S.toList)→Only g w w'→wpListIn (Fence.wide.inRound l₀) n P ops Q rest a w'):wpListIn (Fence.wide.inRound l₀) n P ops Q (o :: rest) a w :=
 wpListIn_of_wp hgd (by unfold noDefer;rw [ho]) fun _ hK=>wpo_storeS ty x y ho hdst g off hx S hy t cs hb hl h1 hi fun w' h2 h3=>by
  have:=hK _ _ (h w' h2 h3)
  simpa [hdst,Act.put] using this
theorem wpStoreFI (hgd:o.guard=none) (hdst:o.dst=none) (ty:TypeId) (x y:Operand) (ho:o.op=.store ty x y)
  (g off:Nat) (hx:a.eval x=.pointer (some ⟨g,off,none⟩)) (S:Array Value) (hy:a.eval y=.agg S) (t:TypeId) (cs R:Array Value) (hb:Bk w g t cs) (hR:cs.toList.take off ++ S.toList ++ cs.toList.drop (off+S.size)=R.toList)
  (hl:off+S.size≤cs.size) (h1:∀ u ∈ S.toList,u.oneCell'=true) (hi:(P.info? ty).map (·.size)=some S.size)
  (h:∀ w',Bk w' g t R→Only g w w'→wpListIn (Fence.wide.inRound l₀) n P ops Q rest a w'):wpListIn (Fence.wide.inRound l₀) n P ops Q (o :: rest) a w :=
 wpStoreAtI hgd hdst ty x y ho g off hx S hy t cs hb hl h1 hi fun w' hk ho=>h w' (hk.spl hl hR) ho
/-- A store of one cell, within a round. -/
theorem wpStoreCellI (hgd:o.guard=none) (hdst:o.dst=none) (ty:TypeId) (x y:Operand) (ho:o.op=.store ty x y)
  (g off:Nat) (hx:a.eval x=.pointer (some ⟨g,off,none⟩)) (u:Value) (hy:a.eval y=u) (t:TypeId) (cs:Array Value) (hb:Bk w g t cs)
  (hl:off<cs.size) (h1:u.oneCell'=true) (hi:(P.info? ty).map (·.size)=some 1)
  (h:∀ w',Bk w' g t (cs.setIfInBounds off u)→Only g w w'→wpListIn (Fence.wide.inRound l₀) n P ops Q rest a w'):wpListIn (Fence.wide.inRound l₀) n P ops Q (o :: rest) a w :=
 wpListIn_of_wp hgd (by unfold noDefer;rw [ho]) fun _ hK=>wpo_storeCell ty x y ho hdst g off hx u hy t cs hb hl h1 hi fun w' h2 h3=>by
  have:=hK _ _ (h w' h2 h3)
  simpa [hdst,Act.put] using this
end
/-- These blocks lie as they lay. -/
def KeepL (Ks:List Nat) (w w':World):Prop:=∀ b,b ∈ Ks→w'.heap[b]?=w.heap[b]?
theorem KeepL.refl (Ks:List Nat) (w:World):KeepL Ks w w:=fun _ _=>rfl
theorem KeepL.trans {Ks:List Nat} {a b c:World} (h:KeepL Ks a b) (k:KeepL Ks b c):KeepL Ks a c:=fun x hx=>(k x hx).trans (h x hx)
theorem KeepL.drewN {Ks:List Nat} {a b:World} (h:KeepL Ks a b) (m:Nat):KeepL Ks a (b.drewN m):=fun x hx=>h x hx
theorem KeepL.below {Ks:List Nat} {a b:World} {n₀:Nat} (h:Below n₀ a b) (hk:∀ x,x ∈ Ks→x<n₀):KeepL Ks a b:=fun x hx=>h.block x (hk x hx)
theorem KeepL.cell {Ks:List Nat} {a b:World} (h:KeepL Ks a b) {p:Addr} (hp:p.block ∈ Ks):b.cell? p=a.cell? p:=World.cell?_of_block (h _ hp)
theorem keepL_b {Ks:List Nat} {w:World} (h:∀ x,x ∈ Ks→x<w.heap.size) (W:World) (l:Nat) (o o':Obj) (hl:w.heap.size≤l) (_:W.heap[l]?=some o) (_:o.isCells=false) (_:o.isWalk=false):KeepL Ks W (W.putObj l o') :=
 fun x hx=>World.putObj_heap_other (by have:=h x hx;omega)
section
variable {W w w':World} {O N O1 N1:List Ent}
theorem Bk.turned {g:Nat} {t:TypeId} {cs:Array Value} {row:Option Nat} (h:Bk w g t cs) (hg:w.grownBy w' row) (hr:∀ r,row=some r→∃ o:Obj,w.heap[r]?=some o∧o.isCells=false):Bk w' g t cs :=
 (hg.block g h.lt fun e=>by
  obtain ⟨o,ho,hx⟩:=hr g e.symm
  rw [show w.heap[g]?=_ from h] at ho
  cases ho;cases hx).trans h
theorem Fr.turned {B:Nat} (h:Fr W O N w) {row:Option Nat} (hB:W.heap.size≤B) (hg:w.grownBy w' row) (hr:∀ r,row=some r→B≤r∧∃ o:Obj,w.heap[r]?=some o∧o.isCells=false):Fr W O N w' :=
 ⟨hg.os.trans h.os,hg.tape.trans h.tape,hg.output.trans h.output,Nat.le_trans h.size hg.size,fun c hc hx=>(hg.block c (Nat.lt_of_lt_of_le hc h.size) (fun e=>by have:=(hr c e.symm).1;omega)).trans (h.far c hc hx),
  fun x hx=>⟨(h.old x hx).1,(h.old x hx).2.turned hg fun r e=>(hr r e).2⟩,fun x hx=>⟨(h.new x hx).1,(h.new x hx).2.turned hg fun r e=>(hr r e).2⟩,h.ndO,h.ndN⟩
theorem Fr.putObj (h:Fr W O N w) {D:Nat} {o:Obj} (o':Obj) (hB:W.heap.size≤D) (hD:w.heap[D]?=some o) (ho:o.isCells=false):Fr W O N (w.putObj D o') :=
 h.turned hB (grownBy_putObj' w D o') fun r e=>by cases e;exact ⟨Nat.le_refl _,o,hD,ho⟩
theorem Fr.keepsOthers (h:Fr W O N w) (hO:∀ x ∈ O,∃ t cs,Bk W x.1 t cs):KeepsOthers W w :=
 ⟨h.size,fun k o hk ho=>by
  have hkl:k<W.heap.size:=(Array.getElem?_eq_some_iff.1 hk).1
  refine (h.far k hkl fun hm=>?_).trans hk
  obtain ⟨x,hx,rfl⟩:=List.mem_map.1 hm
  obtain ⟨t,cs,hb⟩:=hO x hx
  rw [show W.heap[x.1]?=_ from hb] at hk
  cases hk;cases ho⟩
theorem Fr.keepL {Ks:List Nat} (h:Fr W O N w) (hK:∀ b ∈ Ks,b<W.heap.size∧b ∉ O.map (·.1)):KeepL Ks W w:=fun b hb=>h.far b (hK b hb).1 (hK b hb).2
theorem Fr.startL (hb:∀ x ∈ O,Bk W x.1 x.2.1 x.2.2) (hn:(O.map (·.1)).Nodup):Fr W O [] W :=
 ⟨rfl,rfl,rfl,Nat.le_refl _,fun _ _ _=>rfl,fun x hx=>⟨(hb x hx).lt,hb x hx⟩,fun _ h=>(List.not_mem_nil h).elim,hn,List.nodup_nil⟩
end
/-- The table N with the entries of O1 in the places that are marked. -/
def updF:List Bool→List Ent→List Ent→List Ent
 | true :: bs,_ :: N,y :: O1=>y :: updF bs N O1
 | false :: bs,x :: N,O1=>x :: updF bs N O1
 | _,N,_=>N
def KeysOk:List Bool→List Ent→List Ent→Prop
 | true :: bs,x :: N,y :: O1=>x.1=y.1∧KeysOk bs N O1
 | false :: bs,_ :: N,O1=>KeysOk bs N O1
 | _,_,[]=>True
 | _,_,_=>False
theorem keys_sub:∀ (bs:List Bool) (N O1:List Ent),KeysOk bs N O1→∀ k ∈ O1.map (·.1),k ∈ N.map (·.1)
 | true :: bs,x :: N,y :: O1,h,k,hk=>by
  rw [List.map_cons,List.mem_cons] at hk ⊢
  rcases hk with rfl | hk
  ·exact .inl h.1.symm
  ·exact .inr (keys_sub bs N O1 h.2 k hk)
 | false :: bs,x :: N,O1,h,k,hk=>by
  rw [List.map_cons,List.mem_cons]
  cases O1 with
  | nil=>simp at hk
  | cons y O1=>exact .inr (keys_sub bs N (y :: O1) h k hk)
 | _,_,[],_,k,hk=>by simp at hk
 | [],N,y :: O1,h,_,_=>h.elim
 | true :: bs,[],y :: O1,h,_,_=>h.elim
 | false :: bs,[],y :: O1,h,_,_=>h.elim
theorem updF_keys:∀ (bs:List Bool) (N O1:List Ent),KeysOk bs N O1→(updF bs N O1).map (·.1)=N.map (·.1)
 | true :: bs,x :: N,y :: O1,h=>by
  show y.1 :: (updF bs N O1).map (·.1)=_
  rw [updF_keys bs N O1 h.2,← h.1];rfl
 | false :: bs,x :: N,[],h=>by
  show x.1 :: (updF bs N []).map (·.1)=_
  rw [updF_keys bs N [] h];rfl
 | false :: bs,x :: N,y :: O1,h=>by
  show x.1 :: (updF bs N (y :: O1)).map (·.1)=_
  rw [updF_keys bs N (y :: O1) h];rfl
 | true :: bs,x :: N,[],_=>rfl
 | true :: bs,[],O1,h=>by cases O1 <;> rfl
 | false :: bs,[],O1,h=>by cases O1 <;> rfl
 | [],N,O1,h=>by cases N <;> cases O1 <;> rfl
theorem updF_mem:∀ (bs:List Bool) (N O1:List Ent),KeysOk bs N O1→(N.map (·.1)).Nodup→∀ x ∈ updF bs N O1,x ∈ O1 ∨ (x ∈ N∧x.1 ∉ O1.map (·.1))
 | true :: bs,z :: N,y :: O1,h,hn,x,hx=>by
  rw [List.map_cons,List.nodup_cons] at hn
  rcases List.mem_cons.1 hx with rfl | hx
  ·exact .inl (List.mem_cons_self ..)
  ·rcases updF_mem bs N O1 h.2 hn.2 x hx with h1 | ⟨h1,h2⟩
   ·exact .inl (List.mem_cons_of_mem _ h1)
   ·refine .inr ⟨List.mem_cons_of_mem _ h1,fun hm=>?_⟩
    rw [List.map_cons,List.mem_cons] at hm
    rcases hm with hm | hm
    ·exact hn.1 (by rw [h.1,← hm];exact List.mem_map.2 ⟨x,h1,rfl⟩)
    ·exact h2 hm
 | false :: bs,z :: N,[],h,hn,x,hx=>by
  rw [List.map_cons,List.nodup_cons] at hn
  rcases List.mem_cons.1 hx with rfl | hx
  ·exact .inr ⟨List.mem_cons_self ..,by simp⟩
  ·rcases updF_mem bs N [] h hn.2 x hx with h1 | ⟨h1,h2⟩
   ·exact .inl h1
   ·exact .inr ⟨List.mem_cons_of_mem _ h1,h2⟩
 | false :: bs,z :: N,y :: O1,h,hn,x,hx=>by
  rw [List.map_cons,List.nodup_cons] at hn
  rcases List.mem_cons.1 hx with rfl | hx
  ·exact .inr ⟨List.mem_cons_self ..,fun hm=>hn.1 (keys_sub bs N (y :: O1) h _ hm)⟩
  ·rcases updF_mem bs N (y :: O1) h hn.2 x hx with h1 | ⟨h1,h2⟩
   ·exact .inl h1
   ·exact .inr ⟨List.mem_cons_of_mem _ h1,h2⟩
 | true :: bs,z :: N,[],_,_,x,hx=>.inr ⟨hx,by simp⟩
 | true :: bs,[],[],_,_,x,hx=>by cases hx
 | true :: bs,[],y :: O1,h,_,x,hx=>h.elim
 | false :: bs,[],[],_,_,x,hx=>by cases hx
 | false :: bs,[],y :: O1,h,_,x,hx=>h.elim
 | [],N,[],_,_,x,hx=>.inr ⟨by cases N <;> exact hx,by simp⟩
 | [],N,y :: O1,h,_,x,hx=>by cases N <;> exact h.elim
/-- Several of the new blocks have turned. -/
theorem Fr.turns {W w w':World} {O N O1 N1:List Ent} (h:Fr W O N w) (bs:List Bool) (k:Fr w O1 N1 w') (hk:KeysOk bs N O1):Fr W O (updF bs N O1) w':=by
 have hsub:=keys_sub bs N O1 hk
 have hge:∀ c ∈ O1.map (·.1),W.heap.size≤c:=fun c hc=>by
  obtain ⟨x,hx,rfl⟩:=List.mem_map.1 (hsub c hc)
  exact (h.new x hx).1
 refine ⟨k.os.trans h.os,k.tape.trans h.tape,k.output.trans h.output,Nat.le_trans h.size k.size,fun c hc hx=>?_,fun x hx=>⟨(h.old x hx).1,?_⟩,fun x hx=>?_,h.ndO,by rw [updF_keys bs N O1 hk];exact h.ndN⟩
 ·exact (k.far c (Nat.lt_of_lt_of_le hc h.size) (fun hm=>by have:=hge c hm;omega)).trans (h.far c hc hx)
 ·exact (k.far x.1 (h.old x hx).2.lt (fun hm=>by have:=hge x.1 hm;have:=(h.old x hx).1;omega)).trans (h.old x hx).2
 ·rcases updF_mem bs N O1 hk h.ndN x hx with h1 | ⟨h1,h2⟩
  ·exact ⟨hge x.1 (List.mem_map.2 ⟨x,h1,rfl⟩),(k.old x h1).2⟩
  ·exact ⟨(h.new x h1).1,(k.far x.1 (h.new x h1).2.lt h2).trans (h.new x h1).2⟩
theorem Fr.more {W w w':World} {O N N1:List Ent} (h:Fr W O N w) (k:Fr w [] N1 w'):Fr W O (N ++ N1) w':=by
 have h1:=h.below k.toBelow
 refine ⟨h1.os,h1.tape,h1.output,h1.size,h1.far,h1.old,fun x hx=>?_,h.ndO,?_⟩
 ·rcases List.mem_append.1 hx with hx | hx
  ·exact h1.new x hx
  ·exact ⟨Nat.le_trans h.size (k.new x hx).1,(k.new x hx).2⟩
 ·rw [List.map_append,List.nodup_append]
  refine ⟨h.ndN,k.ndN,fun a ha c hc=>?_⟩
  obtain ⟨x,hx,rfl⟩:=List.mem_map.1 ha
  obtain ⟨y,hy,rfl⟩:=List.mem_map.1 hc
  have h2:=(h.new x hx).2.lt
  have h3:=(k.new y hy).1
  omega
/-- In a round, too: a region whose order is drawn. -/
theorem anyW.inR {P:Program} {Q:Exit→Act→World→Prop} {ops:Array Oper} (l₀ n:Nat) (hd:∀ (i:Nat) (o:Oper),ops[i]?=some o→noDefer o=true):∀ {fuel:Nat} {li:Array Bool} {a:Act} {w:World},anyW P ops Q fuel li a w→wpAnyIn (Fence.wide.inRound l₀) n P .any ops Q fuel li a w
 | 0,_,_,_,h=>h
 | fuel+1,li,a,w,h=>⟨h.1,fun i hi=>by
  have h2:=h.2 i hi
  unfold opW at h2
  unfold wpOpIn
  cases ho:ops[i]? with
  | none=>rw [ho] at h2;exact anyW.inR l₀ n hd h2
  | some o =>
   rw [ho] at h2
   dsimp only at h2 ⊢
   split at h2
   ·rename_i hw;rw [if_pos hw];exact Oper.wpIn_of_wp l₀ n (hd i o ho) (Oper.wp_mono (fun a w h=>anyW.inR l₀ n hd h) h2)
   ·rename_i hw;rw [if_neg hw];exact ⟨fun _ _=>trivial,anyW.inR l₀ n hd h2⟩⟩
theorem wpIn_region_fr {P:Program} {l:List Oper} {Q:Exit→Act→World→Prop} {a0:Act} (l₀ n:Nat) (hd:l.all noDefer=true) {id:Nat} {w0:World} (ks:List Kind) (C:List Nat) (A:List AEnt) (W:World) (O N:Nat→List Ent) (R:Nat→Value→(Nat→Value)→Prop) (hm:P.follows .mixedOrders=true) (hB:regB l a0.tmps.size=true) (hch:chainOk l C=true) (AL:List Nat) (hAL:A.map (·.1)=AL) (hAn:AL.Nodup) (hAr:(AL.all fun i=>decide (i<l.length))=true)
  (hk:kindOk l C AL ks 0=true) (h0:Fr W (O 0) (N 0) w0) (hs:StepsF P l Q a0 W O N A C R ks l 0)
  (hend:∀ (vs:Nat→Value) (w:World),Fr W (O C.length) (N C.length ++ aAll A vs C.length) w→(∀ i o,l[i]?=some o→R i (vs i) (maskV o vs))→Q .normal (putAll l vs 0 a0) w) :
  (Code.region id l.toArray true).wpIn (Fence.wide.inRound l₀) n P Q a0 w0 :=
 wpIn_region_any hm ((any_fr ks C A W O N R hB hch AL hAL hAn hAr hk h0 hs hend).inR l₀ n fun i o ho=>by
  rw [List.all_eq_true] at hd
  exact hd o (List.mem_of_getElem? (by simpa using ho)))
end Go.Proofs.YtmkoegljnebdiaaGreat
namespace Go.Proofs.YtmkoegljnebdiaaGreat
open Go.RowKit Go.Shelf
set_option maxRecDepth 100000
set_option maxHeartbeats 16000000
attribute [local go_sem] Oper.semAt_some

theorem rootN_lt {n:Nat} (h:n≤9223372036854775807):rootN n<2 ^ 49:=by
 have h1:=(rootN_spec (n:=n) (by omega)).1
 have h2:rootN n * rootN n<2 ^ 49 * 2 ^ 49:=by omega
 exact sq_lt h2
theorem rootS_any (a:SpanD) (ha:WdS a) (w:World):Calls Tryz.prog 141 #[spanV a] w (SpPost (rootB a) w.heap.size w):=by
 have H1:=Lib.hid (fun w=>check_any a w)
 have HFIN:Hid (∀ w',Fr w [] [] w'→SpPost (rootB a) w.heap.size w (.returned (.tuple #[.agg #[.int .i64 (rootB a).1.lo,.int .i64 (rootB a).1.hi],.int .i64 (rootB a).2])) w'):=Lib.hid fun w' h=>⟨rfl,h.toBelow⟩
 cases hc:chkB a with
 | false =>
  have h1:errC a=2:=by unfold errC;rw [hc];rfl
  have hs:rootB a=(zeroS,2):=by unfold rootB;rw [hc];rfl
  rw [h1] at H1
  rw [hs] at HFIN ⊢
  obtain ⟨al,ah⟩:=a
  clear hc hs ha h1
  unfold spanV at H1 ⊢
  dsimp only [zeroS] at H1 HFIN ⊢
  obtain ⟨qb,hqb⟩:∃ qb,w.heap.size=qb:=⟨_,rfl⟩
  obtain ⟨W0,hW0⟩:∃ W0,(w.alloc (.cells #[.int .i64 al,.int .i64 ah] 31)).alloc (.cells #[.int .i64 0,.int .i64 0] 31)=W0:=⟨_,rfl⟩
  have HF0:Hid (Fr w [] [(qb,31,iC [al,ah]),(qb+1,31,iC [0,0])] W0):=Lib.hid (by rw [← hW0];exact ((Fr.start w).alloc (by simp [← hqb]) 31 #[.int .i64 al,.int .i64 ah]).alloc (by simp [← hqb]) 31 #[.int .i64 0,.int .i64 0])
  go_enter Tryz.func141,Tryz.ntmps141
  go_upto_region 1 with (fail)
  clear hW0 hqb
  go_wp2_with (refine wpLoadF rfl 31 _ rfl qb 0 rfl _ _ (HF0.out.get 0 rfl) #[.int .i64 al,.int .i64 ah] rfl _ und_span rfl info_span ?_)
  refine (H1.out _).mono ?_
  rintro e w1 ⟨rfl,hw⟩
  have HF2:=Lib.hid (HF0.out.below hw)
  clear hw
  go_wp2_with (refine wpStoreF rfl rfl 31 _ _ rfl (qb+1) 0 rfl #[.int .i64 0,.int .i64 0] rfl _ _ (iC [0,0]) (HF2.out.get 1 rfl) rfl (by show 0+2≤2;omega) (one_all rfl) info_span ?_;intro w3 hk ho;have HF4:=Lib.hid (HF2.out.only 1 rfl ho hk);clear ho hk)
  refine ret_agg2 rfl rfl rfl (HF4.out.get 1 rfl) rfl und_span rfl info_span ?_
  exact HFIN.out _ HF4.out.drop
 | true =>
  have h1:errC a=0:=by unfold errC;rw [hc];rfl
  rw [h1] at H1
  by_cases hneg:a.hi<0
  ·have hs:rootB a=(zeroS,4):=by unfold rootB;rw [hc,if_pos rfl,if_pos hneg]
   rw [hs] at HFIN ⊢
   obtain ⟨al,ah⟩:=a
   have g1:decide (ah<0)=true:=decide_eq_true hneg
   clear hc hs ha h1 hneg
   unfold spanV at H1 ⊢
   dsimp only [zeroS] at H1 HFIN ⊢
   obtain ⟨qb,hqb⟩:∃ qb,w.heap.size=qb:=⟨_,rfl⟩
   obtain ⟨W0,hW0⟩:∃ W0,(w.alloc (.cells #[.int .i64 al,.int .i64 ah] 31)).alloc (.cells #[.int .i64 0,.int .i64 0] 31)=W0:=⟨_,rfl⟩
   have HF0:Hid (Fr w [] [(qb,31,iC [al,ah]),(qb+1,31,iC [0,0])] W0):=Lib.hid (by rw [← hW0];exact ((Fr.start w).alloc (by simp [← hqb]) 31 #[.int .i64 al,.int .i64 ah]).alloc (by simp [← hqb]) 31 #[.int .i64 0,.int .i64 0])
   go_enter Tryz.func141,Tryz.ntmps141
   go_upto_region 1 with (fail)
   clear hW0 hqb
   go_wp2_with (refine wpLoadF rfl 31 _ rfl qb 0 rfl _ _ (HF0.out.get 0 rfl) #[.int .i64 al,.int .i64 ah] rfl _ und_span rfl info_span ?_)
   refine (H1.out _).mono ?_
   rintro e w1 ⟨rfl,hw⟩
   have HF2:=Lib.hid (HF0.out.below hw)
   clear hw
   have c3:w1.cell? ⟨qb,1,none⟩=some (.int .i64 ah):=(HF2.out.get 0 rfl).cell 1
   go_wp2_with (refine wpStoreF rfl rfl 31 _ _ rfl (qb+1) 0 rfl #[.int .i64 0,.int .i64 0] rfl _ _ (iC [0,0]) (HF2.out.get 1 rfl) rfl (by show 0+2≤2;omega) (one_all rfl) info_span ?_;intro w4 hk ho;clear c3;have HF5:=Lib.hid (HF2.out.only 1 rfl ho hk);clear ho hk)
   refine ret_agg2 rfl rfl rfl (HF5.out.get 1 rfl) rfl und_span rfl info_span ?_
   exact HFIN.out _ HF5.out.drop
  ·have hs:rootB a=(⟨rootN (max a.lo 0).toNat,if rootN a.hi.toNat * rootN a.hi.toNat=a.hi.toNat * 4294967296 then rootN a.hi.toNat else rootN a.hi.toNat+1⟩,0):=by unfold rootB;rw [hc,if_pos rfl,if_neg hneg]
   rw [hs] at HFIN ⊢
   obtain ⟨al,ah⟩:=a
   have g1:decide (ah<0)=false:=decide_eq_false hneg
   obtain ⟨⟨a1,a2⟩,a3,a4⟩:=ha
   dsimp only at hneg a1 a2 a3 a4
   have HR1:=fun w=>root_any (max al 0).toNat (by omega) w
   have HR2:=fun w=>root_any ah.toNat (by omega) w
   have l1:=rootN_lt (n:=(max al 0).toNat) (by omega)
   have l2:=rootN_lt (n:=ah.toNat) (by omega)
   rw [show (((max al 0).toNat:Nat):Int)=max al 0 by omega] at HR1
   rw [show ((ah.toNat:Nat):Int)=ah by omega] at HR2
   replace HR1:=Lib.hid HR1
   replace HR2:=Lib.hid HR2
   obtain ⟨r1,hr1⟩:∃ r,rootN (max al 0).toNat=r:=⟨_,rfl⟩
   obtain ⟨r2,hr2⟩:∃ r,rootN ah.toNat=r:=⟨_,rfl⟩
   obtain ⟨b1,hb1⟩:∃ b,decide (r1 * r1=(max al 0).toNat * 4294967296)=b:=⟨_,rfl⟩
   dsimp only at HFIN ⊢
   rw [hr1] at HR1 HFIN l1 ⊢
   rw [hr2] at HR2 HFIN l2 ⊢
   rw [hb1] at HR1
   have m1:IntKind.i64.wrap (r1:Int)=(r1:Int):=IntWalk.i64_in _ (by omega)
   have m1':wrap64 (r1:Int)=(r1:Int):=w64_in (by omega) (by omega)
   unfold spanV at H1 ⊢
   dsimp only at H1 ⊢
   by_cases hex:r2 * r2=ah.toNat * 4294967296
   ·rw [decide_eq_true hex] at HR2
    rw [if_pos hex] at HFIN ⊢
    have m2:IntKind.i64.wrap (r2:Int)=(r2:Int):=IntWalk.i64_in _ (by omega)
    have m2':wrap64 (r2:Int)=(r2:Int):=w64_in (by omega) (by omega)
    clear hc hs h1 hneg a1 a2 a3 a4 hr1 hr2 hb1 hex l1 l2
    obtain ⟨qb,hqb⟩:∃ qb,w.heap.size=qb:=⟨_,rfl⟩
    obtain ⟨W0,hW0⟩:∃ W0,(w.alloc (.cells #[.int .i64 al,.int .i64 ah] 31)).alloc (.cells #[.int .i64 0,.int .i64 0] 31)=W0:=⟨_,rfl⟩
    have HF0:Hid (Fr w [] [(qb,31,iC [al,ah]),(qb+1,31,iC [0,0])] W0):=Lib.hid (by rw [← hW0];exact ((Fr.start w).alloc (by simp [← hqb]) 31 #[.int .i64 al,.int .i64 ah]).alloc (by simp [← hqb]) 31 #[.int .i64 0,.int .i64 0])
    go_enter Tryz.func141,Tryz.ntmps141
    go_upto_region 1 with (fail)
    clear hW0 hqb
    go_wp2_with (refine wpLoadF rfl 31 _ rfl qb 0 rfl _ _ (HF0.out.get 0 rfl) #[.int .i64 al,.int .i64 ah] rfl _ und_span rfl info_span ?_)
    refine (H1.out _).mono ?_
    rintro e w1 ⟨rfl,hw⟩
    have HF2:=Lib.hid (HF0.out.below hw)
    clear hw
    have c3:w1.cell? ⟨qb,1,none⟩=some (.int .i64 ah):=(HF2.out.get 0 rfl).cell 1
    have c4:w1.cell? ⟨qb,0,none⟩=some (.int .i64 al):=(HF2.out.get 0 rfl).cell 0
    go_wp2_with fail
    clear c3 c4
    refine (HR1.out _).mono ?_
    rintro e w5 ⟨rfl,hw⟩
    have HF6:=Lib.hid (HF2.out.below hw)
    clear hw
    have c7:w5.cell? ⟨qb,1,none⟩=some (.int .i64 ah):=(HF6.out.get 0 rfl).cell 1
    go_wp2_with fail
    clear c7
    refine (HR2.out _).mono ?_
    rintro e w8 ⟨rfl,hw⟩
    have HF9:=Lib.hid (HF6.out.below hw)
    clear hw
    go_wp2_with (refine wpStoreF rfl rfl 31 _ _ rfl (qb+1) 0 rfl #[.int .i64 (r1:Int),.int .i64 (r2:Int)] rfl _ _ (iC [(r1:Int),(r2:Int)]) (HF9.out.get 1 rfl) rfl (by show 0+2≤2;omega) (one_all rfl) info_span ?_;intro w10 hk ho;have HF11:=Lib.hid (HF9.out.only 1 rfl ho hk);clear ho hk)
    refine ret_agg2 rfl rfl rfl (HF11.out.get 1 rfl) rfl und_span rfl info_span ?_
    exact HFIN.out _ HF11.out.drop
   ·rw [decide_eq_false hex] at HR2
    rw [if_neg hex] at HFIN ⊢
    obtain ⟨q,hq⟩:∃ q:Int,(r2:Int)+1=q:=⟨_,rfl⟩
    rw [hq] at HFIN ⊢
    have m2:IntKind.i64.wrap q=q:=IntWalk.i64_in _ (by omega)
    have m2':wrap64 q=q:=w64_in (by omega) (by omega)
    have m3:IntKind.u64.wrap ((r2:Int)+1)=q:=by rw [IntKind.wrap_u64];omega
    clear hq hc hs h1 hneg a1 a2 a3 a4 hr1 hr2 hb1 hex l1 l2
    obtain ⟨qb,hqb⟩:∃ qb,w.heap.size=qb:=⟨_,rfl⟩
    obtain ⟨W0,hW0⟩:∃ W0,(w.alloc (.cells #[.int .i64 al,.int .i64 ah] 31)).alloc (.cells #[.int .i64 0,.int .i64 0] 31)=W0:=⟨_,rfl⟩
    have HF0:Hid (Fr w [] [(qb,31,iC [al,ah]),(qb+1,31,iC [0,0])] W0):=Lib.hid (by rw [← hW0];exact ((Fr.start w).alloc (by simp [← hqb]) 31 #[.int .i64 al,.int .i64 ah]).alloc (by simp [← hqb]) 31 #[.int .i64 0,.int .i64 0])
    go_enter Tryz.func141,Tryz.ntmps141
    go_upto_region 1 with (fail)
    clear hW0 hqb
    go_wp2_with (refine wpLoadF rfl 31 _ rfl qb 0 rfl _ _ (HF0.out.get 0 rfl) #[.int .i64 al,.int .i64 ah] rfl _ und_span rfl info_span ?_)
    refine (H1.out _).mono ?_
    rintro e w1 ⟨rfl,hw⟩
    have HF2:=Lib.hid (HF0.out.below hw)
    clear hw
    have c3:w1.cell? ⟨qb,1,none⟩=some (.int .i64 ah):=(HF2.out.get 0 rfl).cell 1
    have c4:w1.cell? ⟨qb,0,none⟩=some (.int .i64 al):=(HF2.out.get 0 rfl).cell 0
    go_wp2_with fail
    clear c3 c4
    refine (HR1.out _).mono ?_
    rintro e w5 ⟨rfl,hw⟩
    have HF6:=Lib.hid (HF2.out.below hw)
    clear hw
    have c7:w5.cell? ⟨qb,1,none⟩=some (.int .i64 ah):=(HF6.out.get 0 rfl).cell 1
    go_wp2_with fail
    clear c7
    refine (HR2.out _).mono ?_
    rintro e w8 ⟨rfl,hw⟩
    have HF9:=Lib.hid (HF6.out.below hw)
    clear hw
    go_wp2_with (refine wpStoreF rfl rfl 31 _ _ rfl (qb+1) 0 rfl #[.int .i64 (r1:Int),.int .i64 q] rfl _ _ (iC [(r1:Int),q]) (HF9.out.get 1 rfl) rfl (by show 0+2≤2;omega) (one_all rfl) info_span ?_;intro w10 hk ho;have HF11:=Lib.hid (HF9.out.only 1 rfl ho hk);clear ho hk)
    refine ret_agg2 rfl rfl rfl (HF11.out.get 1 rfl) rfl und_span rfl info_span ?_
    exact HFIN.out _ HF11.out.drop
/-- few, of one list. -/
theorem few1_any (w:World) (gl:Nat) (t:TypeId) (A:Option Addr) (n c:Nat) (v:Nat→SpanD) (hk:Bk w gl t #[.slice A n c]) (h:SpansAt w w.heap.size A n v) (hn:n≤64) :
  Calls Tryz.prog 160 #[.slice (some ⟨gl,0,none⟩) 1 1] w fun e w'=>e=.returned (.int .i64 (if (allN n fun i=>chkB (v i))=true then 0 else 2))∧Below w.heap.size w w':=by
 have HK:=Lib.hid hk
 have HS:=Lib.hid h
 have HCK:=Lib.hid (checked_any w A n c v h (by omega))
 obtain ⟨R,hR⟩:∃ R:Int,(if (allN n fun i=>chkB (v i))=true then (0:Int) else 2)=R:=⟨_,rfl⟩
 rw [hR] at HCK ⊢
 have HR:=Lib.hid hR
 obtain ⟨PQ,hPQ⟩:∃ Q:Ending→World→Prop,(fun e w'=>e=.returned (.int .i64 R)∧Below w.heap.size w w')=Q:=⟨_,rfl⟩
 have HFIN:Hid (∀ r w',r=R→Below w.heap.size w w'→PQ (.returned (.int .i64 r)) w'):=Lib.hid fun r w' hr hw=>by rw [← hPQ];exact ⟨by rw [hr],hw⟩
 rw [hPQ]
 have hn64:¬ (64:Int)<(n:Int):=by omega
 clear hk h hR hPQ hn
 go_enter Tryz.func160,Tryz.ntmps160
 go_wp2_with fail
 go_loopw [10] (fun iv wr=>∃ k:Nat,k≤1∧iv=.int .i64 k∧Hid (wr=w)) (fun iv _=>1 - (intOf iv).toNat)
 case atStart=>exact ⟨0,Nat.zero_le _,rfl,Lib.hid (by simp)⟩
 case round =>
  obtain ⟨k,hk,rfl,hs⟩:=hrel
  obtain rfl:=hs.out
  match k,hk with
  | 0,_ =>
   have c0:wr.cell? ⟨gl,0,none⟩=some (.slice A n c):=HK.out.cell 0
   go_wp2_with fail
   go_roundw
   case rel=>exact ⟨1,by omega,rfl,Lib.hid (by simp)⟩
   case measure=>simp [intOf]
  | 1,_ =>
   obtain ⟨wo,rfl⟩:∃ u:World,u=wr:=⟨_,rfl⟩
   go_wp2_with fail
   go_loopw [20] (fun iv w1=>∃ k:Nat,k≤1∧iv=.int .i64 k∧Hid (Below wo.heap.size wo w1∧(k=0→w1=wo)∧(k=1→R=0))) (fun iv _=>1 - (intOf iv).toNat)
   case atStart=>exact ⟨0,Nat.zero_le _,rfl,Lib.hid ⟨Below.refl _ _,fun _=>rfl,fun h=>absurd h (by decide)⟩⟩
   case round =>
    obtain ⟨k,hk,rfl,hs⟩:=hrel
    match k,hk with
    | 0,_ =>
     obtain rfl:=hs.out.2.1 rfl
     have c0:wr.cell? ⟨gl,0,none⟩=some (.slice A n c):=HK.out.cell 0
     clear hs
     go_wp2_with fail
     refine HCK.out.mono ?_
     rintro e w2 ⟨rfl,hw2⟩
     have HW2:=Lib.hid hw2
     clear hw2 c0
     have hRR:R=0 ∨ R=2:=by have:=HR.out;split at this <;> omega
     rcases hRR with rfl | rfl
     ·go_wp2_with fail
      go_roundw
      case rel=>exact ⟨1,by omega,rfl,Lib.hid ⟨HW2.out,by simp,by simp⟩⟩
      case measure=>simp [intOf]
     ·go_wp2_with fail
      exact HFIN.out _ _ rfl HW2.out
    | 1,_ =>
     go_wp2_with fail
     exact HFIN.out _ _ (hs.out.2.2 (by simp)).symm hs.out.1
end Go.Proofs.YtmkoegljnebdiaaGreat
namespace Go.Proofs.YtmkoegljnebdiaaGreat
open Go.RowKit Go.Shelf
set_option maxRecDepth 100000
set_option maxHeartbeats 16000000
attribute [local go_sem] Oper.semAt_some

def Fin.vals {n:Nat} (l:List (Fin n)):List Nat:=l.map Fin.val
theorem all_any (A:Option Addr) (n c:Nat) (w:World) :
  Calls Tryz.prog 162 #[.slice A n c] w fun e w'=>e=.returned (.func (.func 187) #[] #[.pointer (some ⟨w.heap.size,0,none⟩)])∧w'=w.alloc (.cells #[.slice A n c] 185):=by
 go_enter Tryz.func162,Tryz.ntmps162
 go_wp2_with fail
 go_ret
 exact ⟨by simp,rfl⟩
/-- A load of several cells, outside rounds, in a fence. -/
theorem wpLoadFW {n:Nat} {P:Program} {ops:Array Oper} {rest:List Oper} {o:Oper} {a:Act} {w:World} {Q:Exit→Act→World→Prop} (hgd:o.guard=none) (ty:TypeId) (x:Operand) (ho:o.op=.load ty x)
  (g off:Nat) (hx:a.eval x=.pointer (some ⟨g,off,none⟩)) (S:Array Value) (d:TypeDesc) (hc:∀ j u,S[j]?=some u→w.cell? ⟨g,off+j,none⟩=some u)
  (hu:P.underlying ty=some d) (hd:(match d with | .struct _ | .array _ _=>true | _=>false)=true) (hi:(P.info? ty).map (·.size)=some S.size)
  (h:wpListIn Fence.wide n P ops Q rest (a.put o.dst (.agg S)) w):wpListIn Fence.wide n P ops Q (o :: rest) a w :=
 wpListIn_plain hgd fun K hK=>by
  have h1:o.wp P a w K Q:=wpo_loadS ty x ho g off hx S d hc hu hd hi (hK _ _ h)
  unfold Oper.wp at h1
  unfold Oper.wpIn
  refine ⟨fun _ _=>trivial,?_⟩
  rw [show Fence.wide.round=none from rfl,Oper.semAt_none]
  generalize (execOp a.eval o).run P w=r at *
  cases r with
  | ok x w' =>
   cases x <;> simp only [Oper.upon] at h1 <;> simp only [Oper.uponIn]
   case value u=>exact h1
   case skip=>exact h1
   case defer d=>exact h1
   case enter f args=>exact ⟨fun hs=>by simp [Fence.wide] at hs,(callsIn_wide.2 h1).mono fun e w'' he=>by cases e <;> exact he⟩
   case row r args=>exact ⟨fun hs=>by simp [Fence.wide] at hs,fun c cs _=>let ⟨v,w',q,s⟩:=h1 c cs;⟨v,w',q,stepsIn_wide.2 s⟩⟩
   all_goals exact absurd h1 (by simp)
  | halt x w'=>cases x <;> simp only [Oper.upon] at h1 <;> simp only [Oper.uponIn] <;> exact h1

theorem all1_in (l Bs g off n c:Nat) (v:Nat→SpanD) (hn:n≤4096) (J Jx:List (Fin n)→World→Prop)
  (hY:∀ pre x W,J pre W→pre.length<n→YieldAt Fence.wide 4 Tryz.prog l #[.int .i64 (x.val:Int),spanV (v x.val)] W fun e W' =>
   (e=.returned (.bool true)∧J (pre ++ [x]) W'∧KeepL [Bs,g] W W') ∨ (e=.returned (.bool false)∧Jx (pre ++ [x]) W'))
  (W:World) (hbs:W.cell? ⟨Bs,0,none⟩=some (.slice (some ⟨g,off,none⟩) n c)) (hc:∀ i,i<n→W.cell? ⟨g,off+i * 2,none⟩=some (.int .i64 (v i).lo)∧W.cell? ⟨g,off+i * 2+1,none⟩=some (.int .i64 (v i).hi)) (h0:J [] W) :
  CallsIn Fence.wide 5 Tryz.prog 187 #[.func (.yield l) #[] #[],.pointer (some ⟨Bs,0,none⟩)] W fun e W'=>(∃ v,e=.returned v) ∧
   ((∃ ys,Fin.vals ys=List.range n∧J ys W') ∨ (∃ pre,Fin.vals pre <+: List.range n∧pre ≠ []∧Jx pre W')):=by
 refine callsIn_of_wp Tryz.func187 rfl trivial ?_ rfl
 simp only [Tryz.ntmps187,List.size_toArray,List.length_cons,List.length_nil,Nat.reduceAdd,Nat.reduceSub,Array.replicate_succ,Array.replicate_zero,List.push_toArray,List.append_toArray,List.nil_append,List.cons_append]
 have HC:=Lib.hid hc
 clear hc
 gi_wp2
 gi_loopw [6] (fun p wr=>∃ (k:Nat) (ys:List (Fin n)),k≤n∧p=.int .i64 (k:Int)∧Hid (Fin.vals ys=List.range k∧J ys wr∧KeepL [Bs,g] W wr))
  (fun p _=>n - (intOf p).toNat)
 case atStart=>exact ⟨0,[],Nat.zero_le _,rfl,Lib.hid ⟨rfl,h0,KeepL.refl _ _⟩⟩
 case round =>
  obtain ⟨k,ys,hk,rfl,hs'⟩:=hrel
  have fs:wr.cell? ⟨Bs,0,none⟩=some (.slice (some ⟨g,off,none⟩) n c):=(hs'.out.2.2.cell (p:=⟨Bs,0,none⟩) (by simp)).trans hbs
  by_cases hlt:k<n
  ·have hki:(k:Int)<(n:Int):=by omega
   have h0k:(0:Int)≤(k:Int):=by omega
   have HCK:Hid (∀ j u,(#[Value.int .i64 (v k).lo,.int .i64 (v k).hi])[j]?=some u→wr.cell? ⟨g,off+k * 2+j,none⟩=some u):=Lib.hid fun j u hj=>by
    match j,hj with
    | 0,hj=>simp at hj;subst hj;exact (hs'.out.2.2.cell (p:=⟨g,off+k * 2,none⟩) (by simp)).trans (HC.out k hlt).1
    | 1,hj=>simp at hj;subst hj;exact (hs'.out.2.2.cell (p:=⟨g,off+k * 2+1,none⟩) (by simp)).trans (HC.out k hlt).2
    | j+2,hj=>simp at hj
   obtain ⟨fn,tmps,assign,body,hy,hR⟩:=hY ys ⟨k,hlt⟩ wr hs'.out.2.1 (by
    have h3:=congrArg List.length hs'.out.1
    rw [List.length_range] at h3
    unfold Fin.vals at h3
    rw [List.length_map] at h3
    omega)
   dsimp only at hy hR
   have HTK:Hid (Fin.vals (ys ++ [⟨k,hlt⟩])=List.range (k+1)):=Lib.hid (by
    rw [List.range_succ,← hs'.out.1];simp [Fin.vals])
   have hR':=hR.mono (R':=fun e W'=>∃ b,e=.returned (.bool b)∧Hid ((b=true∧J (ys ++ [⟨k,hlt⟩]) W'∧KeepL [Bs,g] wr W') ∨ (b=false∧Jx (ys ++ [⟨k,hlt⟩]) W'))) (by
    rintro e W' (⟨rfl,h1,h2⟩ | ⟨rfl,h1⟩)
    ·exact ⟨true,rfl,Lib.hid (.inl ⟨rfl,h1,h2⟩)⟩
    ·exact ⟨false,rfl,Lib.hid (.inr ⟨rfl,h1⟩)⟩)
   have HBW:Hid (∀ W',KeepL [Bs,g] wr W'→KeepL [Bs,g] W W'):=Lib.hid fun W' hb=>hs'.out.2.2.trans hb
   have HLT:=Lib.hid hlt
   clear hR hY hs'
   obtain ⟨x,hx⟩:∃ x,v k=x:=⟨_,rfl⟩
   rw [hx] at HCK hy
   obtain ⟨xl,hxl⟩:∃ z,x.lo=z:=⟨_,rfl⟩
   obtain ⟨xh,hxh⟩:∃ z,x.hi=z:=⟨_,rfl⟩
   unfold spanV at hy
   rw [hxl,hxh] at HCK hy
   clear hx hxl hxh
   gi_wp2_with (refine wpLoadFW rfl 31 _ rfl g (off+k * 2) rfl #[.int .i64 xl,.int .i64 xh] _ HCK.out und_span rfl info_span ?_)
   gi_wp2
   refine hR'.mono ?_
   clear hR'
   rintro e W3 ⟨b,rfl,hb3⟩
   cases b with
   | true =>
    have hb4:J (ys ++ [⟨k,hlt⟩]) W3∧KeepL [Bs,g] wr W3:=by
     rcases hb3.out with ⟨_,h3,h4⟩ | ⟨h3,_⟩
     ·exact ⟨h3,h4⟩
     ·cases h3
    have HB4:=Lib.hid hb4
    clear hb4
    gi_wp2
    go_roundw
    case rel=>exact ⟨k+1,_,by have:=HLT.out;omega,by go_num,Lib.hid ⟨HTK.out,HB4.out.1,HBW.out _ HB4.out.2⟩⟩
    case measure=>simp [intOf];omega
   | false =>
    gi_wp2
    refine bodyPost_ret (results_none rfl _ _ _) rfl ⟨⟨_,rfl⟩,.inr ⟨ys ++ [⟨k,hlt⟩],?_,?_,?_⟩⟩
    ·rw [HTK.out]
     have:List.range (k+1)=(List.range n).take (k+1):=by rw [List.take_range];congr 1;have:=HLT.out;omega
     rw [this];exact List.take_prefix _ _
    ·simp
    ·rcases hb3.out with ⟨h3,_⟩ | ⟨_,h3⟩
     ·cases h3
     ·exact h3
  ·obtain rfl:k=n:=by omega
   have hneg:¬ (k:Int)<(k:Int):=by omega
   gi_wp2
   go_end0
   exact ⟨⟨_,rfl⟩,.inl ⟨ys,hs'.out.1,hs'.out.2.1⟩⟩
theorem all_stops (Bs g off n c:Nat) (v:Nat→SpanD) (hn:n≤4096) (w:World) (hs4:Bs<w.heap.size) (hg:g<w.heap.size) (hbs:w.cell? ⟨Bs,0,none⟩=some (.slice (some ⟨g,off,none⟩) n c)) (hc:∀ i,i<n→w.cell? ⟨g,off+i * 2,none⟩=some (.int .i64 (v i).lo)∧w.cell? ⟨g,off+i * 2+1,none⟩=some (.int .i64 (v i).hi)) :
  SeqStopsK Fence.wide 5 Tryz.prog 187 #[.pointer (some ⟨Bs,0,none⟩)] (fun x:Fin n=>#[Value.int .i64 (x.val:Int),spanV (v x.val)]) (KeepL [Bs,g])
   (fun ys=>Fin.vals ys=List.range n) (fun pre=>Fin.vals pre <+: List.range n∧pre ≠ []) n w:=fun l J Jx W hW _ _ hY h0=>by
 have hk:KeepL [Bs,g] w W:=KeepL.below hW (by simp;exact ⟨hs4,hg⟩)
 refine (all1_in l Bs g off n c v hn J Jx hY W ((hk.cell (p:=⟨Bs,0,none⟩) (by simp)).trans hbs) (fun i hi=>⟨(hk.cell (p:=⟨g,off+i * 2,none⟩) (by simp)).trans (hc i hi).1,(hk.cell (p:=⟨g,off+i * 2+1,none⟩) (by simp)).trans (hc i hi).2⟩) h0).mono ?_
 rintro e W' ⟨he,⟨ys,h1,h2⟩ | ⟨pre,h1,h2,h3⟩⟩
 ·exact ⟨he,.inl ⟨ys,h1,h2⟩⟩
 ·exact ⟨he,.inr ⟨pre,⟨h1,h2⟩,h3⟩⟩
end Go.Proofs.YtmkoegljnebdiaaGreat
