/- What is proved: the texts Lib Fz Row Reg Reg2 Reg3 Q Q2 Sa Sb A B C D Sh E F Kn Dv, one behind the other; each says at its head what it proves, and under which conditions. -/
import Derived.WalkKit
import Derived.WalkSpells
import Derived.WalkLawsBesides
import Derived.Lib.Hide
import Derived.Orders
import Derived.BigQuiet
import Derived.Lib.SliceRun
import Derived.Deep.Cut
import Derived.StillTailTactics
import Derived.IntWalk
import Derived.Laws.AppendOwn
import Derived.Test.YtmkoegljnebdiaaGreatProg
import Derived.Shelf.Spec.BitsCarry
import Derived.Shelf.Small.Bits
import Derived.Shelf.Bits.Mul64
import Derived.RegionTactic
import Derived.ChangeAlike
import Derived.BigRegion
import Derived.Lib.BitFns
import Derived.Lib.ItoaNum
import Derived.Laws.Bits64b
namespace Go.Proofs.YtmkoegljnebdiaaGreat
set_option maxRecDepth 100000
set_option maxHeartbeats 16000000
theorem hdE {α : Type} {a b c : α} (h : a = b ∧ b = c) : a = c := h.1.trans h.2
open Go.RowKit

/-- The slice (its address 'A', its length 'n') lies below block 'B'; row i holds the k cells 'f i 0', .. -/
def Sl (w:World) (B k:Nat) (A:Option Addr) (n:Nat) (f:Nat→Nat→Value):Prop :=
 n≤9223372036854775807∧(0<n→∃ b off,A=some ⟨b,off,none⟩∧b<B∧∀ i,i<n→∀ j,j<k→w.cell? ⟨b,off+i * k+j,none⟩=some (f i j))

theorem Sl.below {w w':World} {B k n:Nat} {A:Option Addr} {f:Nat→Nat→Value} (h:Sl w B k A n f) (hb:Below B w w'):Sl w' B k A n f :=
 ⟨h.1,fun hn=>by
  obtain ⟨b,off,e,hB,hc⟩:=h.2 hn
  exact ⟨b,off,e,hB,fun i hi j hj=>(hb.cell (p:=⟨b,off+i * k+j,none⟩) hB).trans (hc i hi j hj)⟩⟩

theorem Sl.mono {w:World} {B B' k n:Nat} {A:Option Addr} {f:Nat→Nat→Value} (h:Sl w B k A n f) (hb:B≤B'):Sl w B' k A n f :=
 ⟨h.1,fun hn=>by
  obtain ⟨b,off,e,hB,hc⟩:=h.2 hn
  exact ⟨b,off,e,by omega,hc⟩⟩

theorem Sl.nil (w:World) (B k:Nat) (A:Option Addr) (f:Nat→Nat→Value):Sl w B k A 0 f:=⟨by omega,fun h=>absurd h (by omega)⟩

/-- Do all of the first n satisfy q? -/
def allN (n:Nat) (q:Nat→Bool):Bool:=(List.range n).all q
theorem below_drewN {B:Nat} {a w:World} (h:Below B a w) (n:Nat):Below B a (w.drewN n):=⟨h.os,h.tape,h.output,h.size,h.block⟩
theorem ret_bool {a b:Bool} (h:a=b):Ending.returned (.bool a)=.returned (.bool b):=by rw [h]
theorem ret_int {k:IntKind} {a b:Int} (h:a=b):Ending.returned (.int k a)=.returned (.int k b):=by rw [h]

theorem Sl.at2 {w:World} {B n i:Nat} {A:Option Addr} {f:Nat→Nat→Value} (h:Sl w B 2 A n f) (hi:i<n) :
  ∃ b off,A=some ⟨b,off,none⟩∧b<B∧w.cell? ⟨b,off+i * 2,none⟩=some (f i 0)∧w.cell? ⟨b,off+i * 2+1,none⟩=some (f i 1):=by
 obtain ⟨b,off,rfl,hB,hc⟩:=h.2 (by omega)
 exact ⟨b,off,rfl,hB,by have:=hc i hi 0 (by omega);simpa using this,by have:=hc i hi 1 (by omega);simpa using this⟩
theorem Sl.at3 {w:World} {B n i:Nat} {A:Option Addr} {f:Nat→Nat→Value} (h:Sl w B 3 A n f) (hi:i<n) :
  ∃ b off,A=some ⟨b,off,none⟩∧b<B∧w.cell? ⟨b,off+i * 3,none⟩=some (f i 0)∧w.cell? ⟨b,off+i * 3+1,none⟩=some (f i 1)∧w.cell? ⟨b,off+i * 3+2,none⟩=some (f i 2):=by
 obtain ⟨b,off,rfl,hB,hc⟩:=h.2 (by omega)
 exact ⟨b,off,rfl,hB,by have:=hc i hi 0 (by omega);simpa using this,by have:=hc i hi 1 (by omega);simpa using this,by have:=hc i hi 2 (by omega);simpa using this⟩
end Go.Proofs.YtmkoegljnebdiaaGreat
namespace Go.Proofs.YtmkoegljnebdiaaGreat
open Go.RowKit
set_option maxRecDepth 100000
set_option maxHeartbeats 16000000

instance cV:Coe Int Value:=⟨.int .i64⟩
instance cN:Coe Nat Value:=⟨fun n=>.int .i64 n⟩
theorem eX {α:Sort _} (a:α):∃ x,a=x:=⟨_,rfl⟩
theorem hZ {p:Prop} (h:p):Hid p:=Lib.hid h

def Bk (w:World) (g:Nat) (t:TypeId) (cs:Array Value):Prop:=w.heap[g]?=some (.cells cs t (0,0))

section
variable {w w':World} {g:Nat} {t:TypeId} {cs:Array Value}
theorem Bk.lt (h:Bk w g t cs):g<w.heap.size:=by
 rcases Nat.lt_or_ge g w.heap.size with h1 | h1
 ·exact h1
 ·unfold Bk at h;rw [Array.getElem?_eq_none h1] at h;cases h
theorem Bk.cell (h:Bk w g t cs) (i:Nat):w.cell? ⟨g,i,none⟩=cs[i]?:=cell_of_row w g i cs t (0,0) h
theorem Bk.free (h:Bk w g t cs) (i:Nat):w.frozen? ⟨g,i,none⟩=false:=by unfold Bk at h;simp [World.frozen?,h]
theorem Bk.new (w:World) (t:TypeId) (cs:Array Value):Bk (w.alloc (.cells cs t)) w.heap.size t cs:=heap_alloc_new w _
theorem Bk.newAt (w:World) (t:TypeId) (cs:Array Value) (n:Nat) (hn:n=w.heap.size):Bk (w.alloc (.cells cs t)) n t cs:=by subst hn;exact Bk.new w t cs
theorem Bk.alloc (h:Bk w g t cs) (o:Obj):Bk (w.alloc o) g t cs:=(Below.heap_alloc w o g h.lt).trans h
theorem Bk.set (h:Bk w g t cs) (i:Nat) (u:Value):Bk (w.setCell ⟨g,i,none⟩ u) g t (cs.setIfInBounds i u):=by
 unfold Bk at h ⊢;simp [World.setCell,Array.getElem?_modify,h]
theorem Bk.far (h:Bk w g t cs) {p:Addr} (hp:g ≠ p.block) (u:Value):Bk (w.setCell p u) g t cs:=(Below.heap_setCell w p u g hp).trans h
theorem Bk.below {B:Nat} (h:Bk w g t cs) (hb:Below B w w') (hg:g<B):Bk w' g t cs:=(hb.block g hg).trans h
theorem Bk.drewN (h:Bk w g t cs) (n:Nat):Bk (w.drewN n) g t cs:=h
end

def splA (cs:Array Value) (o:Nat):List Value→Array Value
 | []=>cs
 | u :: S=>splA (cs.setIfInBounds o u) (o+1) S
theorem splA_get (S:List Value):∀ (cs:Array Value) (o i:Nat),o+S.length≤cs.size→(splA cs o S)[i]?=if o≤i∧i<o+S.length then S[i - o]? else cs[i]?:=by
 induction S with
 | nil=>intro cs o i _;simp [splA];intro h1 h2;omega
 | cons u S ih =>
  intro cs o i h;simp only [List.length_cons] at h;rw [splA,ih _ _ _ (by simp;omega)]
  simp only [List.length_cons,Array.getElem?_setIfInBounds];by_cases h1:o+1≤i∧i<o+1+S.length
  ·rw [if_pos h1,if_pos (by omega),show i - o=(i - (o+1))+1 from by omega,List.getElem?_cons_succ]
  ·rw [if_neg h1];by_cases h2:i=o
   ·subst h2;rw [if_pos rfl,if_pos (by omega),if_pos (by omega)];simp
   ·rw [if_neg (by omega),if_neg (by omega)]

structure Only (g:Nat) (w w':World):Prop where
 os:w'.os=w.os
 tape:w'.tape=w.tape
 output:w'.output=w.output
 size:w'.heap.size=w.heap.size
 block:∀ k,k ≠ g→w'.heap[k]?=w.heap[k]?
theorem Only.refl (g:Nat) (w:World):Only g w w:=⟨rfl,rfl,rfl,rfl,fun _ _=>rfl⟩
theorem Only.trans {g:Nat} {a b c:World} (h:Only g a b) (k:Only g b c):Only g a c :=
 ⟨k.os.trans h.os,k.tape.trans h.tape,k.output.trans h.output,k.size.trans h.size,fun i hi=>(k.block i hi).trans (h.block i hi)⟩
theorem Only.setCell (w:World) (g i:Nat) (u:Value):Only g w (w.setCell ⟨g,i,none⟩ u):=⟨rfl,rfl,rfl,by simp,fun k hk=>Below.heap_setCell w _ u k hk⟩
theorem Only.below {g B:Nat} {w w':World} (h:Only g w w') (hB:B≤g):Below B w w':=⟨h.os,h.tape,h.output,by rw [h.size];exact Nat.le_refl _,fun k hk=>h.block k (by omega)⟩
theorem Bk.only {w w':World} {g g':Nat} {t:TypeId} {cs:Array Value} (h:Bk w g t cs) (ho:Only g' w w') (hne:g ≠ g'):Bk w' g t cs:=(ho.block g hne).trans h

section
variable {P:Program}
theorem run_storeCells_row (t:TypeId) (g:Nat):∀ (S:List Value) (w:World) (cs:Array Value) (o i:Nat),Bk w g t cs→o+i+S.length≤cs.size→(∀ u ∈ S,u.oneCell'=true) →
  ∃ w',(storeCells ⟨g,o,none⟩ S i).run P w=.ok () w'∧Bk w' g t (splA cs (o+i) S)∧Only g w w'
 | [],w,cs,o,i,h,_,_=>⟨w,by simp [storeCells],h,Only.refl g w⟩
 | u :: S,w,cs,o,i,h,hl,h1=>by
  simp only [List.length_cons] at hl;have hc:(w.cell? ⟨g,o+i,none⟩).isSome=true:=by rw [h.cell];simp;omega
  have hst:(store ⟨g,o+i,none⟩ u).run P w=.ok () (w.setCell ⟨g,o+i,none⟩ u):=by
   have hu:=h1 u (List.mem_cons_self ..);obtain ⟨x,hx⟩:=Option.isSome_iff_exists.1 hc;have hf:=h.free (o+i);unfold store;cases u <;> simp_all [Sem.run,Value.oneCell']
  obtain ⟨w',r1,r2,r3⟩:=run_storeCells_row t g S (w.setCell ⟨g,o+i,none⟩ u) (cs.setIfInBounds (o+i) u) o (i+1) (h.set _ _) (by simp;omega) (fun x hx=>h1 x (List.mem_cons_of_mem _ hx))
  refine ⟨w',?_,?_,(Only.setCell w g (o+i) u).trans r3⟩
  ·simp only [storeCells,Sem.run_bind,Addr.add_lit,hst,Result.andThen_ok];exact r1
  ·rw [splA];exact r2

theorem run_loadVar_at (w:World) (g o:Nat) (ty:TypeId) (S:Array Value) (d:TypeDesc) (hc:∀ j u,S[j]?=some u→w.cell? ⟨g,o+j,none⟩=some u)
  (hu:P.underlying ty=some d) (hd:(match d with | .struct _ | .array _ _=>true | _=>false)=true) (hi:(P.info? ty).map (·.size)=some S.size) :
  (loadVar ty ⟨g,o,none⟩).run P w=.ok (.agg S) w:=by
 have hl:(loadCells ⟨g,o,none⟩ S.toList.length).run P w=.ok S.toList.toArray w :=
  run_loadCells_list (P:=P) w ⟨g,o,none⟩ S.toList (fun j v hv=>by
   rw [Addr.add_lit];exact hc j v (by simpa using hv))
 cases hq:P.info? ty with
 | none=>simp [hq] at hi
 | some i =>
  have hs:i.size=S.size:=by simpa [hq] using hi
  have hagg:(isAgg ty).run P w=.ok true w:=by
   unfold isAgg;rw [Sem.run_bind,run_underlying hu w];cases d <;> simp_all
  simp only [Array.length_toList,Array.toArray_toList] at hl;simp [loadVar,Sem.run_bind,hagg,sizeOf,typeInfo,hq,hs,hl]

theorem run_storeVar_at (w:World) (g o:Nat) (t ty:TypeId) (cs S:Array Value) (h:Bk w g t cs) (hl:o+S.size≤cs.size) (h1:∀ u ∈ S.toList,u.oneCell'=true) (hi:(P.info? ty).map (·.size)=some S.size) :
  ∃ w',(storeVar ty ⟨g,o,none⟩ (.agg S)).run P w=.ok () w'∧Bk w' g t (splA cs o S.toList)∧Only g w w':=by
 obtain ⟨w',r1,r2,r3⟩:=run_storeCells_row (P:=P) t g S.toList w cs o 0 h (by simpa using hl) h1
 refine ⟨w',?_,by simpa using r2,r3⟩
 cases hq:P.info? ty with
 | none=>simp [hq] at hi
 | some i =>
  have hs:i.size=S.size:=by simpa [hq] using hi
  simp [storeVar,Sem.run_bind,Value.cells,sizeOf,typeInfo,hq,hs,r1]

theorem wpLoadAt {ops:Array Oper} {rest:List Oper} {o:Oper} {a:Act} {w:World} {Q:Exit→Act→World→Prop} (hgd:o.guard=none) (ty:TypeId) (x:Operand) (ho:o.op=.load ty x)
  (g off:Nat) (hx:a.eval x=.pointer (some ⟨g,off,none⟩)) (S:Array Value) (d:TypeDesc) (hc:∀ j u,S[j]?=some u→w.cell? ⟨g,off+j,none⟩=some u)
  (hu:P.underlying ty=some d) (hd:(match d with | .struct _ | .array _ _=>true | _=>false)=true) (hi:(P.info? ty).map (·.size)=some S.size)
  (h:wpList P ops Q rest (a.put o.dst (.agg S)) w):wpList P ops Q (o :: rest) a w :=
 wpList_plain hgd fun _ hK=>by
  unfold Oper.wp execOp;simp only [ho,hx,Instr.loadAt,Instr.sureAddr,Sem.run_bind,Sem.run_pure,Result.andThen_ok,run_loadVar_at w g off ty S d hc hu hd hi];exact hK _ _ h

theorem wpStoreAt {ops:Array Oper} {rest:List Oper} {o:Oper} {a:Act} {w:World} {Q:Exit→Act→World→Prop} (hgd:o.guard=none) (hdst:o.dst=none) (ty:TypeId) (x y:Operand) (ho:o.op=.store ty x y)
  (g off:Nat) (hx:a.eval x=.pointer (some ⟨g,off,none⟩)) (S:Array Value) (hy:a.eval y=.agg S) (t:TypeId) (cs:Array Value) (hb:Bk w g t cs)
  (hl:off+S.size≤cs.size) (h1:∀ u ∈ S.toList,u.oneCell'=true) (hi:(P.info? ty).map (·.size)=some S.size)
  (h:∀ w',Bk w' g t (splA cs off S.toList)→Only g w w'→wpList P ops Q rest a w'):wpList P ops Q (o :: rest) a w :=
 wpList_plain hgd fun _ hK=>by
  obtain ⟨w',r1,r2,r3⟩:=run_storeVar_at (P:=P) w g off t ty cs S hb hl h1 hi;unfold Oper.wp execOp;simp only [ho,hx,hy,Instr.storeAt,Instr.sureAddr,Sem.run_bind,Sem.run_pure,Result.andThen_ok,r1];have:=hK _ _ (h w' r2 r3)
  simpa [Oper.upon,hdst,Act.put] using this

theorem results_cellS {fn:Func} {p:Tmp} {ty:TypeId} (h:fn.results=#[.cell p ty]) (tmps:Array Value) (w:World) (g:Nat) (t:TypeId) (cs:Array Value) (d:TypeDesc)
  (hp:tmps.getD p undef=.pointer (some ⟨g,0,none⟩)) (hg:Bk w g t cs)
  (hu:P.underlying ty=some d) (hd:(match d with | .struct _ | .array _ _=>true | _=>false)=true) (hi:(P.info? ty).map (·.size)=some cs.size) :
  (results fn tmps).run P w=.ok (.agg cs) w:=results_cell_row h tmps w g t cs (0,0) d hp hg hu hd hi
theorem results_cellS_tmp {fn:Func} {p u:Tmp} {ty:TypeId} (h:fn.results=#[.cell p ty,.tmp u]) (tmps:Array Value) (w:World) (g:Nat) (t:TypeId) (cs:Array Value) (d:TypeDesc)
  (hp:tmps.getD p undef=.pointer (some ⟨g,0,none⟩)) (hg:Bk w g t cs)
  (hu:P.underlying ty=some d) (hd:(match d with | .struct _ | .array _ _=>true | _=>false)=true) (hi:(P.info? ty).map (·.size)=some cs.size) :
  (results fn tmps).run P w=.ok (.tuple #[.agg cs,tmps.getD u undef]) w:=by
 have hl:=run_loadVar_at (P:=P) w g 0 ty cs d (fun j v hj=>by rw [Nat.zero_add,hg.cell];exact hj) hu hd hi
 have hp':tmps[p]?.getD undef=.pointer (some ⟨g,0,none⟩):=by simpa using hp
 simp [results,h,hp',asAddr,hl]
end

def afterB (o:Oper) (j:Nat):Bool:=o.after.toList.any fun e=>Region.binds .any e && e.on == j
def afterI (l:List Oper) (i j:Nat):Bool:=match l[i]? with | some o=>afterB o j | none=>false
def ancB (l:List Oper):Nat→Nat→Nat→Bool
 | 0,_,_=>false
 | n+1,i,j=>(List.range l.length).any fun k=>afterI l i k && (k == j || ancB l n k j)
def maskV (o:Oper) (vs:Nat→Value):Nat→Value:=fun j=>if afterB o j then vs j else undef
def vsOf (l:List Oper) (a:Act):Nat→Value:=fun j=>match l[j]? with | some o=>(match o.dst with | some d=>a.tmps.getD d undef | none=>undef) | none=>undef
def putAll:List Oper→(Nat→Value)→Nat→Act→Act
 | [],_,_,a=>a
 | o :: l,vs,i,a=>putAll l vs (i+1) (a.put o.dst (vs i))
def regB (l:List Oper) (n:Nat):Bool :=
 (List.range l.length).all fun i=>match l[i]? with
  | none=>true
  | some o=>(o.after.toList.all fun e=>!Region.binds .any e || decide (e.on<i)) && (match o.dst with
   | none=>true
   | some d=>decide (d<n) && (List.range i).all fun j=>match l[j]? with | some o'=>o'.dst != some d | none=>true)
def keepB (l:List Oper) (i t:Nat):Bool :=
 (List.range l.length).all fun j=>match l[j]? with | some o=>o.dst != some t || j == i || afterB o i | none=>true

section
variable {l:List Oper} {n:Nat}
theorem regB_after (h:regB l n=true) {i:Nat} {o:Oper} (hi:l[i]?=some o) {e:Edge} (he:e ∈ o.after) (hb:Region.binds .any e=true):e.on<i:=by
 unfold regB at h;rw [List.all_eq_true] at h;have hlt:=(List.getElem?_eq_some_iff.1 hi).1;have h1:=h i (by simpa using hlt)
 simp only [hi,Bool.and_eq_true,List.all_eq_true,decide_eq_true_eq,Bool.or_eq_true,Bool.not_eq_true'] at h1;exact (h1.1 e (Array.mem_toList_iff.2 he)).resolve_left (by rw [hb];simp)
theorem regB_dst (h:regB l n=true) {i:Nat} {o:Oper} (hi:l[i]?=some o) {d:Nat} (hd:o.dst=some d):d<n∧∀ j o',j<i→l[j]?=some o'→o'.dst ≠ some d:=by
 unfold regB at h;rw [List.all_eq_true] at h;have hlt:=(List.getElem?_eq_some_iff.1 hi).1;have h1:=h i (by simpa using hlt)
 simp only [hi,hd,Bool.and_eq_true,decide_eq_true_eq,List.all_eq_true,List.mem_range] at h1;refine ⟨h1.2.1,fun j o' hj ho'=>?_⟩
 have:=h1.2.2 j hj
 simp only [ho'] at this;simpa using this
theorem regB_ne (h:regB l n=true) {i j:Nat} {o o':Oper} (hi:l[i]?=some o) (hj:l[j]?=some o') {d:Nat} (hd:o.dst=some d) (hd':o'.dst=some d):i=j:=by
 rcases Nat.lt_trichotomy i j with h1 | h1 | h1
 ·exact absurd hd ((regB_dst h hj hd').2 i o h1 hi)
 ·exact h1
 ·exact absurd hd' ((regB_dst h hi hd).2 j o' h1 hj)

theorem afterB_lt (h:regB l n=true) {i j:Nat} {o:Oper} (hi:l[i]?=some o) (ha:afterB o j=true):j<i:=by
 unfold afterB at ha;rw [List.any_eq_true] at ha;obtain ⟨e,he,hh⟩:=ha;simp only [Bool.and_eq_true,beq_iff_eq] at hh;have:=regB_after h hi (Array.mem_toList_iff.1 he) hh.1
 omega

theorem put_getD (a:Act) (d t:Nat) (v:Value):(a.put (some d) v).tmps.getD t undef=if t=d∧d<a.tmps.size then v else a.tmps.getD t undef:=by
 simp only [Act.put,Array.getD_eq_getD_getElem?,Array.getElem?_setIfInBounds];by_cases h1:d=t
 ·subst h1;by_cases h2:d<a.tmps.size
  ·simp [h2]
  ·simp [h2]
 ·simp [h1,Ne.symm h1]
theorem put_size (a:Act) (d:Option Nat) (v:Value):(a.put d v).tmps.size=a.tmps.size:=by cases d <;> simp [Act.put]
theorem put_defers (a:Act) (d:Option Nat) (v:Value):(a.put d v).defers=a.defers:=by cases d <;> rfl

theorem vsOf_put (h:regB l n=true) {a:Act} {i:Nat} {o:Oper} (hi:l[i]?=some o) (v:Value) {k:Nat} (hk:k ≠ i):vsOf l (a.put o.dst v) k=vsOf l a k:=by
 unfold vsOf;cases hlk:l[k]? with
 | none=>rfl
 | some o' =>
  cases hd':o'.dst with
  | none=>simp only [hd']
  | some d' =>
   cases hd:o.dst with
   | none=>rfl
   | some d =>
    simp only [hd'];rw [put_getD,if_neg];rintro ⟨rfl,_⟩;exact hk (regB_ne h hlk hi hd' hd)
theorem vsOf_put_same {a:Act} {i:Nat} {o:Oper} (hi:l[i]?=some o) (v:Value) (hv:o.dst=none→v=undef) (hd:∀ d,o.dst=some d→d<a.tmps.size):vsOf l (a.put o.dst v) i=v:=by
 unfold vsOf;simp only [hi];cases hd':o.dst with
 | none=>exact (hv hd').symm
 | some d =>
  simp only
  rw [put_getD,if_pos ⟨rfl,hd d hd'⟩]

theorem putAll_size (l:List Oper):∀ (vs:Nat→Value) (i:Nat) (a:Act),(putAll l vs i a).tmps.size=a.tmps.size∧(putAll l vs i a).defers=a.defers:=by
 induction l with
 | nil=>intro vs i a;exact ⟨rfl,rfl⟩
 | cons o l ih=>intro vs i a;rw [putAll];obtain ⟨h1,h2⟩:=ih vs (i+1) (a.put o.dst (vs i));exact ⟨h1.trans (put_size ..),h2.trans (put_defers ..)⟩
theorem putAll_other (l:List Oper) (t:Nat):∀ (vs:Nat→Value) (i:Nat) (a:Act),(∀ (j:Nat) (o:Oper),l[j]?=some o→o.dst ≠ some t)→(putAll l vs i a).tmps.getD t undef=a.tmps.getD t undef:=by
 induction l with
 | nil=>intro vs i a _;rfl
 | cons o l ih =>
  intro vs i a h;rw [putAll,ih vs (i+1) _ (fun j o' hj=>h (j+1) o' (by simpa using hj))]
  cases hd:o.dst with
  | none=>rfl
  | some d=>rw [put_getD,if_neg];rintro ⟨rfl,_⟩;exact h 0 o rfl hd
theorem putAll_at (l:List Oper) (t:Nat):∀ (vs:Nat→Value) (i:Nat) (a:Act) (j:Nat) (o:Oper),l[j]?=some o→o.dst=some t→t<a.tmps.size→(∀ (j':Nat) (o':Oper),j<j'→l[j']?=some o'→o'.dst ≠ some t) →
  (putAll l vs i a).tmps.getD t undef=vs (i+j):=by
 induction l with
 | nil=>intro vs i a j o h;simp at h
 | cons x l ih =>
  intro vs i a j o hj hd ht hl;rw [putAll];cases j with
  | zero =>
   simp at hj;subst hj
   rw [putAll_other l t vs (i+1) _ (fun j' o' hj'=>hl (j'+1) o' (by omega) (by simpa using hj')),hd,put_getD,if_pos ⟨rfl,ht⟩];rfl
  | succ j =>
   rw [ih vs (i+1) _ j o (by simpa using hj) hd (by rw [put_size];exact ht) (fun j' o' h1 h2=>hl (j'+1) o' (by omega) (by simpa using h2))]
   congr 1;omega

def updB (d:Nat→Bool) (i:Nat):Nat→Bool:=fun k=>if k=i then true else d k
def updV (vs:Nat→Value) (i:Nat) (v:Value):Nat→Value:=fun k=>if k=i then v else vs k
theorem anc_listed {listed:Nat→Bool} (hcl:∀ i o,l[i]?=some o→listed i=true→∀ j,afterB o j=true→listed j=true) :
  ∀ (m i j:Nat),listed i=true→ancB l m i j=true→listed j=true
 | 0,_,_,_,h=>by simp [ancB] at h
 | m+1,i,j,hi,h=>by
  unfold ancB at h;rw [List.any_eq_true] at h;obtain ⟨k,_,hk⟩:=h;simp only [Bool.and_eq_true,Bool.or_eq_true,beq_iff_eq] at hk;obtain ⟨h1,h2⟩:=hk;have hlk:listed k=true:=by
   unfold afterI at h1;cases hl:l[i]? with
   | none=>simp [hl] at h1
   | some o=>simp only [hl] at h1;exact hcl i o hl hi k h1
  rcases h2 with rfl | h2
  ·exact hlk
  ·exact anc_listed hcl m k j hlk h2
end

section
variable {P:Program} {l:List Oper} {Q:Exit→Act→World→Prop} {a0:Act}

def opW (P:Program) (ops:Array Oper) (Q:Exit→Act→World→Prop) (i:Nat) (K:Act→World→Prop) (a:Act) (w:World):Prop :=
 match ops[i]? with
 | none=>K a w
 | some o=>if Region.wanted o (yielded ops a.tmps) then o.wp P a w K Q else K (a.put o.dst undef) w
def anyW (P:Program) (ops:Array Oper) (Q:Exit→Act→World→Prop):Nat→Array Bool→Act→World→Prop
 | 0,li,a,w=>Region.ready .any ops li=[]∧Q .normal a w
 | fuel+1,li,a,w=>(Region.ready .any ops li=[]→Q .normal a w)∧∀ i ∈ Region.ready .any ops li,opW P ops Q i (anyW P ops Q fuel (li.setIfInBounds i true)) a w
theorem anyW.any {ops:Array Oper}:∀ {fuel:Nat} {li:Array Bool} {a:Act} {w:World},anyW P ops Q fuel li a w→wpAny P .any ops Q fuel li a w
 | 0,_,_,_,h=>h
 | fuel+1,li,a,w,h=>⟨h.1,fun i hi=>by
  have h2:=h.2 i hi;unfold opW at h2;unfold wpOp;cases ho:ops[i]? with
  | none=>rw [ho] at h2;exact anyW.any h2
  | some o =>
   rw [ho] at h2;dsimp only at h2 ⊢;split at h2
   ·rename_i hw;rw [if_pos hw];exact .inl (Oper.wp_mono (fun a w h=>anyW.any h) h2)
   ·rename_i hw;rw [if_neg hw];exact anyW.any h2⟩
theorem any_extJ {w0:World} (hB:regB l a0.tmps.size=true)
  (J:(Nat→Bool)→(Nat→Value)→World→Prop) (E:Nat→World→World→Prop) (R:Nat→Value→(Nat→Value)→World→Prop) (hJ:∀ vs,J (fun _=>false) vs w0.drew)
  (hR:∀ i j,i ≠ j→ancB l l.length i j=false→∀ v d w w',R i v d w→E j w w'→R i v d w')
  (hstep:∀ i o,l[i]?=some o→∀ (a:Act) (w:World) (vs:Nat→Value) (dn:Nat→Bool),a.defers=a0.defers→a.tmps.size=a0.tmps.size→(∀ m,dn m=true→i ≠ m∧ancB l l.length m i=false)→(∀ j,afterB o j=true→dn j=true)→J dn vs w→(∀ t,keepB l i t=true→a.tmps.getD t undef=a0.tmps.getD t undef) →
   (∀ j oj d,afterB o j=true→l[j]?=some oj→oj.dst=some d→a.tmps.getD d undef=vs j)→(∀ j oj,afterB o j=true→l[j]?=some oj→R j (vs j) (maskV oj vs) w) →
   if Region.wanted o (yielded l.toArray a.tmps) then o.wp P a w (fun a' w'=>∃ v,(o.dst=none→v=undef)∧a'=a.put o.dst v∧J (updB dn i) (updV vs i v) w'∧E i w w'∧R i v (maskV o vs) w') Q else J (updB dn i) (updV vs i undef) w∧E i w w∧R i undef (maskV o vs) w)
  (hend:∀ (vs:Nat→Value) (dn:Nat→Bool) (w:World),(∀ i,i<l.length→dn i=true)→J dn vs w→(∀ i o,l[i]?=some o→R i (vs i) (maskV o vs) w)→Q .normal (putAll l vs 0 a0) w) :
  anyW P l.toArray Q l.toArray.size (Array.replicate l.toArray.size false) a0 w0.drew:=by
 have key:∀ (fuel:Nat) (listed:Array Bool) (a:Act) (w:World),listed.size=l.length→(listed.toList.filter (!·)).length≤fuel→a.defers=a0.defers→a.tmps.size=a0.tmps.size→J (fun k=>listed.getD k false) (vsOf l a) w →
   (∀ t,(∀ (i:Nat) (o:Oper),l[i]?=some o→listed.getD i false=true→o.dst ≠ some t)→a.tmps.getD t undef=a0.tmps.getD t undef) →
   (∀ i o,l[i]?=some o→listed.getD i false=true→R i (vsOf l a i) (maskV o (vsOf l a)) w) →
   (∀ i o,l[i]?=some o→listed.getD i false=true→∀ j,afterB o j=true→listed.getD j false=true) →
   anyW P l.toArray Q fuel listed a w:=by
  -- nothing is ready: all have come up
  have fin:∀ (listed:Array Bool) (a:Act) (w:World),listed.size=l.length→Region.ready .any l.toArray listed=[]→a.defers=a0.defers→a.tmps.size=a0.tmps.size→J (fun k=>listed.getD k false) (vsOf l a) w →
    (∀ t,(∀ (i:Nat) (o:Oper),l[i]?=some o→listed.getD i false=true→o.dst ≠ some t)→a.tmps.getD t undef=a0.tmps.getD t undef) →
    (∀ (i:Nat) (o:Oper),l[i]?=some o→listed.getD i false=true→R i (vsOf l a i) (maskV o (vsOf l a)) w)→Q .normal a w:=by
   intro listed a w hs hr hd hz hj hk hRR;have hall:∀ m i,i<m→i<l.length→listed.getD i false=true:=by
    intro m;induction m with
    | zero=>intro i h;omega
    | succ m ih =>
     intro i him hil;cases hli:listed.getD i false with
     | true=>rfl
     | false =>
      exfalso
      have hmem:i ∈ Region.ready .any l.toArray listed:=by
       rw [mem_ready];refine ⟨?_,l[i],by simp [hil],fun e he hb=>?_⟩
       ·have:i<listed.size:=by omega
        simp [this] at hli ⊢;exact hli
       ·have:=regB_after hB (i:=i) (o:=l[i]) (by simp [hil]) he hb
        exact ih e.on (by omega) (by omega)
      rw [hr] at hmem;cases hmem
   have hall':∀ i o,l[i]?=some o→listed.getD i false=true:=fun i o hi=>hall (i+1) i (by omega) (List.getElem?_eq_some_iff.1 hi).1
   have ha:a=putAll l (vsOf l a) 0 a0:=by
    obtain ⟨p1,p2⟩:=putAll_size l (vsOf l a) 0 a0;have ht:a.tmps=(putAll l (vsOf l a) 0 a0).tmps:=by
     apply Array.ext (by rw [p1,hz])
     intro t h1 h2;have e1:a.tmps[t]=a.tmps.getD t undef:=by simp [h1]
     have e2:(putAll l (vsOf l a) 0 a0).tmps[t]=(putAll l (vsOf l a) 0 a0).tmps.getD t undef:=by simp [h2]
     rw [e1,e2];by_cases hex:∃ (i:Nat) (o:Oper),l[i]?=some o∧o.dst=some t
     ·obtain ⟨i,o,hi,hdt⟩:=hex;rw [putAll_at l t (vsOf l a) 0 a0 i o hi hdt (by omega) (fun j' o' hlt hj' hdj=>by have:=regB_ne hB hi hj' hdt hdj;omega),Nat.zero_add]
      simp only [vsOf,hi,hdt]
     ·rw [putAll_other l t _ _ _ (fun j o hj hd=>hex ⟨j,o,hj,hd⟩)];exact hk t (fun i o hi _ hd=>hex ⟨i,o,hi,hd⟩)
    cases a with
    | mk tm df =>
     simp only at ht hd
     generalize putAll l (vsOf l ⟨tm,df⟩) 0 a0=b at ht p2
     cases b
     simp only at ht p2
     subst ht;rw [hd,← p2]
   rw [ha];exact hend _ _ _ (fun i hi=>hall (i+1) i (by omega) hi) hj (fun i o hi=>hRR i o hi (hall' i o hi))
  intro fuel;induction fuel with
  | zero =>
   intro listed a w hs hf hd hz hj hk hRR hcl;have hr:Region.ready .any l.toArray listed=[]:=by
    cases hr:Region.ready .any l.toArray listed with
    | nil=>rfl
    | cons i _ =>
     exfalso
     have hi:i ∈ Region.ready .any l.toArray listed:=by rw [hr];exact List.mem_cons_self ..
     obtain ⟨h0,o,ho,_⟩:=mem_ready.1 hi;have hlt:i<listed.size:=by
      rcases Nat.lt_or_ge i listed.size with h | h
      ·exact h
      ·simp [Array.getElem?_eq_none h] at h0
     have:false ∈ listed.toList:=by
      simp [hlt] at h0
      rw [← h0];simp
     have h1:false ∈ listed.toList.filter (!·):=by simp [this]
     have:=List.length_pos_of_mem h1
     omega
   exact ⟨hr,fin listed a w hs hr hd hz hj hk hRR⟩
  | succ fuel ih =>
   intro listed a w hs hf hd hz hj hk hRR hcl;refine ⟨fun hr=>fin listed a w hs hr hd hz hj hk hRR,fun i hi=>?_⟩
   obtain ⟨h0,o,ho,hpre⟩:=mem_ready.1 hi;have hlt:i<listed.size:=by
    rcases Nat.lt_or_ge i listed.size with h | h
    ·exact h
    ·simp [Array.getElem?_eq_none h] at h0
   have hio:l[i]?=some o:=by simpa using ho
   have hi0:listed.getD i false=false:=by simp [hlt] at h0 ⊢;exact h0
   have hpre':∀ j,afterB o j=true→listed.getD j false=true:=by
    intro j hja;unfold afterB at hja;rw [List.any_eq_true] at hja;obtain ⟨e,he,hh⟩:=hja;simp only [Bool.and_eq_true,beq_iff_eq] at hh;rw [← hh.2];exact hpre e (Array.mem_toList_iff.1 he) hh.1
   have hnew:∀ k,(listed.setIfInBounds i true).getD k false=true ↔ (k=i ∨ listed.getD k false=true):=by
    intro k;by_cases hki:k=i
    ·subst hki;simp [hlt]
    ·rw [getD_set_ne false (Ne.symm hki)];simp [hki]
   have hcnt:((listed.setIfInBounds i true).toList.filter (!·)).length≤fuel:=by
    have:∀ (L:List Bool) (i:Nat),L[i]?=some false→(L.filter (!·)).length=((L.set i true).filter (!·)).length+1:=by
     intro L;induction L with
     | nil=>intro i h;simp at h
     | cons b L ihL =>
      intro i h;cases i with
      | zero=>simp at h;subst h;simp
      | succ i =>
       simp at h
       have:=ihL i h
       cases b <;> simp_all
    have h1:=this listed.toList i (by simp [hlt] at hi0;simp [hlt,hi0])
    rw [Array.toList_setIfInBounds];omega
   have cont:∀ (v:Value) (w':World),(o.dst=none→v=undef)→J (updB (fun k=>listed.getD k false) i) (updV (vsOf l a) i v) w'→E i w w'→R i v (maskV o (vsOf l a)) w' →
     anyW P l.toArray Q fuel (listed.setIfInBounds i true) (a.put o.dst v) w':=by
    intro v w' hv hj' he hr;have hvk:∀ k,k ≠ i→vsOf l (a.put o.dst v) k=vsOf l a k:=fun k hk=>vsOf_put hB hio v hk;have hvi:vsOf l (a.put o.dst v) i=v:=vsOf_put_same hio v hv (fun d hdd=>by rw [hz];exact (regB_dst hB hio hdd).1)
    refine ih _ _ _ (by simpa using hs) hcnt ((put_defers ..).trans hd) ((put_size ..).trans hz) (by
     have e1:(fun k=>(listed.setIfInBounds i true).getD k false)=updB (fun k=>listed.getD k false) i:=by
      funext k
      unfold updB;by_cases hki:k=i
      ·rw [if_pos hki];exact (hnew k).2 (.inl hki)
      ·rw [if_neg hki,getD_set_ne false (Ne.symm hki)]
     have e2:vsOf l (a.put o.dst v)=updV (vsOf l a) i v:=by
      funext k
      unfold updV;by_cases hki:k=i
      ·rw [if_pos hki,hki];exact hvi
      ·rw [if_neg hki];exact hvk k hki
     rw [e1,e2];exact hj') ?_ ?_ ?_
    ·intro t ht;have h1:o.dst ≠ some t:=ht i o hio ((hnew i).2 (.inl rfl));rw [← hk t (fun k ok hkk hlk=>ht k ok hkk ((hnew k).2 (.inr hlk)))];cases hd':o.dst with
     | none=>rfl
     | some d=>rw [put_getD,if_neg];rintro ⟨rfl,_⟩;exact h1 hd'
    ·intro k ok hkk hlk;by_cases hki:k=i
     ·subst hki;rw [hio] at hkk;obtain rfl:=Option.some.inj hkk;have hmask:maskV o (vsOf l (a.put o.dst v))=maskV o (vsOf l a):=by
       funext j
       unfold maskV;by_cases hja:afterB o j=true
       ·rw [if_pos hja,if_pos hja,hvk j (by have:=afterB_lt hB hio hja;omega)]
       ·rw [if_neg hja,if_neg hja]
      rw [hvi,hmask];exact hr
     ·have hlk':listed.getD k false=true:=((hnew k).1 hlk).resolve_left hki;have hmask:maskV ok (vsOf l (a.put o.dst v))=maskV ok (vsOf l a):=by
       funext j
       unfold maskV;by_cases hja:afterB ok j=true
       ·have hlj:=hcl k ok hkk hlk' j hja;rw [if_pos hja,if_pos hja,hvk j (by rintro rfl;rw [hi0] at hlj;cases hlj)]
       ·rw [if_neg hja,if_neg hja]
      rw [hvk k hki,hmask];refine hR k i hki ?_ _ _ w w' (hRR k ok hkk hlk') he
      cases hanc:ancB l l.length k i with
      | false=>rfl
      | true =>
       have:=anc_listed (listed:=fun i=>listed.getD i false) hcl l.length k i hlk' hanc
       rw [show listed.getD i false=true from this] at hi0;cases hi0
    ·intro k ok hkk hlk j hja;rw [hnew];by_cases hki:k=i
     ·subst hki;rw [hio] at hkk;obtain rfl:=Option.some.inj hkk;exact .inr (hpre' j hja)
     ·exact .inr (hcl k ok hkk (((hnew k).1 hlk).resolve_left hki) j hja)
   have hst:=hstep i o hio a w (vsOf l a) (fun k=>listed.getD k false) hd hz (fun m hm=>⟨(by rintro rfl;rw [hi0] at hm;cases hm),by
     cases hanc:ancB l l.length m i with
     | false=>rfl
     | true =>
      have:=anc_listed (listed:=fun i=>listed.getD i false) hcl l.length m i hm hanc
      rw [show listed.getD i false=true from this] at hi0;cases hi0⟩) hpre' hj
    (fun t ht=>hk t (fun k ok hkk hlk hdk=>by
     unfold keepB at ht;rw [List.all_eq_true] at ht;have h1:=ht k (by simpa using (List.getElem?_eq_some_iff.1 hkk).1)
     simp only [hkk,Bool.or_eq_true,bne_iff_ne,ne_eq,beq_iff_eq] at h1;rcases h1 with (h1 | h1) | h1
     ·exact h1 hdk
     ·subst h1;rw [hi0] at hlk;cases hlk
     ·have:=hcl k ok hkk hlk i h1
      rw [hi0] at this;cases this))
    (fun j oj d _ hjl hdj=>by simp only [vsOf,hjl,hdj])
    (fun j oj hja hjl=>hRR j oj hjl (hpre' j hja))
   unfold opW;simp only [ho];by_cases hw:Region.wanted o (yielded l.toArray a.tmps)=true
   ·rw [if_pos hw] at hst ⊢;exact Oper.wp_mono (fun a' w' ⟨v,h1,h2,h3,h4,h5⟩=>by subst h2;exact cont v w' h1 h3 h4 h5) hst
   ·rw [if_neg hw] at hst ⊢;exact cont undef w (fun _=>rfl) hst.1 hst.2.1 hst.2.2
 have h00:∀ k,(Array.replicate l.toArray.size false).getD k false=false:=fun k=>by
  by_cases h:k<l.length <;> simp [h]
 refine key l.toArray.size (Array.replicate l.toArray.size false) a0 _ (by simp) ?_ rfl rfl (by rw [show (fun k=>(Array.replicate l.toArray.size false).getD k false)=fun _=>false from funext h00];exact hJ _) (fun _ _=>rfl) ?_ ?_
 ·refine Nat.le_trans (List.length_filter_le _ _) ?_
  simp
 ·intro i o hi hl;have h0:(Array.replicate l.toArray.size false).getD i false=false:=by
   by_cases h:i<l.length <;> simp [h]
  rw [h0] at hl;cases hl
 ·intro i o hi hl;have h0:(Array.replicate l.toArray.size false).getD i false=false:=by
   by_cases h:i<l.length <;> simp [h]
  rw [h0] at hl;cases hl

theorem wp_region_extJ {id:Nat} {w0:World} (hm:P.follows .mixedOrders=true) (hB:regB l a0.tmps.size=true)
  (J:(Nat→Bool)→(Nat→Value)→World→Prop) (E:Nat→World→World→Prop) (R:Nat→Value→(Nat→Value)→World→Prop) (hJ:∀ vs,J (fun _=>false) vs w0.drew)
  (hR:∀ i j,i ≠ j→ancB l l.length i j=false→∀ v d w w',R i v d w→E j w w'→R i v d w')
  (hstep:∀ i o,l[i]?=some o→∀ (a:Act) (w:World) (vs:Nat→Value) (dn:Nat→Bool),a.defers=a0.defers→a.tmps.size=a0.tmps.size→(∀ m,dn m=true→i ≠ m∧ancB l l.length m i=false)→(∀ j,afterB o j=true→dn j=true)→J dn vs w→(∀ t,keepB l i t=true→a.tmps.getD t undef=a0.tmps.getD t undef) →
   (∀ j oj d,afterB o j=true→l[j]?=some oj→oj.dst=some d→a.tmps.getD d undef=vs j)→(∀ j oj,afterB o j=true→l[j]?=some oj→R j (vs j) (maskV oj vs) w) →
   if Region.wanted o (yielded l.toArray a.tmps) then o.wp P a w (fun a' w'=>∃ v,(o.dst=none→v=undef)∧a'=a.put o.dst v∧J (updB dn i) (updV vs i v) w'∧E i w w'∧R i v (maskV o vs) w') Q else J (updB dn i) (updV vs i undef) w∧E i w w∧R i undef (maskV o vs) w)
  (hend:∀ (vs:Nat→Value) (dn:Nat→Bool) (w:World),(∀ i,i<l.length→dn i=true)→J dn vs w→(∀ i o,l[i]?=some o→R i (vs i) (maskV o vs) w)→Q .normal (putAll l vs 0 a0) w) :
  (Code.region id l.toArray true).wp P Q a0 w0 :=
 wp_region_any hm (any_extJ hB J E R hJ hR hstep hend).any

theorem wp_region_extM {id:Nat} {w0:World} (hm:P.follows .mixedOrders=true) (hB:regB l a0.tmps.size=true)
  (m:Nat) (J:Bool→World→Prop) (E:Nat→World→World→Prop) (R:Nat→Value→(Nat→Value)→World→Prop) (hJ:J false w0.drew)
  (hR:∀ i j,i ≠ j→ancB l l.length i j=false→∀ v d w w',R i v d w→E j w w'→R i v d w')
  (hstep:∀ i o,l[i]?=some o→∀ (a:Act) (w:World) (vs:Nat→Value) (b:Bool),a.defers=a0.defers→a.tmps.size=a0.tmps.size→(b=true→i ≠ m∧ancB l l.length m i=false)→J b w→(∀ t,keepB l i t=true→a.tmps.getD t undef=a0.tmps.getD t undef) →
   (∀ j oj d,afterB o j=true→l[j]?=some oj→oj.dst=some d→a.tmps.getD d undef=vs j)→(∀ j oj,afterB o j=true→l[j]?=some oj→R j (vs j) (maskV oj vs) w) →
   if Region.wanted o (yielded l.toArray a.tmps) then o.wp P a w (fun a' w'=>∃ v,(o.dst=none→v=undef)∧a'=a.put o.dst v∧J (b || i == m) w'∧E i w w'∧R i v (maskV o vs) w') Q else J (b || i == m) w∧E i w w∧R i undef (maskV o vs) w)
  (hend:∀ (vs:Nat→Value) (w:World),(m<l.length→J true w)→(∀ i o,l[i]?=some o→R i (vs i) (maskV o vs) w)→Q .normal (putAll l vs 0 a0) w) :
  (Code.region id l.toArray true).wp P Q a0 w0:=by
 refine wp_region_extJ hm hB (fun dn _ w=>J (dn m) w) E R (fun _=>hJ) hR ?_ (fun vs dn w h1 h2 h3=>hend vs w (fun hl=>by have:=h1 m hl;simp only [this] at h2;exact h2) h3)
 intro i o hi a w vs dn h1 h2 h3 _ h5 h6 h7 h8;have e:∀ i,updB dn i m=(dn m || i == m):=fun i=>by
  unfold updB;by_cases h:m=i
  ·subst h;simp
  ·rw [if_neg h,show (i == m)=false from by rw [beq_eq_false_iff_ne];exact Ne.symm h];simp
 simp only [e];exact hstep i o hi a w vs (dn m) h1 h2 (h3 m) h5 h6 h7 h8

end

def StepOk (P:Program) (l:List Oper) (Q:Exit→Act→World→Prop) (a0:Act) (J:World→Prop) (E:Nat→World→World→Prop) (R:Nat→Value→(Nat→Value)→World→Prop) (i:Nat) (o:Oper):Prop :=
 ∀ (a:Act) (w:World) (vs:Nat→Value) (K:Act→World→Prop),J w→(∀ t,keepB l i t=true→a.tmps[t]?.getD undef=a0.tmps[t]?.getD undef) →
  (∀ j oj d,l[j]?=some oj→oj.dst=some d→afterB o j=true→a.tmps[d]?.getD undef=vs j∧R j (vs j) (maskV oj vs) w) →
  (∀ j oj,l[j]?=some oj→afterB o j=true→R j (vs j) (maskV oj vs) w) →
  (∀ v w',(o.dst=none→v=undef)→J w'→E i w w'→R i v (maskV o vs) w'→K (a.put o.dst v) w') →
  if Region.wanted o (yielded l.toArray a.tmps) then o.wp P a w K Q else K (a.put o.dst undef) w
def StepsOk (P:Program) (l:List Oper) (Q:Exit→Act→World→Prop) (a0:Act) (J:World→Prop) (E:Nat→World→World→Prop) (R:Nat→Value→(Nat→Value)→World→Prop):List Oper→Nat→Prop
 | [],_=>True
 | o :: rest,i=>StepOk P l Q a0 J E R i o∧StepsOk P l Q a0 J E R rest (i+1)

theorem StepsOk.at {P:Program} {l:List Oper} {Q:Exit→Act→World→Prop} {a0:Act} {J:World→Prop} {E:Nat→World→World→Prop} {R:Nat→Value→(Nat→Value)→World→Prop} :
  ∀ (r:List Oper) (k:Nat),StepsOk P l Q a0 J E R r k→∀ i o,r[i]?=some o→StepOk P l Q a0 J E R (k+i) o
 | [],_,_,i,o,h=>by simp at h
 | x :: r,k,hs,0,o,h=>by simp at h;subst h;exact hs.1
 | x :: r,k,hs,i+1,o,h=>by
  have:=StepsOk.at r (k+1) hs.2 i o (by simpa using h)
  rwa [show k+(i+1)=k+1+i from by omega]

theorem getD_bool {x:Option Value} {b:Bool} (h:x.getD undef=.bool b):x=some (.bool b):=by
 cases x with
 | none=>simp [undef] at h
 | some v=>simp at h;rw [h]
theorem wanted_yes {l:List Oper} {a:Act} {o:Oper} (j:Nat) (want:Bool) (hg:o.guard=some (j,want)) {oj:Oper} {d:Nat} (hj:l[j]?=some oj) (hd:oj.dst=some d) (hv:a.tmps[d]?.getD undef=.bool want) :
  Region.wanted o (yielded l.toArray a.tmps)=true:=by
 simp [Region.wanted,hg,yielded,hj,hd,getD_bool hv]
theorem wanted_no {l:List Oper} {a:Act} {o:Oper} (j:Nat) (want:Bool) (hg:o.guard=some (j,want)) {oj:Oper} {d:Nat} (hj:l[j]?=some oj) (hd:oj.dst=some d) (hv:a.tmps[d]?.getD undef=.bool (!want)) :
  ¬ Region.wanted o (yielded l.toArray a.tmps)=true:=by
 cases want <;> simp [Region.wanted,hg,yielded,hj,hd,getD_bool hv]

/-! Operations, one by one: each law asks what its operands hold. -/
section
variable {P:Program} {o:Oper} {a:Act} {w:World} {K:Act→World→Prop} {Q:Exit→Act→World→Prop}
theorem wpo_loadS (ty:TypeId) (x:Operand) (ho:o.op=.load ty x)
  (g off:Nat) (hx:a.eval x=.pointer (some ⟨g,off,none⟩)) (S:Array Value) (d:TypeDesc) (hc:∀ j u,S[j]?=some u→w.cell? ⟨g,off+j,none⟩=some u)
  (hu:P.underlying ty=some d) (hd:(match d with | .struct _ | .array _ _=>true | _=>false)=true) (hi:(P.info? ty).map (·.size)=some S.size)
  (h:K (a.put o.dst (.agg S)) w):o.wp P a w K Q:=by
 unfold Oper.wp execOp;simp only [ho,hx,Instr.loadAt,Instr.sureAddr,Sem.run_bind,Sem.run_pure,Result.andThen_ok,run_loadVar_at w g off ty S d hc hu hd hi];exact h
theorem wpo_storeS (ty:TypeId) (x y:Operand) (ho:o.op=.store ty x y) (hdst:o.dst=none)
  (g off:Nat) (hx:a.eval x=.pointer (some ⟨g,off,none⟩)) (S:Array Value) (hy:a.eval y=.agg S) (t:TypeId) (cs:Array Value) (hb:Bk w g t cs)
  (hl:off+S.size≤cs.size) (h1:∀ u ∈ S.toList,u.oneCell'=true) (hi:(P.info? ty).map (·.size)=some S.size)
  (h:∀ w',Bk w' g t (splA cs off S.toList)→Only g w w'→K (a.put o.dst undef) w'):o.wp P a w K Q:=by
 obtain ⟨w',r1,r2,r3⟩:=run_storeVar_at (P:=P) w g off t ty cs S hb hl h1 hi;unfold Oper.wp execOp;simp only [ho,hx,hy,Instr.storeAt,Instr.sureAddr,Sem.run_bind,Sem.run_pure,Result.andThen_ok,r1];have:=h w' r2 r3
 simpa [Oper.upon,hdst,Act.put] using this
theorem wpo_call (f:Nat) (xs:Array Operand) (ts:Array TypeId) (ho:o.op=.call { callee:=.value (.func f),args:=xs,argTypes:=ts }) (vs:Array Value) (hx:xs.map a.eval=vs)
  (eg:∀ args w,(callFunc f args).run P w=.ok (.enter f args) w) (h:Calls P f vs w fun e w'=>∃ v,e=.returned v∧K (a.put o.dst v) w'):o.wp P a w K Q:=by
 unfold Oper.wp execOp;simp only [ho,resolve,hx,Act.eval,Deferred.ofValue,Sem.run_bind,Sem.run_pure,Result.andThen_ok,invoke];simp [eg,Oper.upon]
 refine h.mono ?_
 rintro e w' ⟨v,rfl,hk⟩;exact hk
end

def StepOkM (P:Program) (l:List Oper) (Q:Exit→Act→World→Prop) (a0:Act) (m:Nat) (J:Bool→World→Prop) (E:Nat→World→World→Prop) (R:Nat→Value→(Nat→Value)→World→Prop) (i:Nat) (o:Oper):Prop :=
 ∀ (a:Act) (w:World) (vs:Nat→Value) (K:Act→World→Prop) (b:Bool),(b=true→i ≠ m∧ancB l l.length m i=false)→J b w→(∀ t,keepB l i t=true→a.tmps[t]?.getD undef=a0.tmps[t]?.getD undef) →
  (∀ j oj d,l[j]?=some oj→oj.dst=some d→afterB o j=true→a.tmps[d]?.getD undef=vs j∧R j (vs j) (maskV oj vs) w) →
  (∀ j oj,l[j]?=some oj→afterB o j=true→R j (vs j) (maskV oj vs) w) →
  (∀ v w',(o.dst=none→v=undef)→J (b || i == m) w'→E i w w'→R i v (maskV o vs) w'→K (a.put o.dst v) w') →
  if Region.wanted o (yielded l.toArray a.tmps) then o.wp P a w K Q else K (a.put o.dst undef) w
def StepsOkM (P:Program) (l:List Oper) (Q:Exit→Act→World→Prop) (a0:Act) (m:Nat) (J:Bool→World→Prop) (E:Nat→World→World→Prop) (R:Nat→Value→(Nat→Value)→World→Prop):List Oper→Nat→Prop
 | [],_=>True
 | o :: rest,i=>StepOkM P l Q a0 m J E R i o∧StepsOkM P l Q a0 m J E R rest (i+1)
theorem StepsOkM.at {P:Program} {l:List Oper} {Q:Exit→Act→World→Prop} {a0:Act} {m:Nat} {J:Bool→World→Prop} {E:Nat→World→World→Prop} {R:Nat→Value→(Nat→Value)→World→Prop} :
  ∀ (r:List Oper) (k:Nat),StepsOkM P l Q a0 m J E R r k→∀ i o,r[i]?=some o→StepOkM P l Q a0 m J E R (k+i) o
 | [],_,_,i,o,h=>by simp at h
 | x :: r,k,hs,0,o,h=>by simp at h;subst h;exact hs.1
 | x :: r,k,hs,i+1,o,h=>by
  have:=StepsOkM.at r (k+1) hs.2 i o (by simpa using h)
  rwa [show k+(i+1)=k+1+i from by omega]

theorem wp_region_stepsM {P:Program} {l:List Oper} {Q:Exit→Act→World→Prop} {a0:Act} {id:Nat} {w0:World} (hm:P.follows .mixedOrders=true) (hB:regB l a0.tmps.size=true)
  (m:Nat) (hml:m<l.length) (J:Bool→World→Prop) (E:Nat→World→World→Prop) (R:Nat→Value→(Nat→Value)→World→Prop) (hJ:J false w0.drew)
  (hR:∀ i j,i ≠ j→ancB l l.length i j=false→∀ v d w w',R i v d w→E j w w'→R i v d w')
  (hs:StepsOkM P l Q a0 m J E R l 0)
  (hend:∀ (vs:Nat→Value) (w:World),J true w→(∀ i o,l[i]?=some o→R i (vs i) (maskV o vs) w)→Q .normal (putAll l vs 0 a0) w) :
  (Code.region id l.toArray true).wp P Q a0 w0:=by
 refine wp_region_extM hm hB m J E R hJ hR ?_ (fun vs w h1 h2=>hend vs w (h1 hml) h2)
 intro i o hi a w vs b _ hz hb hj hk hv hr;have h:=StepsOkM.at l 0 hs i o hi;rw [Nat.zero_add] at h;have h1:=fun K hK=>h a w vs K b hb hj (fun t ht=>by have:=hk t ht;simpa using this) (fun j oj d h1 h2 h3=>⟨by have:=hv j oj d h3 h1 h2;simpa using this,hr j oj h3 h1⟩) (fun j oj h1 h3=>hr j oj h3 h1) hK
 have h2:=h1 (fun a' w'=>∃ v,(o.dst=none→v=undef)∧a'=a.put o.dst v∧J (b || i == m) w'∧(w'=w→E i w w∧J (b || i == m) w)∧E i w w'∧R i v (maskV o vs) w') (fun v w' x1 x2 x3 x4=>⟨v,x1,rfl,x2,fun e=>by subst e;exact ⟨x3,x2⟩,x3,x4⟩)
 by_cases hw:Region.wanted o (yielded l.toArray a.tmps)=true
 ·rw [if_pos hw] at h2 ⊢;exact Oper.wp_mono (fun a' w' ⟨v,y1,y2,y3,_,y5,y6⟩=>⟨v,y1,y2,y3,y5,y6⟩) h2
 ·rw [if_neg hw] at h2 ⊢;obtain ⟨v,x1,x2,x3,_,x4,x5⟩:=h2;have hv':v=undef:=by
   cases hd:o.dst with
   | none=>exact x1 hd
   | some d =>
    rw [hd] at x2;have hlt:=(regB_dst hB hi hd).1;have:=congrArg (fun b:Act=>b.tmps.getD d undef) x2
    rw [put_getD,put_getD,if_pos ⟨rfl,by omega⟩,if_pos ⟨rfl,by omega⟩] at this
    exact this.symm
  subst hv';exact ⟨x3,x4,x5⟩
def StepOkJ (P:Program) (l:List Oper) (Q:Exit→Act→World→Prop) (a0:Act) (J:(Nat→Bool)→(Nat→Value)→World→Prop) (E:Nat→World→World→Prop) (R:Nat→Value→(Nat→Value)→World→Prop) (i:Nat) (o:Oper):Prop :=
 ∀ (a:Act) (w:World) (vs:Nat→Value) (K:Act→World→Prop) (dn:Nat→Bool),(∀ m,dn m=true→i ≠ m∧ancB l l.length m i=false)→(∀ j,afterB o j=true→dn j=true)→J dn vs w→(∀ t,keepB l i t=true→a.tmps[t]?.getD undef=a0.tmps[t]?.getD undef) →
  (∀ j oj d,l[j]?=some oj→oj.dst=some d→afterB o j=true→a.tmps[d]?.getD undef=vs j∧R j (vs j) (maskV oj vs) w) →
  (∀ j oj,l[j]?=some oj→afterB o j=true→R j (vs j) (maskV oj vs) w) →
  (∀ v w',(o.dst=none→v=undef)→J (updB dn i) (updV vs i v) w'→E i w w'→R i v (maskV o vs) w'→K (a.put o.dst v) w') →
  if Region.wanted o (yielded l.toArray a.tmps) then o.wp P a w K Q else K (a.put o.dst undef) w
def StepsOkJ (P:Program) (l:List Oper) (Q:Exit→Act→World→Prop) (a0:Act) (J:(Nat→Bool)→(Nat→Value)→World→Prop) (E:Nat→World→World→Prop) (R:Nat→Value→(Nat→Value)→World→Prop):List Oper→Nat→Prop
 | [],_=>True
 | o :: rest,i=>StepOkJ P l Q a0 J E R i o∧StepsOkJ P l Q a0 J E R rest (i+1)
theorem StepsOkJ.at {P:Program} {l:List Oper} {Q:Exit→Act→World→Prop} {a0:Act} {J:(Nat→Bool)→(Nat→Value)→World→Prop} {E:Nat→World→World→Prop} {R:Nat→Value→(Nat→Value)→World→Prop} :
  ∀ (r:List Oper) (k:Nat),StepsOkJ P l Q a0 J E R r k→∀ i o,r[i]?=some o→StepOkJ P l Q a0 J E R (k+i) o
 | [],_,_,i,o,h=>by simp at h
 | x :: r,k,hs,0,o,h=>by simp at h;subst h;exact hs.1
 | x :: r,k,hs,i+1,o,h=>by
  have:=StepsOkJ.at r (k+1) hs.2 i o (by simpa using h)
  rwa [show k+(i+1)=k+1+i from by omega]

theorem any_stepsJ {P:Program} {l:List Oper} {Q:Exit→Act→World→Prop} {a0:Act} {w0:World} (hB:regB l a0.tmps.size=true)
  (J:(Nat→Bool)→(Nat→Value)→World→Prop) (E:Nat→World→World→Prop) (R:Nat→Value→(Nat→Value)→World→Prop) (hJ:∀ vs,J (fun _=>false) vs w0.drew)
  (hR:∀ i j,i ≠ j→ancB l l.length i j=false→∀ v d w w',R i v d w→E j w w'→R i v d w')
  (hs:StepsOkJ P l Q a0 J E R l 0)
  (hend:∀ (vs:Nat→Value) (dn:Nat→Bool) (w:World),(∀ i,i<l.length→dn i=true)→J dn vs w→(∀ i o,l[i]?=some o→R i (vs i) (maskV o vs) w)→Q .normal (putAll l vs 0 a0) w) :
  anyW P l.toArray Q l.toArray.size (Array.replicate l.toArray.size false) a0 w0.drew:=by
 refine any_extJ hB J E R hJ hR ?_ hend
 intro i o hi a w vs b _ hz hb hb2 hj hk hv hr;have h:=StepsOkJ.at l 0 hs i o hi;rw [Nat.zero_add] at h;have h1:=fun K hK=>h a w vs K b hb hb2 hj (fun t ht=>by have:=hk t ht;simpa using this) (fun j oj d h1 h2 h3=>⟨by have:=hv j oj d h3 h1 h2;simpa using this,hr j oj h3 h1⟩) (fun j oj h1 h3=>hr j oj h3 h1) hK
 have h2:=h1 (fun a' w'=>∃ v,(o.dst=none→v=undef)∧a'=a.put o.dst v∧J (updB b i) (updV vs i v) w'∧(w'=w→E i w w∧J (updB b i) (updV vs i v) w)∧E i w w'∧R i v (maskV o vs) w') (fun v w' x1 x2 x3 x4=>⟨v,x1,rfl,x2,fun e=>by subst e;exact ⟨x3,x2⟩,x3,x4⟩)
 by_cases hw:Region.wanted o (yielded l.toArray a.tmps)=true
 ·rw [if_pos hw] at h2 ⊢;exact Oper.wp_mono (fun a' w' ⟨v,y1,y2,y3,_,y5,y6⟩=>⟨v,y1,y2,y3,y5,y6⟩) h2
 ·rw [if_neg hw] at h2 ⊢;obtain ⟨v,x1,x2,x3,_,x4,x5⟩:=h2;have hv':v=undef:=by
   cases hd:o.dst with
   | none=>exact x1 hd
   | some d =>
    rw [hd] at x2;have hlt:=(regB_dst hB hi hd).1;have:=congrArg (fun b:Act=>b.tmps.getD d undef) x2
    rw [put_getD,put_getD,if_pos ⟨rfl,by omega⟩,if_pos ⟨rfl,by omega⟩] at this
    exact this.symm
  subst hv';exact ⟨x3,x4,x5⟩
theorem wp_region_stepsJ {P:Program} {l:List Oper} {Q:Exit→Act→World→Prop} {a0:Act} {id:Nat} {w0:World} (hm:P.follows .mixedOrders=true) (hB:regB l a0.tmps.size=true)
  (J:(Nat→Bool)→(Nat→Value)→World→Prop) (E:Nat→World→World→Prop) (R:Nat→Value→(Nat→Value)→World→Prop) (hJ:∀ vs,J (fun _=>false) vs w0.drew)
  (hR:∀ i j,i ≠ j→ancB l l.length i j=false→∀ v d w w',R i v d w→E j w w'→R i v d w')
  (hs:StepsOkJ P l Q a0 J E R l 0)
  (hend:∀ (vs:Nat→Value) (dn:Nat→Bool) (w:World),(∀ i,i<l.length→dn i=true)→J dn vs w→(∀ i o,l[i]?=some o→R i (vs i) (maskV o vs) w)→Q .normal (putAll l vs 0 a0) w) :
  (Code.region id l.toArray true).wp P Q a0 w0 :=
 wp_region_any hm (any_stepsJ hB J E R hJ hR hs hend).any

structure Ext (W:World) where
 w:World
 h:Below W.heap.size W w
instance (W:World):Nonempty (Ext W):=⟨⟨W,Below.refl _ _⟩⟩
def Ext.C (W:World) (w':World):Prop:=∃ x:Ext W,w'=x.w
theorem Ext.c_drew (W:World):∃ x:Ext W,{ W with drawn:=W.drawn+1 }=x.w:=⟨⟨_,(Below.refl _ _).drew⟩,rfl⟩
theorem Ext.cell {W:World} {b o:Nat} {v:Value} (h:W.cell? ⟨b,o,none⟩=some v):∀ x:Ext W,x.w.cell? ⟨b,o,none⟩=some v:=fun x=>by
 have hb:b<W.heap.size:=World.block_lt_of_cell? W _ h;exact (x.h.cell (p:=⟨b,o,none⟩) hb).trans h
theorem Ext.calls {P:Program} {f:FuncId} {args:Array Value} {W:World} {x:Ext W} {v:Value} (h:Calls P f args x.w fun e w'=>e=.returned v∧Below x.w.heap.size x.w w') :
  Calls P f args x.w fun e w''=>e=.returned v∧∃ y:Ext W,w''=y.w :=
 h.mono fun _ _ ⟨he,hb⟩=>⟨he,⟨_,x.h.trans (hb.mono x.h.size)⟩,rfl⟩
theorem Ext.same {P:Program} {f:FuncId} {args:Array Value} {W:World} {x:Ext W} {v:Value} (h:Calls P f args x.w fun e w'=>e=.returned v∧x.w=w') :
  Calls P f args x.w fun e w''=>e=.returned v∧∃ y:Ext W,w''=y.w :=
 h.mono fun _ _ ⟨he,hb⟩=>⟨he,x,hb.symm⟩
theorem Ext.drew {P:Program} {f:FuncId} {args:Array Value} {W:World} {x:Ext W} {v:Value} (h:Calls P f args x.w fun e w'=>e=.returned v∧∃ n,w'=x.w.drewN n) :
  Calls P f args x.w fun e w''=>e=.returned v∧∃ y:Ext W,w''=y.w :=
 h.mono fun _ _ ⟨he,n,hb⟩=>⟨he,⟨_,hb ▸ below_drewN x.h n⟩,rfl⟩
theorem wp_region_ext_quiet {P:Program} {id:Nat} {Q:Exit→Act→World→Prop} {a:Act} {W:World} {l:List Oper} (hm:P.follows .mixedOrders=true) (hB:Region.lexB .any l.toArray=true)
  (h:wpQuiet P l.toArray (fun w'=>∃ x:Ext W,w'=x.w) (fun a'=>∀ w',Below W.heap.size W w'→Q .normal a' w') l a):(Code.region id l.toArray true).wp P Q a W :=
 wp_region_quiet (C:=fun w'=>∃ x:Ext W,w'=x.w) hm hB (Ext.c_drew W) (by
  have e:(fun a'=>∀ w',(∃ x:Ext W,w'=x.w)→Q .normal a' w')=fun a'=>∀ w',Below W.heap.size W w'→Q .normal a' w':=by
   funext a';apply propext
   exact ⟨fun h w' hb=>h w' ⟨⟨w',hb⟩,rfl⟩,fun h w' ⟨x,hx⟩=>by subst hx;exact h _ x.h⟩
  rw [e];exact h)
section
variable {P:Program} {l:List Oper} {ops:Array Oper} {C:World→Prop}
end
end Go.Proofs.YtmkoegljnebdiaaGreat
namespace Go.Proofs.YtmkoegljnebdiaaGreat
set_option maxRecDepth 100000
set_option maxHeartbeats 16000000

structure SpanD where
 lo:Int
 hi:Int
deriving DecidableEq
def zeroS:SpanD:=⟨0,0⟩
def ptS (n:Int):SpanD:=⟨n,n⟩
def numB (n:Int):Bool:=decide (-9223372036854775807≤n)
def chkB (a:SpanD):Bool:=numB a.lo && numB a.hi && decide (a.lo≤a.hi)
def WdS (a:SpanD):Prop:=(-9223372036854775808≤a.lo∧a.lo≤9223372036854775807)∧(-9223372036854775808≤a.hi∧a.hi≤9223372036854775807)
theorem chk_iff {a:SpanD}:chkB a=true ↔ -9223372036854775807≤a.lo∧-9223372036854775807≤a.hi∧a.lo≤a.hi:=by
 unfold chkB numB;simp only [Bool.and_eq_true,decide_eq_true_eq];exact ⟨fun h=>⟨h.1.1,h.1.2,h.2⟩,fun h=>⟨⟨h.1,h.2.1⟩,h.2.2⟩⟩
def bigB (n:Int):Bool:=decide (n≤9223372036854775807) && decide (-9223372036854775807≤n)
def fitB (lo hi:Int):SpanD × Int:=if bigB lo && bigB hi then (⟨lo,hi⟩,0) else (zeroS,4)
def addB (a b:SpanD):SpanD × Int:=if chkB a && chkB b then fitB (a.lo+b.lo) (a.hi+b.hi) else (zeroS,2)
def negS (a:SpanD):SpanD:=⟨-a.hi,-a.lo⟩
def negB (a:SpanD):SpanD × Int:=if chkB a then (negS a,0) else (zeroS,2)
def subB (a b:SpanD):SpanD × Int:=if chkB b then addB a (negS b) else (zeroS,2)
def min4 (a b c d:Int):Int:=min (min a b) (min c d)
def max4 (a b c d:Int):Int:=max (max a b) (max c d)
def dn32 (n:Int):Int:=n / 4294967296
def up32 (n:Int):Int:=-(-n / 4294967296)
def mulB (a b:SpanD):SpanD × Int :=
 if chkB a && chkB b then fitB (dn32 (min4 (a.lo * b.lo) (a.lo * b.hi) (a.hi * b.lo) (a.hi * b.hi))) (up32 (max4 (a.lo * b.lo) (a.lo * b.hi) (a.hi * b.lo) (a.hi * b.hi))) else (zeroS,2)
def scaleB (a:SpanD) (n:Int):SpanD × Int:=if chkB a then fitB (min (a.lo * n) (a.hi * n)) (max (a.lo * n) (a.hi * n)) else (zeroS,2)
def fqB (x y:Int):Int:=if 0<y then x * 4294967296 / y else -(x * 4294967296) / -y
def cqB (x y:Int):Int:=-fqB (-x) y
def divB (a b:SpanD):SpanD × Int :=
 if chkB a && chkB b then
  if b.lo≤0∧0≤b.hi then (zeroS,10)
  else fitB (min4 (fqB a.lo b.lo) (fqB a.lo b.hi) (fqB a.hi b.lo) (fqB a.hi b.hi)) (max4 (cqB a.lo b.lo) (cqB a.lo b.hi) (cqB a.hi b.lo) (cqB a.hi b.hi))
 else (zeroS,2)
def absS (a:SpanD):SpanD:=if 0≤a.lo then a else if a.hi≤0 then negS a else ⟨0,max (-a.lo) a.hi⟩
def squareB (a:SpanD):SpanD × Int:=if chkB a then mulB (absS a) (absS a) else (zeroS,2)
def rootK (x:Nat):Nat→Nat→Nat
 | 0,r=>r
 | k+1,r=>rootK x k (if (r+2 ^ k) * (r+2 ^ k)≤x then r+2 ^ k else r)
def rootN (n:Nat):Nat:=rootK (n * 4294967296) 49 0
def rootB (a:SpanD):SpanD × Int :=
 if chkB a then
  if a.hi<0 then (zeroS,4)
  else (⟨rootN (max a.lo 0).toNat,if rootN a.hi.toNat * rootN a.hi.toNat=a.hi.toNat * 4294967296 then rootN a.hi.toNat else rootN a.hi.toNat+1⟩,0)
 else (zeroS,2)
def sqsB:List SpanD→SpanD→SpanD × Int
 | [],s=>(s,0)
 | a :: l,s=>if (squareB a).2=0 then (if (addB s (squareB a).1).2=0 then sqsB l (addB s (squareB a).1).1 else (zeroS,(addB s (squareB a).1).2)) else (zeroS,(squareB a).2)
def normB (l:List SpanD):SpanD × Int :=
 if 64<l.length then (zeroS,3) else if l.all chkB then (if (sqsB l zeroS).2=0 then rootB (sqsB l zeroS).1 else (zeroS,(sqsB l zeroS).2)) else (zeroS,2)
def hullS (a b:SpanD):SpanD:=⟨min a.lo b.lo,max a.hi b.hi⟩
def hullB (a b:SpanD):SpanD × Int:=if chkB a && chkB b then (hullS a b,0) else (zeroS,2)
def wideB (a:SpanD):Int × Int:=if chkB a then (if a.lo<0∧9223372036854775807+a.lo<a.hi then (0,4) else (a.hi - a.lo,0)) else (0,2)
def withinB (a b:SpanD):Bool:=chkB a && chkB b && decide (b.lo≤a.lo) && decide (a.hi≤b.hi)

/-! A span within another one. -/
def inS (a b:SpanD):Prop:=chkB a=true∧b.lo≤a.lo∧a.hi≤b.hi∧b.hi≤9223372036854775807
theorem inS.refl {a:SpanD} (h:chkB a=true) (hw:a.hi≤9223372036854775807):inS a a:=⟨h,Int.le_refl _,Int.le_refl _,hw⟩
theorem inS.trans {a b c:SpanD} (h:inS a b) (k:inS b c):inS a c:=⟨h.1,Int.le_trans k.2.1 h.2.1,Int.le_trans h.2.2.1 k.2.2.1,k.2.2.2⟩
def IsoOp (f:SpanD→SpanD→SpanD × Int):Prop:=∀ {a b a' b' r:SpanD},inS a' a→inS b' b→f a b=(r,0)→∃ r',f a' b'=(r',0)∧inS r' r
theorem fit_ok {lo hi:Int} {r:SpanD} (h:fitB lo hi=(r,0)):r=⟨lo,hi⟩∧bigB lo=true∧bigB hi=true:=by
 unfold fitB at h;by_cases e:(bigB lo && bigB hi)=true
 ·rw [if_pos e] at h;rw [Bool.and_eq_true] at e;exact ⟨(congrArg Prod.fst h).symm,e.1,e.2⟩
 ·rw [if_neg e] at h;exact absurd (congrArg Prod.snd h) (by show ¬ (4:Int)=0;decide)
theorem big_iff {n:Int}:bigB n=true ↔ -9223372036854775807≤n∧n≤9223372036854775807:=by unfold bigB;simp;omega
theorem fit_iso {lo hi lo' hi':Int} {r:SpanD} (h:fitB lo hi=(r,0)) (h1:lo≤lo') (h2:hi'≤hi) (h3:lo'≤hi'):∃ r',fitB lo' hi'=(r',0)∧inS r' r:=by
 obtain ⟨e,b1,b2⟩:=fit_ok h;rw [big_iff] at b1 b2;subst e;have e1:bigB lo'=true:=big_iff.2 (by omega)
 have e2:bigB hi'=true:=big_iff.2 (by omega)
 refine ⟨⟨lo',hi'⟩,?_,?_,h1,h2,b2.2⟩
 ·unfold fitB;rw [e1,e2];rfl
 ·rw [chk_iff];dsimp only;omega
theorem add_ok {a b r:SpanD} (h:addB a b=(r,0)):chkB a=true∧chkB b=true∧fitB (a.lo+b.lo) (a.hi+b.hi)=(r,0):=by
 unfold addB at h;by_cases e:(chkB a && chkB b)=true
 ·rw [if_pos e] at h;rw [Bool.and_eq_true] at e;exact ⟨e.1,e.2,h⟩
 ·rw [if_neg e] at h;exact absurd (congrArg Prod.snd h) (by show ¬ (2:Int)=0;decide)
theorem add_in {a b:SpanD} (ha:chkB a=true) (hb:chkB b=true):addB a b=fitB (a.lo+b.lo) (a.hi+b.hi):=by unfold addB;rw [ha,hb];rfl
theorem add_iso:IsoOp addB:=fun {a b a' b' r} ha hb h=>by
 obtain ⟨_,_,h3⟩:=add_ok h;rw [add_in ha.1 hb.1];have c1:=chk_iff.1 ha.1;have c2:=chk_iff.1 hb.1;obtain ⟨_,a1,a2,a3⟩:=ha;obtain ⟨_,b1,b2,b3⟩:=hb;exact fit_iso h3 (by omega) (by omega) (by omega)
theorem neg_iso {a a':SpanD} (h:inS a' a) (ha:chkB a=true):inS (negS a') (negS a):=by
 have c:=chk_iff.1 h.1;have c2:=chk_iff.1 ha;obtain ⟨_,h1,h2,h3⟩:=h;unfold inS;rw [chk_iff];unfold negS;dsimp only;omega
theorem sub_iso:IsoOp subB:=fun {a b a' b' r} ha hb h=>by
 unfold subB at h ⊢;by_cases e:chkB b=true
 ·rw [if_pos e] at h;rw [if_pos hb.1];exact add_iso ha (neg_iso hb e) h
 ·rw [if_neg e] at h;exact absurd (congrArg Prod.snd h) (by show ¬ (2:Int)=0;decide)
theorem mul_one {lo hi x c:Int} (h1:lo≤x) (h2:x≤hi):min (lo * c) (hi * c)≤x * c∧x * c≤max (lo * c) (hi * c):=by
 rcases Int.le_total 0 c with hc | hc
 ·have a:=Int.mul_le_mul_of_nonneg_right h1 hc;have b:=Int.mul_le_mul_of_nonneg_right h2 hc;omega
 ·have a:=Int.mul_le_mul_of_nonpos_right h1 hc;have b:=Int.mul_le_mul_of_nonpos_right h2 hc;omega
theorem mul_two {a b:SpanD} {x y:Int} (h1:a.lo≤x) (h2:x≤a.hi) (h3:b.lo≤y) (h4:y≤b.hi) :
  min4 (a.lo * b.lo) (a.lo * b.hi) (a.hi * b.lo) (a.hi * b.hi)≤x * y∧x * y≤max4 (a.lo * b.lo) (a.lo * b.hi) (a.hi * b.lo) (a.hi * b.hi):=by
 have e1:=mul_one (c:=x) h3 h4;have e2:=mul_one (c:=b.lo) h1 h2;have e3:=mul_one (c:=b.hi) h1 h2;rw [Int.mul_comm b.lo x,Int.mul_comm b.hi x,Int.mul_comm y x] at e1;unfold min4 max4;omega
theorem dn32_mono {a b:Int} (h:a≤b):dn32 a≤dn32 b:=Int.ediv_le_ediv (by decide) h
theorem up32_mono {a b:Int} (h:a≤b):up32 a≤up32 b:=by
 have:=Int.ediv_le_ediv (c:=4294967296) (by decide) (show -b≤-a by omega)
 unfold up32;omega
theorem dn_up {a b:Int} (h:a≤b):dn32 a≤up32 b:=by unfold dn32 up32;omega
theorem mul_ok {a b r:SpanD} (h:mulB a b=(r,0)):chkB a=true∧chkB b=true∧fitB (dn32 (min4 (a.lo * b.lo) (a.lo * b.hi) (a.hi * b.lo) (a.hi * b.hi))) (up32 (max4 (a.lo * b.lo) (a.lo * b.hi) (a.hi * b.lo) (a.hi * b.hi)))=(r,0):=by
 unfold mulB at h;by_cases e:(chkB a && chkB b)=true
 ·rw [if_pos e] at h;rw [Bool.and_eq_true] at e;exact ⟨e.1,e.2,h⟩
 ·rw [if_neg e] at h;exact absurd (congrArg Prod.snd h) (by show ¬ (2:Int)=0;decide)
theorem mul_in {a b:SpanD} (ha:chkB a=true) (hb:chkB b=true):mulB a b=fitB (dn32 (min4 (a.lo * b.lo) (a.lo * b.hi) (a.hi * b.lo) (a.hi * b.hi))) (up32 (max4 (a.lo * b.lo) (a.lo * b.hi) (a.hi * b.lo) (a.hi * b.hi))):=by unfold mulB;rw [ha,hb];rfl
theorem min4_ge {a b c d m:Int} (h1:m≤a) (h2:m≤b) (h3:m≤c) (h4:m≤d):m≤min4 a b c d:=by unfold min4;omega
theorem max4_le {a b c d m:Int} (h1:a≤m) (h2:b≤m) (h3:c≤m) (h4:d≤m):max4 a b c d≤m:=by unfold max4;omega
theorem mul_iso:IsoOp mulB:=fun {a b a' b' r} ha hb h=>by
 obtain ⟨_,_,h3⟩:=mul_ok h;rw [mul_in ha.1 hb.1];have c1:=(chk_iff.1 ha.1).2.2;have c2:=(chk_iff.1 hb.1).2.2;obtain ⟨_,a1,a2,a3⟩:=ha;obtain ⟨_,b1,b2,b3⟩:=hb;have m1:=mul_two (a:=a) (b:=b) (x:=a'.lo) (y:=b'.lo) (by omega) (by omega) (by omega) (by omega)
 have m2:=mul_two (a:=a) (b:=b) (x:=a'.lo) (y:=b'.hi) (by omega) (by omega) (by omega) (by omega)
 have m3:=mul_two (a:=a) (b:=b) (x:=a'.hi) (y:=b'.lo) (by omega) (by omega) (by omega) (by omega)
 have m4:=mul_two (a:=a) (b:=b) (x:=a'.hi) (y:=b'.hi) (by omega) (by omega) (by omega) (by omega)
 refine fit_iso h3 (dn32_mono (min4_ge m1.1 m2.1 m3.1 m4.1)) (up32_mono (max4_le m1.2 m2.2 m3.2 m4.2)) (dn_up ?_)
 unfold min4 max4;omega
theorem scale_iso {a a' r:SpanD} {n:Int} (ha:inS a' a) (h:scaleB a n=(r,0)):∃ r',scaleB a' n=(r',0)∧inS r' r:=by
 unfold scaleB at h ⊢;by_cases e:chkB a=true
 ·rw [if_pos e] at h;rw [if_pos ha.1];have c:=(chk_iff.1 ha.1).2.2;obtain ⟨_,a1,a2,a3⟩:=ha;have m1:=mul_one (c:=n) (lo:=a.lo) (hi:=a.hi) (x:=a'.lo) (by omega) (by omega)
  have m2:=mul_one (c:=n) (lo:=a.lo) (hi:=a.hi) (x:=a'.hi) (by omega) (by omega)
  exact fit_iso h (by omega) (by omega) (by omega)
 ·rw [if_neg e] at h;exact absurd (congrArg Prod.snd h) (by show ¬ (2:Int)=0;decide)
/-! Quotients. -/
theorem ediv_le_of {n m y y':Int} (hy:0<y) (hy':0<y') (h:n * y'≤m * y):n / y≤m / y':=by
 rw [Int.le_ediv_iff_mul_le hy'];have h1:n / y * y≤n:=Int.ediv_mul_le n (by omega)
 -- (n / y) y' y <= n y' <= m y
 have h2:n / y * y * y'≤n * y':=Int.mul_le_mul_of_nonneg_right h1 (by omega)
 have h3:n / y * y' * y≤m * y:=by rw [Int.mul_assoc,Int.mul_comm y' y,← Int.mul_assoc];omega
 exact Int.le_of_mul_le_mul_right h3 hy
theorem fq_pos {lo hi bl bh x y:Int} (h1:lo≤x) (h3:bl≤y) (h4:y≤bh) (hb:0<bl) :
  min4 (fqB lo bl) (fqB lo bh) (fqB hi bl) (fqB hi bh)≤fqB x y:=by
 have e:∀ u v,0<v→fqB u v=u * 4294967296 / v:=fun u v hv=>by unfold fqB;rw [if_pos hv]
 rw [e _ _ hb,e _ bh (by omega),e _ _ hb,e _ bh (by omega),e _ y (by omega)]
 have hm:lo * 4294967296≤x * 4294967296:=by omega
 rcases Int.le_total 0 lo with h0 | h0
 ·have:lo * 4294967296 / bh≤x * 4294967296 / y:=ediv_le_of (by omega) (by omega) (by
   have a:=Int.mul_le_mul_of_nonneg_left h4 (show 0≤lo * 4294967296 by omega)
   have b:=Int.mul_le_mul_of_nonneg_right hm (show 0≤bh by omega)
   omega)
  unfold min4;omega
 ·have:lo * 4294967296 / bl≤x * 4294967296 / y:=ediv_le_of (by omega) (by omega) (by
   have a:=Int.mul_le_mul_of_nonpos_left (show lo * 4294967296≤0 by omega) h3
   have b:=Int.mul_le_mul_of_nonneg_right hm (show 0≤bl by omega)
   omega)
  unfold min4;omega
theorem fq_neg (x y:Int) (h:y ≠ 0):fqB x y=fqB (-x) (-y):=by
 unfold fqB;by_cases e:0<y
 ·rw [if_pos e,if_neg (by omega),Int.neg_mul,Int.neg_neg,Int.neg_neg]
 ·rw [if_neg e,if_pos (by omega),Int.neg_mul]
theorem min4_swap (a b c d:Int):min4 a b c d=min4 d c b a:=by unfold min4;omega
theorem fq_all {a b:SpanD} {x y:Int} (h1:a.lo≤x) (h2:x≤a.hi) (h3:b.lo≤y) (h4:y≤b.hi) (hb:¬ (b.lo≤0∧0≤b.hi)) :
  min4 (fqB a.lo b.lo) (fqB a.lo b.hi) (fqB a.hi b.lo) (fqB a.hi b.hi)≤fqB x y:=by
 by_cases h0:0<b.lo
 ·exact fq_pos h1 h3 h4 h0
 ·have h5:b.hi<0:=by omega
  have h:=fq_pos (lo:=-a.hi) (hi:=-a.lo) (bl:=-b.hi) (bh:=-b.lo) (x:=-x) (y:=-y) (by omega) (by omega) (by omega) (by omega)
  rw [← fq_neg _ _ (by omega),← fq_neg _ _ (by omega),← fq_neg _ _ (by omega),← fq_neg _ _ (by omega),← fq_neg _ _ (by omega)] at h
  rw [min4_swap];exact h
theorem cq_all {a b:SpanD} {x y:Int} (h1:a.lo≤x) (h2:x≤a.hi) (h3:b.lo≤y) (h4:y≤b.hi) (hb:¬ (b.lo≤0∧0≤b.hi)) :
  cqB x y≤max4 (cqB a.lo b.lo) (cqB a.lo b.hi) (cqB a.hi b.lo) (cqB a.hi b.hi):=by
 have h:=fq_all (a:=⟨-a.hi,-a.lo⟩) (b:=b) (x:=-x) (y:=y) (by dsimp only;omega) (by dsimp only;omega) h3 h4 hb
 dsimp only at h;unfold cqB max4;unfold min4 at h;omega
theorem fq_cq {x y:Int} (h:y ≠ 0):fqB x y≤cqB x y:=by
 unfold cqB fqB;by_cases e:0<y
 ·rw [if_pos e,if_pos e,Int.neg_mul];have h1:x * 4294967296 / y * y≤x * 4294967296:=Int.ediv_mul_le _ h;have h2:-(x * 4294967296) / y * y≤-(x * 4294967296):=Int.ediv_mul_le _ h;have h3:(x * 4294967296 / y+-(x * 4294967296) / y) * y≤0 * y:=by rw [Int.add_mul];omega
  have:=Int.le_of_mul_le_mul_right h3 e
  omega
 ·rw [if_neg e,if_neg e,Int.neg_mul,Int.neg_neg];have e':0 < -y:=by omega
  have h1:-(x * 4294967296) / -y * -y≤-(x * 4294967296):=Int.ediv_mul_le _ (by omega)
  have h2:x * 4294967296 / -y * -y≤x * 4294967296:=Int.ediv_mul_le _ (by omega)
  have h3:(-(x * 4294967296) / -y+x * 4294967296 / -y) * -y≤0 * -y:=by rw [Int.add_mul];omega
  have:=Int.le_of_mul_le_mul_right h3 e'
  omega
theorem div_ok {a b r:SpanD} (h:divB a b=(r,0)):chkB a=true∧chkB b=true∧¬ (b.lo≤0∧0≤b.hi)∧fitB (min4 (fqB a.lo b.lo) (fqB a.lo b.hi) (fqB a.hi b.lo) (fqB a.hi b.hi)) (max4 (cqB a.lo b.lo) (cqB a.lo b.hi) (cqB a.hi b.lo) (cqB a.hi b.hi))=(r,0):=by
 unfold divB at h;by_cases e:(chkB a && chkB b)=true
 ·rw [if_pos e] at h;rw [Bool.and_eq_true] at e;by_cases e2:b.lo≤0∧0≤b.hi
  ·rw [if_pos e2] at h;exact absurd (congrArg Prod.snd h) (by show ¬ (10:Int)=0;decide)
  ·rw [if_neg e2] at h;exact ⟨e.1,e.2,e2,h⟩
 ·rw [if_neg e] at h;exact absurd (congrArg Prod.snd h) (by show ¬ (2:Int)=0;decide)
theorem div_in {a b:SpanD} (ha:chkB a=true) (hb:chkB b=true) (h0:¬ (b.lo≤0∧0≤b.hi)):divB a b=fitB (min4 (fqB a.lo b.lo) (fqB a.lo b.hi) (fqB a.hi b.lo) (fqB a.hi b.hi)) (max4 (cqB a.lo b.lo) (cqB a.lo b.hi) (cqB a.hi b.lo) (cqB a.hi b.hi)):=by
 unfold divB;rw [ha,hb,if_neg h0];rfl
theorem div_iso:IsoOp divB:=fun {a b a' b' r} ha hb h=>by
 obtain ⟨_,_,h0,h3⟩:=div_ok h;have c1:=(chk_iff.1 ha.1).2.2;have c2:=(chk_iff.1 hb.1).2.2;have hin:=div_in ha.1 hb.1 (by have h5:=hb.2.1;have h6:=hb.2.2.1;omega)
 obtain ⟨_,a1,a2,a3⟩:=ha;obtain ⟨_,b1,b2,b3⟩:=hb;rw [hin];have f:=fun x y h1 h2 h3 h4=>fq_all (a:=a) (b:=b) (x:=x) (y:=y) h1 h2 h3 h4 h0;have g:=fun x y h1 h2 h3 h4=>cq_all (a:=a) (b:=b) (x:=x) (y:=y) h1 h2 h3 h4 h0;refine fit_iso h3 (min4_ge (f _ _ ?_ ?_ ?_ ?_) (f _ _ ?_ ?_ ?_ ?_) (f _ _ ?_ ?_ ?_ ?_) (f _ _ ?_ ?_ ?_ ?_)) (max4_le (g _ _ ?_ ?_ ?_ ?_) (g _ _ ?_ ?_ ?_ ?_) (g _ _ ?_ ?_ ?_ ?_) (g _ _ ?_ ?_ ?_ ?_)) ?_
 all_goals first | omega | skip
 have:=fq_cq (x:=a'.lo) (y:=b'.lo) (by omega)
 unfold min4 max4;omega
/-! Absolute values, squares. -/
theorem abs_iso {a a':SpanD} (h:inS a' a) (ha:chkB a=true):inS (absS a') (absS a):=by
 have c:=chk_iff.1 h.1;have c2:=chk_iff.1 ha;obtain ⟨_,h1,h2,h3⟩:=h;unfold inS absS negS;rw [chk_iff];split <;> split <;> (try split) <;> (try split) <;> (try dsimp only) <;> omega
theorem square_iso {a a' r:SpanD} (ha:inS a' a) (h:squareB a=(r,0)):∃ r',squareB a'=(r',0)∧inS r' r:=by
 unfold squareB at h ⊢;by_cases e:chkB a=true
 ·rw [if_pos e] at h;rw [if_pos ha.1];exact mul_iso (abs_iso ha e) (abs_iso ha e) h
 ·rw [if_neg e] at h;exact absurd (congrArg Prod.snd h) (by show ¬ (2:Int)=0;decide)
/-! Roots. -/
theorem rootK_succ (x k r:Nat):rootK x (k+1) r=rootK x k (if (r+2 ^ k) * (r+2 ^ k)≤x then r+2 ^ k else r):=rfl
theorem rootK_spec (x:Nat):∀ (k r:Nat),r * r≤x→x<(r+2 ^ k) * (r+2 ^ k)→rootK x k r * rootK x k r≤x∧x<(rootK x k r+1) * (rootK x k r+1)
 | 0,r,h1,h2=>⟨h1,h2⟩
 | k+1,r,h1,h2=>by
  rw [rootK_succ];by_cases e:(r+2 ^ k) * (r+2 ^ k)≤x
  ·rw [if_pos e];refine rootK_spec x k _ e ?_
   rw [Nat.add_assoc,show 2 ^ k+2 ^ k=2 ^ (k+1) from by rw [Nat.pow_succ];omega];exact h2
  ·rw [if_neg e];exact rootK_spec x k r h1 (by omega)
theorem rootN_spec {n:Nat} (h:n<9223372036854775808):rootN n * rootN n≤n * 4294967296∧n * 4294967296<(rootN n+1) * (rootN n+1) :=
 rootK_spec _ 49 0 (by omega) (show n * 4294967296<316912650057057350374175801344 by omega)
theorem sq_lt {a b:Nat} (h:a * a<b * b):a<b:=by
 rcases Nat.lt_or_ge a b with h1 | h1
 ·exact h1
 ·have:=Nat.mul_le_mul h1 h1;omega
theorem rootN_mono {m n:Nat} (hmn:m≤n) (h:n<9223372036854775808):rootN m≤rootN n:=by
 have h1:=(rootN_spec (n:=m) (by omega)).1
 have h2:=(rootN_spec h).2;have:rootN m<rootN n+1:=sq_lt (by omega)
 omega
def rootU (n:Nat):Nat:=if rootN n * rootN n=n * 4294967296 then rootN n else rootN n+1
theorem rootU_spec {n:Nat} (h:n<9223372036854775808):n * 4294967296≤rootU n * rootU n∧∀ r,n * 4294967296≤r * r→rootU n≤r:=by
 obtain ⟨h1,h2⟩:=rootN_spec h;unfold rootU;by_cases e:rootN n * rootN n=n * 4294967296
 ·rw [if_pos e];refine ⟨by omega,fun r hr=>?_⟩
  rcases Nat.lt_or_ge r (rootN n) with h3 | h3
  ·have:=Nat.mul_le_mul (show r+1≤rootN n from h3) (show r+1≤rootN n from h3)
   have e2:(r+1) * (r+1)=r * r+r+r+1:=by rw [Nat.add_mul,Nat.mul_add];omega
   omega
  ·exact h3
 ·rw [if_neg e];refine ⟨by omega,fun r hr=>?_⟩
  have:rootN n<r:=sq_lt (by omega)
  omega
theorem rootU_mono {m n:Nat} (hmn:m≤n) (h:n<9223372036854775808):rootU m≤rootU n :=
 (rootU_spec (n:=m) (by omega)).2 _ (Nat.le_trans (Nat.mul_le_mul_right 4294967296 hmn) (rootU_spec h).1)
theorem rootU_le {n:Nat} (h:n<9223372036854775808):rootN n≤rootU n∧rootU n≤281474976710656:=by
 obtain ⟨h1,h2⟩:=rootN_spec h;have h3:=(rootU_spec h).2 281474976710656 (show n * 4294967296≤79228162514264337593543950336 by omega)
 refine ⟨?_,h3⟩
 unfold rootU;split <;> omega
theorem root_eq (a:SpanD):rootB a=if chkB a then (if a.hi<0 then (zeroS,4) else (⟨rootN (max a.lo 0).toNat,rootU a.hi.toNat⟩,0)) else (zeroS,2):=by
 unfold rootB rootU;by_cases h:chkB a=true
 ·rw [if_pos h,if_pos h];by_cases h2:a.hi<0
  ·rw [if_pos h2,if_pos h2]
  ·rw [if_neg h2,if_neg h2];by_cases e:rootN a.hi.toNat * rootN a.hi.toNat=a.hi.toNat * 4294967296
   ·rw [if_pos e,if_pos e]
   ·rw [if_neg e,if_neg e];rfl
 ·rw [if_neg h,if_neg h]
theorem root_iso {a a' r:SpanD} (ha:inS a' a) (h0:0≤a'.hi) (h:rootB a=(r,0)):∃ r',rootB a'=(r',0)∧inS r' r:=by
 rw [root_eq] at h ⊢;by_cases e:chkB a=true
 ·rw [if_pos e] at h;rw [if_pos ha.1];have c:=chk_iff.1 ha.1;obtain ⟨_,a1,a2,hw⟩:=ha;by_cases e2:a.hi<0
  ·omega
  ·rw [if_neg e2] at h;have hr:=(congrArg Prod.fst h).symm;dsimp only at hr;subst hr;have u1:=(rootU_le (n:=a.hi.toNat) (by omega)).2
   refine ⟨_,by rw [if_neg (by omega)],?_,?_,?_,?_⟩
   ·rw [chk_iff];dsimp only;have m1:=rootN_mono (m:=(max a'.lo 0).toNat) (n:=a'.hi.toNat) (by omega) (by omega)
    have m2:=(rootU_le (n:=a'.hi.toNat) (by omega)).1
    omega
   ·dsimp only;have:=rootN_mono (m:=(max a.lo 0).toNat) (n:=(max a'.lo 0).toNat) (by omega) (by omega)
    omega
   ·dsimp only;have:=rootU_mono (m:=a'.hi.toNat) (n:=a.hi.toNat) (by omega) (by omega)
    omega
   ·dsimp only;omega
 ·rw [if_neg e] at h;exact absurd (congrArg Prod.snd h) (by show ¬ (2:Int)=0;decide)

def CM (α:Type):Type:=Int→α × Int
def CM.ret {α:Type} (a:α):CM α:=fun e=>(a,e)
def CM.bnd {α β:Type} (m:CM α) (k:α→CM β):CM β:=fun e=>k (m e).1 (m e).2
def Sticky {α:Type} (m:CM α):Prop:=∀ e,e ≠ 0→(m e).2=e
def IsoM {α:Type} (R:α→α→Prop) (m' m:CM α):Prop:=∀ r,m 0=(r,0)→∃ r',m' 0=(r',0)∧R r' r
theorem Sticky.ret {α:Type} (a:α):Sticky (CM.ret a):=fun _ _=>rfl
theorem Sticky.bnd {α β:Type} {m:CM α} {k:α→CM β} (hm:Sticky m) (hk:∀ a,Sticky (k a)):Sticky (m.bnd k):=fun e he=>by
 show (k (m e).1 (m e).2).2=e
 rw [hm e he];exact hk _ e he
theorem IsoM.ret {α:Type} {R:α→α→Prop} {a' a:α} (h:R a' a):IsoM R (CM.ret a') (CM.ret a):=fun r hr=>by
 have e:a=r:=congrArg Prod.fst hr;subst e;exact ⟨a',rfl,h⟩
theorem IsoM.bnd {α β:Type} {R:α→α→Prop} {S:β→β→Prop} {m' m:CM α} {k' k:α→CM β} (hm:IsoM R m' m) (hk:∀ a' a,R a' a→IsoM S (k' a') (k a)) (hs:∀ a,Sticky (k a)):IsoM S (m'.bnd k') (m.bnd k):=fun r hr=>by
 have h0:(m 0).2=0:=by
  rcases Classical.em ((m 0).2=0) with h | h
  ·exact h
  ·have h2:=hs (m 0).1 (m 0).2 h;have h3:(k (m 0).1 (m 0).2).2=0:=congrArg Prod.snd hr;rw [h2] at h3;exact absurd h3 h
 obtain ⟨a',e',hR⟩:=hm (m 0).1 (Prod.ext rfl h0);have h5:k (m 0).1 (m 0).2=(r,0):=hr;have h4:k (m 0).1 0=(r,0):=by rw [h0] at h5;exact h5
 obtain ⟨r',e2,hS⟩:=hk a' _ hR r h4;refine ⟨r',?_,hS⟩
 show k' (m' 0).1 (m' 0).2=(r',0)
 rw [e'];exact e2
def doM (f:SpanD→SpanD→SpanD × Int) (a b:SpanD):CM SpanD:=fun e=>if e=0 then f a b else (zeroS,e)
def keepM (r:SpanD × Int):CM SpanD:=fun e=>if e=0 then r else (zeroS,e)
theorem doM_sticky (f:SpanD→SpanD→SpanD × Int) (a b:SpanD):Sticky (doM f a b):=fun e he=>by unfold doM;rw [if_neg he]
theorem keepM_sticky (r:SpanD × Int):Sticky (keepM r):=fun e he=>by unfold keepM;rw [if_neg he]
theorem doM_iso {f:SpanD→SpanD→SpanD × Int} (hf:IsoOp f) {a b a' b':SpanD} (ha:inS a' a) (hb:inS b' b):IsoM inS (doM f a' b') (doM f a b):=fun r hr=>by
 unfold doM at hr ⊢;rw [if_pos rfl] at hr ⊢;exact hf ha hb hr
def addM:=doM addB
def subM:=doM subB
def mulM:=doM mulB
def divM:=doM divB
/-! Boxes. -/
structure BoxD where
 x:SpanD
 y:SpanD
 z:SpanD
deriving DecidableEq
def BoxD.map2 (R:SpanD→SpanD→Prop) (a b:BoxD):Prop:=R a.x b.x∧R a.y b.y∧R a.z b.z
def inBox (a b:BoxD):Prop:=BoxD.map2 inS a b
def allBox (s:SpanD):BoxD:=⟨s,s,s⟩
def eachM (f:SpanD→SpanD→CM SpanD) (a b:BoxD):CM BoxD:=(f a.x b.x).bnd fun x=>(f a.y b.y).bnd fun y=>(f a.z b.z).bnd fun z=>CM.ret ⟨x,y,z⟩
def byM (f:SpanD→SpanD→CM SpanD) (a:SpanD) (b:BoxD):CM BoxD:=eachM f (allBox a) b
theorem eachM_sticky {f:SpanD→SpanD→CM SpanD} (hf:∀ a b,Sticky (f a b)) (a b:BoxD):Sticky (eachM f a b) :=
 Sticky.bnd (hf _ _) fun _=>Sticky.bnd (hf _ _) fun _=>Sticky.bnd (hf _ _) fun _=>Sticky.ret _
theorem eachM_iso {f:SpanD→SpanD→CM SpanD} (hf:∀ {a b a' b'},inS a' a→inS b' b→IsoM inS (f a' b') (f a b)) (hs:∀ a b,Sticky (f a b)) {a b a' b':BoxD} (ha:inBox a' a) (hb:inBox b' b):IsoM inBox (eachM f a' b') (eachM f a b) :=
 IsoM.bnd (hf ha.1 hb.1) (fun _ _ h1=>IsoM.bnd (hf ha.2.1 hb.2.1) (fun _ _ h2=>IsoM.bnd (hf ha.2.2 hb.2.2) (fun _ _ h3=>IsoM.ret ⟨h1,h2,h3⟩) fun _=>Sticky.ret _) fun _=>Sticky.bnd (hs _ _) fun _=>Sticky.ret _)
  fun _=>Sticky.bnd (hs _ _) fun _=>Sticky.bnd (hs _ _) fun _=>Sticky.ret _
theorem addM_iso {a b a' b':SpanD} (ha:inS a' a) (hb:inS b' b):IsoM inS (addM a' b') (addM a b):=doM_iso add_iso ha hb
theorem subM_iso {a b a' b':SpanD} (ha:inS a' a) (hb:inS b' b):IsoM inS (subM a' b') (subM a b):=doM_iso sub_iso ha hb
theorem mulM_iso {a b a' b':SpanD} (ha:inS a' a) (hb:inS b' b):IsoM inS (mulM a' b') (mulM a b):=doM_iso mul_iso ha hb
theorem divM_iso {a b a' b':SpanD} (ha:inS a' a) (hb:inS b' b):IsoM inS (divM a' b') (divM a b):=doM_iso div_iso ha hb
theorem inBox.all {a b:SpanD} (h:inS a b):inBox (allBox a) (allBox b):=⟨h,h,h⟩
/-! What flies. -/
structure PlanetD where
 mu:SpanD
 radius:SpanD
 oblate:SpanD
 spin:SpanD
 pull:BoxD
structure PointD where
 at_:Int
 value:SpanD
structure ArcD where
 time:Int
 step:Int
 thrust:SpanD
 flow:SpanD
 dir:BoxD
 drag:List PointD
 drop:SpanD
structure StateD where
 t:Int
 p:BoxD
 v:BoxD
 m:SpanD
structure TubeD where
 frm:Int
 to:Int
 p:BoxD
 v:BoxD
 m:SpanD
def wholeS (n:Int):SpanD:=ptS (n * 4294967296)
structure SixD where
 p:BoxD
 v:BoxD
deriving DecidableEq
def inSix (a b:SixD):Prop:=inBox a.p b.p∧inBox a.v b.v
def reachedM (x:SixD) (d:SpanD) (v force:BoxD):CM SixD:=(byM mulM d v).bnd fun dv=>(eachM addM x.p dv).bnd fun p=>(byM mulM d force).bnd fun df=>(eachM addM x.v df).bnd fun v2=>CM.ret ⟨p,v2⟩
end Go.Proofs.YtmkoegljnebdiaaGreat
namespace Go.Proofs.YtmkoegljnebdiaaGreat
open Go.RowKit
set_option maxRecDepth 100000
set_option maxHeartbeats 16000000

def I64 (n:Int):Prop:=-9223372036854775808≤n∧n≤9223372036854775807
def U64 (n:Int):Prop:=0≤n∧n≤18446744073709551615
def sizeI (n:Int):Int:=if n<0 then -n else n
def bigV (neg:Bool) (hi lo:Int):Value:=.agg #[.bool neg,.int .u64 hi,.int .u64 lo]
def spanV (a:SpanD):Value:=.agg #[.int .i64 a.lo,.int .i64 a.hi]

theorem u_big:Tryz.prog.underlying 217=some (.struct (match Tryz.prog.underlying 217 with | some (.struct f)=>f | _=>#[])):=by kernel_rfl
theorem i_big:(Tryz.prog.info? 217).map (·.size)=some 3:=by kernel_rfl
theorem u_span:Tryz.prog.underlying 31=some (.struct (match Tryz.prog.underlying 31 with | some (.struct f)=>f | _=>#[])):=by kernel_rfl
theorem i_span:(Tryz.prog.info? 31).map (·.size)=some 2:=by kernel_rfl
theorem splA_all (cs S:Array Value) (h:cs.size=S.size):splA cs 0 S.toList=S:=by
 apply Array.ext_getElem?
 intro i;rw [splA_get _ _ _ _ (by simp [h])]
 by_cases hi:i<S.size
 ·rw [if_pos ⟨Nat.zero_le _,by simpa using hi⟩];simp
 ·rw [if_neg (by simp;omega),Array.getElem?_eq_none (by omega),Array.getElem?_eq_none (by omega)]
theorem one3 (n:Bool) (hi lo:Int):∀ u ∈ (#[Value.bool n,.int .u64 hi,.int .u64 lo]:Array Value).toList,u.oneCell'=true:=by
 intro u hu;simp at hu;rcases hu with rfl | rfl | rfl <;> rfl
theorem one2 (lo hi:Int):∀ u ∈ (#[Value.int .i64 lo,.int .i64 hi]:Array Value).toList,u.oneCell'=true:=by
 intro u hu;simp at hu;rcases hu with rfl | rfl <;> rfl
theorem ret_big {fn:Func} {p:Tmp} (h:fn.results=#[.cell p 217]) {a:Act} (ha:a.defers=[]) {w:World} {g:Nat} {n:Bool} {hi lo:Int} {Q:Ending→World→Prop}
  (hp:a.tmps.getD p undef=.pointer (some ⟨g,0,none⟩)) (hk:Bk w g 217 #[.bool n,.int .u64 hi,.int .u64 lo]) (hQ:Q (.returned (bigV n hi lo)) w):bodyPost Tryz.prog fn Q .ret a w :=
 bodyPost_ret (v:=bigV n hi lo) (results_cellS h _ _ g 217 #[.bool n,.int .u64 hi,.int .u64 lo] _ hp hk u_big rfl i_big) ha hQ

theorem valid_any (n:Int) (w:World):Calls Tryz.prog 134 #[.int .i64 n] w fun e w'=>e=.returned (.bool (numB n))∧w'=w:=by
 have HR:Hid (numB n=decide (-9223372036854775807≤n)):=hZ rfl;go_enter Tryz.func134,Tryz.ntmps134;go_wp2_with fail
 go_ret
 exact ⟨ret_bool HR.out.symm,rfl⟩
theorem size_any (n:Int) (h:I64 n) (w:World):Calls Tryz.prog 172 #[.int .i64 n] w fun e w'=>e=.returned (.int .u64 (sizeI n))∧w'=w:=by
 have HI:=hZ h;by_cases hn:n<0
 ·have HR:Hid (sizeI n=-n):=hZ (if_pos hn);have g:decide (n<0)=true:=decide_eq_true hn;clear h hn;go_enter Tryz.func172,Tryz.ntmps172;go_wp2_with fail
  go_ret
  refine ⟨ret_int ?_,rfl⟩
  rw [HR.out];obtain ⟨a,b⟩:=HI.out;have:=of_decide_eq_true g
  simp only [IntKind.wrap_u64];omega
 ·have HR:Hid (sizeI n=n):=hZ (if_neg hn);have g:decide (n<0)=false:=decide_eq_false hn;clear h hn;go_enter Tryz.func172,Tryz.ntmps172;go_wp2_with fail
  go_ret
  refine ⟨ret_int ?_,rfl⟩
  rw [HR.out];obtain ⟨a,b⟩:=HI.out;have:=of_decide_eq_false g
  simp only [IntKind.wrap_u64];omega
theorem of_any (n:Int) (h:I64 n) (w:World):Calls Tryz.prog 130 #[.int .i64 n] w fun e w'=>e=.returned (bigV (decide (n<0)) 0 (sizeI n))∧Below w.heap.size w w':=by
 have H1:=fun w=>hZ (size_any n h w);clear h;go_enter Tryz.func130,Tryz.ntmps130;go_wp2_with fail
 refine (H1 _).out.mono ?_
 rintro e w' ⟨rfl,rfl⟩;go_wp2_with fail
 exact ret_big rfl rfl rfl (Bk.new _ _ _) ⟨rfl,(Below.refl _ w).alloc (Nat.le_refl _) _⟩
theorem zero_any (n:Bool) (hi lo:Int) (w:World):Calls Tryz.prog 179 #[bigV n hi lo] w fun e w'=>e=.returned (.bool (decide (hi=0) && decide (lo=0)))∧Below w.heap.size w w':=by
 unfold bigV;by_cases h1:hi=0
 ·by_cases h2:lo=0
  ·subst h1 h2;go_enter Tryz.func179,Tryz.ntmps179;go_wp2_with fail
   go_ret
   exact ⟨ret_bool rfl,(Below.refl _ w).alloc (Nat.le_refl _) _⟩
  ·subst h1;have g2:decide (lo=0)=false:=decide_eq_false h2;have g2':(lo == 0)=false:=by simpa using h2
   go_enter Tryz.func179,Tryz.ntmps179;go_wp2_with fail
   go_ret
   exact ⟨ret_bool (by simp [g2]),(Below.refl _ w).alloc (Nat.le_refl _) _⟩
 ·have g2:decide (hi=0)=false:=decide_eq_false h1;have g2':(hi == 0)=false:=by simpa using h1
  go_enter Tryz.func179,Tryz.ntmps179;go_wp2_with fail
  go_ret
  exact ⟨ret_bool (by simp [g2]),(Below.refl _ w).alloc (Nat.le_refl _) _⟩
theorem below_any (n:Bool) (hi lo:Int) (w:World):Calls Tryz.prog 190 #[bigV n hi lo] w fun e w'=>e=.returned (.bool (n && !(decide (hi=0) && decide (lo=0))))∧Below w.heap.size w w':=by
 have H1:=fun w=>hZ (zero_any n hi lo w);obtain ⟨z,hz⟩:∃ z,(decide (hi=0) && decide (lo=0))=z:=⟨_,rfl⟩;rw [hz] at H1 ⊢;clear hz;unfold bigV at H1 ⊢;cases n
 ·go_enter Tryz.func190,Tryz.ntmps190;go_wp2_with fail
  go_ret
  exact ⟨ret_bool rfl,(Below.refl _ w).alloc (Nat.le_refl _) _⟩
 ·go_enter Tryz.func190,Tryz.ntmps190;go_wp2_with fail
  refine (H1 _).out.mono ?_
  rintro e w' ⟨rfl,hb⟩;go_wp2_with fail
  go_ret
  exact ⟨ret_bool (by simp),((Below.refl _ w).alloc (Nat.le_refl _) _).trans (hb.mono (by simp))⟩

def bigN (n:Bool) (m:Int):Value:=bigV n (m / 18446744073709551616) (m % 18446744073709551616)
def valI (n:Bool) (m:Int):Int:=if n=true then -m else m
theorem add64_run (x y c:Int) (hx:0≤x) (hy:0≤y) (hc0:0≤c) (hc:c≤1) (w:World) :
  (callFunc 170 #[.int .u64 x,.int .u64 y,.int .u64 c]).run Tryz.prog w=.ok (.value (.tuple #[.int .u64 ((x+y+c) % 18446744073709551616),.int .u64 ((x+y+c) / 18446744073709551616)])) w:=by
 rw [run_callFunc_extern Tryz.func170 (by kernel_rfl) (by kernel_rfl) (by kernel_rfl) (e:=add64Entry) (by kernel_rfl),run_add64 x y c hx hy hc0 hc];rfl
theorem sub64_run (x y b:Int) (hx:0≤x) (hy:0≤y) (hyu:y≤18446744073709551615) (hb0:0≤b) (hb:b≤1) (w:World) :
  (callFunc 171 #[.int .u64 x,.int .u64 y,.int .u64 b]).run Tryz.prog w=.ok (.value (.tuple #[.int .u64 ((x - y - b) % 18446744073709551616),.int .u64 (if x<y+b then 1 else 0)])) w:=by
 obtain ⟨xn,rfl⟩:=Int.eq_ofNat_of_zero_le hx;obtain ⟨yn,rfl⟩:=Int.eq_ofNat_of_zero_le hy;obtain ⟨bn,rfl⟩:=Int.eq_ofNat_of_zero_le hb0;rw [run_callFunc_extern Tryz.func171 (by kernel_rfl) (by kernel_rfl) (by kernel_rfl) (e:=sub64Entry) (by kernel_rfl),run_sub64 xn yn bn (by omega)]
 have e1:(((xn+18446744073709551616 - yn - bn) % 18446744073709551616:Nat):Int)=((xn:Int) - (yn:Int) - (bn:Int)) % 18446744073709551616:=by omega
 have e2:((if xn<yn+bn then 1 else 0:Nat):Int)=if (xn:Int)<(yn:Int)+(bn:Int) then 1 else 0:=by
  by_cases h:xn<yn+bn
  ·rw [if_pos h,if_pos (by omega)];rfl
  ·rw [if_neg h,if_neg (by omega)];rfl
 rw [e1,e2];rfl
theorem plus_same (n:Bool) (h1 l1 h2 l2:Int) (b1:U64 h1) (b2:U64 l1) (b3:U64 h2) (b4:U64 l2) (w:World) :
  Calls Tryz.prog 129 #[bigV n h1 l1,bigV n h2 l2] w fun e w'=>e=.returned (bigV n ((h1+h2+(l1+l2) / 18446744073709551616) % 18446744073709551616) ((l1+l2) % 18446744073709551616))∧Below w.heap.size w w':=by
 obtain ⟨b1,b1'⟩:=b1;obtain ⟨b2,b2'⟩:=b2;obtain ⟨b3,b3'⟩:=b3;obtain ⟨b4,b4'⟩:=b4;have e1:=fun w=>add64_run l1 l2 0 b2 b4 (by decide) (by decide) w
 rw [Int.add_zero] at e1;obtain ⟨c,hc⟩:=eX ((l1+l2) / 18446744073709551616);obtain ⟨lo,hlo⟩:=eX ((l1+l2) % 18446744073709551616);rw [hc,hlo] at e1;rw [hc,hlo];have e2:=fun w=>add64_run h1 h2 c b1 b3 (by omega) (by omega) w
 clear hc hlo b1 b1' b2 b2' b3 b3' b4 b4';unfold bigV;go_enter Tryz.func129,Tryz.ntmps129;go_wp2_with fail
 exact ret_big rfl rfl rfl (Bk.newAt _ _ _ _ (by simp)) ⟨rfl,(((Below.refl _ w).alloc (Nat.le_refl _) _).alloc (by simp) _).alloc (by simp;omega) _⟩
theorem plus_other (n:Bool) (h1 l1 h2 l2:Int) (b1:U64 h1) (b2:U64 l1) (b3:U64 h2) (b4:U64 l2) (w:World) :
  Calls Tryz.prog 129 #[bigV n h1 l1,bigV (!n) h2 l2] w fun e w'=>e=.returned (if h1<h2 ∨ h1=h2∧l1<l2 then bigV (!n) ((h2 - h1 - if l2<l1 then 1 else 0) % 18446744073709551616) ((l2 - l1) % 18446744073709551616)
   else bigV n ((h1 - h2 - if l1<l2 then 1 else 0) % 18446744073709551616) ((l1 - l2) % 18446744073709551616))∧Below w.heap.size w w':=by
 obtain ⟨b1,b1'⟩:=b1;obtain ⟨b2,b2'⟩:=b2;obtain ⟨b3,b3'⟩:=b3;obtain ⟨b4,b4'⟩:=b4;have g0:(n == !n)=false:=by cases n <;> rfl
 by_cases hs:h1<h2 ∨ h1=h2∧l1<l2
 ·rw [if_pos hs];have e1:=fun w=>sub64_run l2 l1 0 b4 b2 b2' (by decide) (by decide) w
  rw [Int.add_zero,Int.sub_zero] at e1;obtain ⟨c,hc⟩:=eX (if l2<l1 then (1:Int) else 0);obtain ⟨lo,hlo⟩:=eX ((l2 - l1) % 18446744073709551616);rw [hc,hlo] at e1;rw [hc,hlo];have c0:0≤c:=by rw [← hc];split <;> decide
  have c1:c≤1:=by rw [← hc];split <;> decide
  have e2:=fun w=>sub64_run h2 h1 c b3 b1 b1' c0 c1 w;obtain ⟨c2,hc2⟩:=eX (if h2<h1+c then (1:Int) else 0);rw [hc2] at e2;clear hc2 hc hlo b1' b2' b3' b4' c0 c1 b1 b2 b3 b4;by_cases g:h1<h2
  ·have g1:decide (h1<h2)=true:=decide_eq_true g;clear hs;unfold bigV;go_enter Tryz.func129,Tryz.ntmps129;go_wp2_with fail
   exact ret_big rfl rfl rfl (Bk.newAt _ _ _ _ (by simp)) ⟨rfl,(((Below.refl _ w).alloc (Nat.le_refl _) _).alloc (by simp) _).alloc (by simp;omega) _⟩
  ·have g1:decide (h1<h2)=false:=decide_eq_false g;have g2:(h1 == h2)=true:=by simp;omega
   have g3:decide (l1<l2)=true:=decide_eq_true (by omega)
   clear hs;unfold bigV;go_enter Tryz.func129,Tryz.ntmps129;go_wp2_with fail
   exact ret_big rfl rfl rfl (Bk.newAt _ _ _ _ (by simp)) ⟨rfl,(((Below.refl _ w).alloc (Nat.le_refl _) _).alloc (by simp) _).alloc (by simp;omega) _⟩
 ·rw [if_neg hs];have e1:=fun w=>sub64_run l1 l2 0 b2 b4 b4' (by decide) (by decide) w
  rw [Int.add_zero,Int.sub_zero] at e1;obtain ⟨c,hc⟩:=eX (if l1<l2 then (1:Int) else 0);obtain ⟨lo,hlo⟩:=eX ((l1 - l2) % 18446744073709551616);rw [hc,hlo] at e1;rw [hc,hlo];have c0:0≤c:=by rw [← hc];split <;> decide
  have c1:c≤1:=by rw [← hc];split <;> decide
  have e2:=fun w=>sub64_run h1 h2 c b1 b3 b3' c0 c1 w;obtain ⟨c2,hc2⟩:=eX (if h1<h2+c then (1:Int) else 0);rw [hc2] at e2;clear hc2 hc hlo b1' b2' b3' b4' c0 c1 b1 b2 b3 b4;have g1:decide (h1<h2)=false:=decide_eq_false (by omega)
  by_cases g:h1=h2
  ·have g2:(h1 == h2)=true:=by simp;omega
   have g3:decide (l1<l2)=false:=decide_eq_false (by omega)
   clear hs g;unfold bigV;go_enter Tryz.func129,Tryz.ntmps129;go_wp2_with fail
   exact ret_big rfl rfl rfl (Bk.newAt _ _ _ _ (by simp)) ⟨rfl,(((Below.refl _ w).alloc (Nat.le_refl _) _).alloc (by simp) _).alloc (by simp;omega) _⟩
  ·have g2:(h1 == h2)=false:=by simp;omega
   clear hs;unfold bigV;go_enter Tryz.func129,Tryz.ntmps129;go_wp2_with fail
   exact ret_big rfl rfl rfl (Bk.newAt _ _ _ _ (by simp)) ⟨rfl,(((Below.refl _ w).alloc (Nat.le_refl _) _).alloc (by simp) _).alloc (by simp;omega) _⟩
def IsBig (u:Value) (v:Int):Prop:=∃ n m,u=bigN n m∧0≤m∧valI n m=v
theorem val_size {n:Bool} {m v:Int} (h0:0≤m) (h:valI n m=v):m=v∧0≤v ∨ m=-v∧v≤0:=by
 subst h;unfold valI;cases n
 ·exact Or.inl ⟨rfl,h0⟩
 ·exact Or.inr ⟨by rw [if_pos rfl];omega,by rw [if_pos rfl];omega⟩
theorem bigV_isN {n:Bool} {m hi lo:Int} (h1:hi=m / 18446744073709551616) (h2:lo=m % 18446744073709551616):bigV n hi lo=bigN n m:=by subst h1 h2;rfl
def S127 (v:Int):Prop:=-170141183460469231731687303715884105728<v∧v<170141183460469231731687303715884105728
theorem plus_any {a b:Value} {v1 v2:Int} (ha:IsBig a v1) (hb:IsBig b v2) (h1:S127 v1) (h2:S127 v2) (w:World) :
  Calls Tryz.prog 129 #[a,b] w fun e w'=>∃ r,e=.returned r∧IsBig r (v1+v2)∧Below w.heap.size w w':=by
 obtain ⟨n1,m1,rfl,p1,q1⟩:=ha;obtain ⟨n2,m2,rfl,p2,q2⟩:=hb;have s1:=val_size p1 q1;have s2:=val_size p2 q2;obtain ⟨h1a,h1b⟩:=h1;obtain ⟨h2a,h2b⟩:=h2;by_cases e:n2=n1
 ·subst e;refine (plus_same n2 _ _ _ _ ⟨?_,?_⟩ ⟨?_,?_⟩ ⟨?_,?_⟩ ⟨?_,?_⟩ w).mono ?_
  rotate_right
  ·rintro e w' ⟨rfl,hb⟩;refine ⟨_,rfl,⟨n2,m1+m2,bigV_isN (by omega) (by omega),by omega,?_⟩,hb⟩
   rw [← q1,← q2];unfold valI;split <;> omega
  all_goals omega
 ·obtain rfl:n2=!n1:=by cases n1 <;> cases n2 <;> simp_all
  refine (plus_other n1 _ _ _ _ ⟨?_,?_⟩ ⟨?_,?_⟩ ⟨?_,?_⟩ ⟨?_,?_⟩ w).mono ?_
  rotate_right
  ·rintro e w' ⟨rfl,hb⟩;refine ⟨_,rfl,?_,hb⟩
   rw [← q1,← q2];by_cases g:m1<m2
   ·rw [if_pos (by omega)]
    refine ⟨!n1,m2 - m1,bigV_isN ?_ (by omega),by omega,?_⟩
    ·split <;> omega
    ·unfold valI;cases n1 <;> simp <;> omega
   ·rw [if_neg (by omega)]
    refine ⟨n1,m1 - m2,bigV_isN ?_ (by omega),by omega,?_⟩
    ·split <;> omega
    ·unfold valI;cases n1 <;> simp <;> omega
  all_goals omega
theorem of_big {n:Int} (_:I64 n):IsBig (bigV (decide (n<0)) 0 (sizeI n)) n:=by
 refine ⟨decide (n<0),sizeI n,bigV_isN ?_ ?_,?_,?_⟩ <;> (unfold I64 at *;unfold sizeI)
 ·split <;> omega
 ·split <;> omega
 ·split <;> omega
 ·unfold valI;simp only [decide_eq_true_eq];split <;> omega

theorem big_bel {n:Bool} {m:Int} (h0:0≤m):(n && !(decide (m / 18446744073709551616=0) && decide (m % 18446744073709551616=0)))=decide (valI n m<0):=by
 unfold valI;cases n
 ·have:¬ (m<0):=by omega
  simp [this]
 ·by_cases e:m=0
  ·subst e;simp
  ·have h1:-m<0:=by omega
   have h2:¬ (m / 18446744073709551616=0∧m % 18446744073709551616=0):=by omega
   rw [if_pos rfl,decide_eq_true h1];by_cases e1:m / 18446744073709551616=0
   ·rw [decide_eq_true e1,decide_eq_false (by omega)];rfl
   ·rw [decide_eq_false e1];rfl
theorem less_any {a b:Value} {v1 v2:Int} (ha:IsBig a v1) (hb:IsBig b v2) (w:World) :
  Calls Tryz.prog 176 #[a,b] w fun e w'=>e=.returned (.bool (decide (v1<v2)))∧Below w.heap.size w w':=by
 obtain ⟨n1,m1,rfl,p1,q1⟩:=ha;obtain ⟨n2,m2,rfl,p2,q2⟩:=hb;have H1:=fun w=>hZ (below_any n1 (m1 / 18446744073709551616) (m1 % 18446744073709551616) w);have H2:=fun w=>hZ (below_any n2 (m2 / 18446744073709551616) (m2 % 18446744073709551616) w);simp only [big_bel p1] at H1;simp only [big_bel p2] at H2;rw [q1] at H1;rw [q2] at H2;have s1:=val_size p1 q1;have s2:=val_size p2 q2;unfold bigN;obtain ⟨h1,hh1⟩:=eX (m1 / 18446744073709551616);obtain ⟨l1,hl1⟩:=eX (m1 % 18446744073709551616);obtain ⟨h2,hh2⟩:=eX (m2 / 18446744073709551616);obtain ⟨l2,hl2⟩:=eX (m2 % 18446744073709551616);simp only [hh1,hl1] at H1 ⊢;simp only [hh2,hl2] at H2 ⊢;unfold bigV at H1 H2 ⊢;obtain ⟨R,hR⟩:=eX (decide (v1<v2));rw [hR];obtain ⟨t1,ht1⟩:=eX (decide (v1<0));obtain ⟨t2,ht2⟩:=eX (decide (v2<0));rw [ht1] at H1;rw [ht2] at H2;obtain ⟨W0,hW0⟩:=eX ((w.alloc (.cells #[.bool n1,.int .u64 h1,.int .u64 l1] 217)).alloc (.cells #[.bool n2,.int .u64 h2,.int .u64 l2] 217));obtain ⟨qb,hqb⟩:=eX w.heap.size;have HKA:Hid (Bk W0 qb 217 #[.bool n1,.int .u64 h1,.int .u64 l1]):=hZ (by rw [← hW0,← hqb];exact (Bk.new _ _ _).alloc _)
 have HKB:Hid (Bk W0 (qb+1) 217 #[.bool n2,.int .u64 h2,.int .u64 l2]):=hZ (by rw [← hW0,← hqb];exact Bk.newAt _ _ _ _ (by simp))
 have HB0:Hid (Below qb w W0):=hZ (by rw [← hW0,← hqb];exact ((Below.refl _ w).alloc (Nat.le_refl _) _).alloc (by simp) _)
 have HCA:=fun w' (hb:Below W0.heap.size W0 w')=>HKA.out.below hb HKA.out.lt;have HCB:=fun w' (hb:Below W0.heap.size W0 w')=>HKB.out.below hb HKB.out.lt;have HCA:=hZ HCA;have HCB:=hZ HCB;rw [hqb];have HQ:Hid (w.heap.size=qb):=hZ hqb;cases t1 <;> cases t2
 ·have k1:=of_decide_eq_false ht1;have k2:=of_decide_eq_false ht2;have HR:Hid ((decide (h1<h2)=true∧R=true) ∨ (decide (h1<h2)=false∧(h1 == h2)=false∧R=false) ∨ (decide (h1<h2)=false∧(h1 == h2)=true∧decide (l1<l2)=R)):=hZ (by
   have e1:m1=v1:=by omega
   have e2:m2=v2:=by omega
   by_cases g:h1<h2
   ·exact Or.inl ⟨decide_eq_true g,by rw [← hR];exact decide_eq_true (by omega)⟩
   ·by_cases g2:h1=h2
    ·refine Or.inr (Or.inr ⟨decide_eq_false g,by simp;omega,?_⟩)
     have:decide (l1<l2)=R:=by rw [← hR];exact decide_eq_decide.2 (by omega)
     exact this
    ·exact Or.inr (Or.inl ⟨decide_eq_false g,by simp;omega,by rw [← hR];exact decide_eq_false (by omega)⟩))
  clear k1 k2;clear ht1 ht2 hR hh1 hh2 hl1 hl2 s1 s2 p1 p2 q1 q2;go_enter Tryz.func176,Tryz.ntmps176;go_upto_region 1 with (fail);have c0:∀ y:Ext W0,y.w.cell? ⟨qb,0,none⟩=some (.bool n1):=Ext.cell (HKA.out.cell 0);have c1:∀ y:Ext W0,y.w.cell? ⟨qb,1,none⟩=some (.int .u64 h1):=Ext.cell (HKA.out.cell 1);have c2:∀ y:Ext W0,y.w.cell? ⟨qb,2,none⟩=some (.int .u64 l1):=Ext.cell (HKA.out.cell 2);have d0:∀ y:Ext W0,y.w.cell? ⟨qb+1,0,none⟩=some (.bool n2):=Ext.cell (HKB.out.cell 0);have d1:∀ y:Ext W0,y.w.cell? ⟨qb+1,1,none⟩=some (.int .u64 h2):=Ext.cell (HKB.out.cell 1);have d2:∀ y:Ext W0,y.w.cell? ⟨qb+1,2,none⟩=some (.int .u64 l2):=Ext.cell (HKB.out.cell 2);have H1x:=hZ (fun z:Ext W0=>(H1 z.w).out);have H2x:=hZ (fun z:Ext W0=>(H2 z.w).out);clear hW0;refine wp_region_ext_quiet (by kernel_rfl) (by kernel_rfl) ?_
  repeat (go_big_quiet_step ((go_at_call 190;first | with_reducible exact Ext.calls (H1x.out _) | with_reducible exact Ext.calls (H2x.out _))))
  refine wpQuiet_nil ?_
  intro w5 hw5;have HL5:Hid (qb≤w5.heap.size):=hZ (Nat.le_trans (Nat.le_of_lt HKA.out.lt) hw5.size);have HB5:Hid (Below qb w w5):=hZ (HB0.out.trans (hw5.mono (Nat.le_of_lt HKA.out.lt)));have hka:=HCA.out w5 hw5;have hkb:=HCB.out w5 hw5;have e0:w5.cell? ⟨qb,0,none⟩=some (.bool n1):=hka.cell 0;have e1:w5.cell? ⟨qb,1,none⟩=some (.int .u64 h1):=hka.cell 1;have e2:w5.cell? ⟨qb,2,none⟩=some (.int .u64 l1):=hka.cell 2;have f0:w5.cell? ⟨qb+1,0,none⟩=some (.bool n2):=hkb.cell 0;have f1:w5.cell? ⟨qb+1,1,none⟩=some (.int .u64 h2):=hkb.cell 1;have f2:w5.cell? ⟨qb+1,2,none⟩=some (.int .u64 l2):=hkb.cell 2;clear c0 c1 c2 d0 d1 d2 hw5;go_wp2_with fail
  refine (H1 _).out.mono ?_
  rintro e w' ⟨rfl,hb⟩;have HB6:Hid (Below qb w w'):=hZ (HB5.out.trans (hb.mono HL5.out));have hka:=hka.below hb hka.lt;have hkb:=hkb.below hb hkb.lt;have HKA6:=hZ hka;have HKB6:=hZ hkb;clear hka hkb e0 e1 e2 f0 f1 f2;have e1:w'.cell? ⟨qb,1,none⟩=some (.int .u64 h1):=HKA6.out.cell 1;have e2:w'.cell? ⟨qb,2,none⟩=some (.int .u64 l1):=HKA6.out.cell 2;have f1:w'.cell? ⟨qb+1,1,none⟩=some (.int .u64 h2):=HKB6.out.cell 1;have f2:w'.cell? ⟨qb+1,2,none⟩=some (.int .u64 l2):=HKB6.out.cell 2;rcases HR.out with ⟨g1,hr⟩ | ⟨g1,g2,hr⟩ | ⟨g1,g2,g3⟩
  ·have HRR:=hZ hr;clear hr HR;go_wp2_with fail
   go_ret
   exact ⟨ret_bool HRR.out.symm,HB6.out⟩
  ·have HRR:=hZ hr;clear hr HR;go_wp2_with fail
   go_ret
   exact ⟨ret_bool HRR.out.symm,HB6.out⟩
  ·clear HR;go_wp2_with fail
   go_ret
   exact ⟨ret_bool rfl,HB6.out⟩
 ·have k1:=of_decide_eq_false ht1;have k2:=of_decide_eq_true ht2;have HR:Hid (R=false):=hZ (by rw [← hR];exact decide_eq_false (by omega))
  clear k1 k2;clear ht1 ht2 hR hh1 hh2 hl1 hl2 s1 s2 p1 p2 q1 q2;go_enter Tryz.func176,Tryz.ntmps176;go_upto_region 1 with (fail);have c0:∀ y:Ext W0,y.w.cell? ⟨qb,0,none⟩=some (.bool n1):=Ext.cell (HKA.out.cell 0);have c1:∀ y:Ext W0,y.w.cell? ⟨qb,1,none⟩=some (.int .u64 h1):=Ext.cell (HKA.out.cell 1);have c2:∀ y:Ext W0,y.w.cell? ⟨qb,2,none⟩=some (.int .u64 l1):=Ext.cell (HKA.out.cell 2);have d0:∀ y:Ext W0,y.w.cell? ⟨qb+1,0,none⟩=some (.bool n2):=Ext.cell (HKB.out.cell 0);have d1:∀ y:Ext W0,y.w.cell? ⟨qb+1,1,none⟩=some (.int .u64 h2):=Ext.cell (HKB.out.cell 1);have d2:∀ y:Ext W0,y.w.cell? ⟨qb+1,2,none⟩=some (.int .u64 l2):=Ext.cell (HKB.out.cell 2);have H1x:=hZ (fun z:Ext W0=>(H1 z.w).out);have H2x:=hZ (fun z:Ext W0=>(H2 z.w).out);clear hW0;refine wp_region_ext_quiet (by kernel_rfl) (by kernel_rfl) ?_
  repeat (go_big_quiet_step ((go_at_call 190;first | with_reducible exact Ext.calls (H1x.out _) | with_reducible exact Ext.calls (H2x.out _))))
  refine wpQuiet_nil ?_
  intro w5 hw5;have HL5:Hid (qb≤w5.heap.size):=hZ (Nat.le_trans (Nat.le_of_lt HKA.out.lt) hw5.size);have HB5:Hid (Below qb w w5):=hZ (HB0.out.trans (hw5.mono (Nat.le_of_lt HKA.out.lt)));have hka:=HCA.out w5 hw5;have hkb:=HCB.out w5 hw5;have e0:w5.cell? ⟨qb,0,none⟩=some (.bool n1):=hka.cell 0;have e1:w5.cell? ⟨qb,1,none⟩=some (.int .u64 h1):=hka.cell 1;have e2:w5.cell? ⟨qb,2,none⟩=some (.int .u64 l1):=hka.cell 2;have f0:w5.cell? ⟨qb+1,0,none⟩=some (.bool n2):=hkb.cell 0;have f1:w5.cell? ⟨qb+1,1,none⟩=some (.int .u64 h2):=hkb.cell 1;have f2:w5.cell? ⟨qb+1,2,none⟩=some (.int .u64 l2):=hkb.cell 2;clear c0 c1 c2 d0 d1 d2 hw5;go_wp2_with fail
  refine (H1 _).out.mono ?_
  rintro e w' ⟨rfl,hb⟩;have HB6:Hid (Below qb w w'):=hZ (HB5.out.trans (hb.mono HL5.out));go_wp2_with fail
  go_ret
  exact ⟨ret_bool HR.out.symm,HB6.out⟩
 ·have k1:=of_decide_eq_true ht1;have k2:=of_decide_eq_false ht2;have HR:Hid (R=true):=hZ (by rw [← hR];exact decide_eq_true (by omega))
  clear k1 k2;clear ht1 ht2 hR hh1 hh2 hl1 hl2 s1 s2 p1 p2 q1 q2;go_enter Tryz.func176,Tryz.ntmps176;go_upto_region 1 with (fail);have c0:∀ y:Ext W0,y.w.cell? ⟨qb,0,none⟩=some (.bool n1):=Ext.cell (HKA.out.cell 0);have c1:∀ y:Ext W0,y.w.cell? ⟨qb,1,none⟩=some (.int .u64 h1):=Ext.cell (HKA.out.cell 1);have c2:∀ y:Ext W0,y.w.cell? ⟨qb,2,none⟩=some (.int .u64 l1):=Ext.cell (HKA.out.cell 2);have d0:∀ y:Ext W0,y.w.cell? ⟨qb+1,0,none⟩=some (.bool n2):=Ext.cell (HKB.out.cell 0);have d1:∀ y:Ext W0,y.w.cell? ⟨qb+1,1,none⟩=some (.int .u64 h2):=Ext.cell (HKB.out.cell 1);have d2:∀ y:Ext W0,y.w.cell? ⟨qb+1,2,none⟩=some (.int .u64 l2):=Ext.cell (HKB.out.cell 2);have H1x:=hZ (fun z:Ext W0=>(H1 z.w).out);have H2x:=hZ (fun z:Ext W0=>(H2 z.w).out);clear hW0;refine wp_region_ext_quiet (by kernel_rfl) (by kernel_rfl) ?_
  repeat (go_big_quiet_step ((go_at_call 190;first | with_reducible exact Ext.calls (H1x.out _) | with_reducible exact Ext.calls (H2x.out _))))
  refine wpQuiet_nil ?_
  intro w5 hw5;have HL5:Hid (qb≤w5.heap.size):=hZ (Nat.le_trans (Nat.le_of_lt HKA.out.lt) hw5.size);have HB5:Hid (Below qb w w5):=hZ (HB0.out.trans (hw5.mono (Nat.le_of_lt HKA.out.lt)));have hka:=HCA.out w5 hw5;have hkb:=HCB.out w5 hw5;have e0:w5.cell? ⟨qb,0,none⟩=some (.bool n1):=hka.cell 0;have e1:w5.cell? ⟨qb,1,none⟩=some (.int .u64 h1):=hka.cell 1;have e2:w5.cell? ⟨qb,2,none⟩=some (.int .u64 l1):=hka.cell 2;have f0:w5.cell? ⟨qb+1,0,none⟩=some (.bool n2):=hkb.cell 0;have f1:w5.cell? ⟨qb+1,1,none⟩=some (.int .u64 h2):=hkb.cell 1;have f2:w5.cell? ⟨qb+1,2,none⟩=some (.int .u64 l2):=hkb.cell 2;clear c0 c1 c2 d0 d1 d2 hw5;go_wp2_with fail
  refine (H1 _).out.mono ?_
  rintro e w' ⟨rfl,hb⟩;have HB6:Hid (Below qb w w'):=hZ (HB5.out.trans (hb.mono HL5.out));go_wp2_with fail
  go_ret
  exact ⟨ret_bool HR.out.symm,HB6.out⟩
 ·have k1:=of_decide_eq_true ht1;have k2:=of_decide_eq_true ht2;have HR:Hid ((decide (h2<h1)=true∧R=true) ∨ (decide (h2<h1)=false∧(h2 == h1)=false∧R=false) ∨ (decide (h2<h1)=false∧(h2 == h1)=true∧decide (l2<l1)=R)):=hZ (by
   have e1:m1=-v1:=by omega
   have e2:m2=-v2:=by omega
   by_cases g:h2<h1
   ·exact Or.inl ⟨decide_eq_true g,by rw [← hR];exact decide_eq_true (by omega)⟩
   ·by_cases g2:h2=h1
    ·refine Or.inr (Or.inr ⟨decide_eq_false g,by simp;omega,?_⟩)
     rw [← hR];exact decide_eq_decide.2 (by omega)
    ·exact Or.inr (Or.inl ⟨decide_eq_false g,by simp;omega,by rw [← hR];exact decide_eq_false (by omega)⟩))
  clear k1 k2;clear ht1 ht2 hR hh1 hh2 hl1 hl2 s1 s2 p1 p2 q1 q2;go_enter Tryz.func176,Tryz.ntmps176;go_upto_region 1 with (fail);have c0:∀ y:Ext W0,y.w.cell? ⟨qb,0,none⟩=some (.bool n1):=Ext.cell (HKA.out.cell 0);have c1:∀ y:Ext W0,y.w.cell? ⟨qb,1,none⟩=some (.int .u64 h1):=Ext.cell (HKA.out.cell 1);have c2:∀ y:Ext W0,y.w.cell? ⟨qb,2,none⟩=some (.int .u64 l1):=Ext.cell (HKA.out.cell 2);have d0:∀ y:Ext W0,y.w.cell? ⟨qb+1,0,none⟩=some (.bool n2):=Ext.cell (HKB.out.cell 0);have d1:∀ y:Ext W0,y.w.cell? ⟨qb+1,1,none⟩=some (.int .u64 h2):=Ext.cell (HKB.out.cell 1);have d2:∀ y:Ext W0,y.w.cell? ⟨qb+1,2,none⟩=some (.int .u64 l2):=Ext.cell (HKB.out.cell 2);have H1x:=hZ (fun z:Ext W0=>(H1 z.w).out);have H2x:=hZ (fun z:Ext W0=>(H2 z.w).out);clear hW0;refine wp_region_ext_quiet (by kernel_rfl) (by kernel_rfl) ?_
  repeat (go_big_quiet_step ((go_at_call 190;first | with_reducible exact Ext.calls (H1x.out _) | with_reducible exact Ext.calls (H2x.out _))))
  refine wpQuiet_nil ?_
  intro w5 hw5;have HL5:Hid (qb≤w5.heap.size):=hZ (Nat.le_trans (Nat.le_of_lt HKA.out.lt) hw5.size);have HB5:Hid (Below qb w w5):=hZ (HB0.out.trans (hw5.mono (Nat.le_of_lt HKA.out.lt)));have hka:=HCA.out w5 hw5;have hkb:=HCB.out w5 hw5;have e0:w5.cell? ⟨qb,0,none⟩=some (.bool n1):=hka.cell 0;have e1:w5.cell? ⟨qb,1,none⟩=some (.int .u64 h1):=hka.cell 1;have e2:w5.cell? ⟨qb,2,none⟩=some (.int .u64 l1):=hka.cell 2;have f0:w5.cell? ⟨qb+1,0,none⟩=some (.bool n2):=hkb.cell 0;have f1:w5.cell? ⟨qb+1,1,none⟩=some (.int .u64 h2):=hkb.cell 1;have f2:w5.cell? ⟨qb+1,2,none⟩=some (.int .u64 l2):=hkb.cell 2;clear c0 c1 c2 d0 d1 d2 hw5;go_wp2_with fail
  refine (H1 _).out.mono ?_
  rintro e w' ⟨rfl,hb⟩;have HB6:Hid (Below qb w w'):=hZ (HB5.out.trans (hb.mono HL5.out));have hka:=hka.below hb hka.lt;have hkb:=hkb.below hb hkb.lt;have HKA6:=hZ hka;have HKB6:=hZ hkb;clear hka hkb e0 e1 e2 f0 f1 f2;go_upto_region 4 with (fail);clear H1 H2 H1x H2x HCA HCB hqb;go_upto_region 5 with (first | (refine wpLoadAt rfl 217 _ rfl qb 0 rfl #[.bool n1,.int .u64 h1,.int .u64 l1] _ (fun j u hj=>by rw [Nat.zero_add,HKA6.out.cell];exact hj) u_big rfl i_big ?_) | (refine wpLoadAt rfl 217 _ rfl (qb+1) 0 rfl #[.bool n2,.int .u64 h2,.int .u64 l2] _ (fun j u hj=>by rw [Nat.zero_add,HKB6.out.cell];exact hj) u_big rfl i_big ?_) | (refine wpStoreAt rfl rfl 217 _ _ rfl qb 0 rfl #[.bool n2,.int .u64 h2,.int .u64 l2] rfl 217 _ HKA6.out (by show 0+3≤3;omega) (one3 _ _ _) i_big ?_;intro wf hkf hof) | (refine wpStoreAt rfl rfl 217 _ _ rfl (qb+1) 0 rfl #[.bool n1,.int .u64 h1,.int .u64 l1] rfl 217 _ (HKB6.out.only (by assumption) (by omega)) (by show 0+3≤3;omega) (one3 _ _ _) i_big ?_;intro wg hkg hog))
  rw [splA_all #[.bool n1,.int .u64 h1,.int .u64 l1] #[.bool n2,.int .u64 h2,.int .u64 l2] rfl] at hkf;rw [splA_all #[.bool n2,.int .u64 h2,.int .u64 l2] #[.bool n1,.int .u64 h1,.int .u64 l1] rfl] at hkg;have HB7:Hid (Below qb w wg):=hZ ((HB6.out.trans (hof.below (Nat.le_refl _))).trans (hog.below (by omega)))
  have hkf:=hkf.only hog (by omega)
  have e1:wg.cell? ⟨qb,1,none⟩=some (.int .u64 h2):=hkf.cell 1;have e2:wg.cell? ⟨qb,2,none⟩=some (.int .u64 l2):=hkf.cell 2;have f1:wg.cell? ⟨qb+1,1,none⟩=some (.int .u64 h1):=hkg.cell 1;have f2:wg.cell? ⟨qb+1,2,none⟩=some (.int .u64 l1):=hkg.cell 2;clear hof hog hkf hkg HKA6 HKB6;rcases HR.out with ⟨g1,hr⟩ | ⟨g1,g2,hr⟩ | ⟨g1,g2,g3⟩
  ·have HRR:=hZ hr;clear hr HR;go_wp2_with fail
   go_ret
   exact ⟨ret_bool HRR.out.symm,HB7.out⟩
  ·have HRR:=hZ hr;clear hr HR;go_wp2_with fail
   go_ret
   exact ⟨ret_bool HRR.out.symm,HB7.out⟩
  ·clear HR;go_wp2_with fail
   go_ret
   exact ⟨ret_bool rfl,HB7.out⟩

theorem w64_in {n:Int} (h1:-9223372036854775808≤n) (h2:n≤9223372036854775807):wrap64 n=n:=by unfold wrap64;omega
theorem num_any {a:Value} {v:Int} (ha:IsBig a v) (hv:S127 v) (w:World) :
  Calls Tryz.prog 173 #[a] w fun e w'=>e=.returned (.tuple #[.int .i64 (if bigB v then v else 0),.bool (bigB v)])∧Below w.heap.size w w':=by
 obtain ⟨n,m,rfl,p,q⟩:=ha;have s:=val_size p q;obtain ⟨hv1,hv2⟩:=hv;unfold bigN;obtain ⟨h,hh⟩:=eX (m / 18446744073709551616);obtain ⟨l,hl⟩:=eX (m % 18446744073709551616);rw [hh,hl];unfold bigV;by_cases g:0<h
 ·have HR:Hid (bigB v=false):=hZ (by rw [← Bool.not_eq_true,big_iff];omega)
  rw [HR.out];have g1:decide (0<h)=true:=decide_eq_true g;clear g s hh hl p q hv1 hv2;go_enter Tryz.func173,Tryz.ntmps173;go_wp2_with fail
  go_ret2
  exact ⟨rfl,(Below.refl _ w).alloc (Nat.le_refl _) _⟩
 ·have g1:decide (0<h)=false:=decide_eq_false g;by_cases k:9223372036854775807<l
  ·have HR:Hid (bigB v=false):=hZ (by rw [← Bool.not_eq_true,big_iff];omega)
   rw [HR.out];have g2:decide (9223372036854775807<l)=true:=decide_eq_true k;clear g s hh hl p q hv1 hv2 k;go_enter Tryz.func173,Tryz.ntmps173;go_wp2_with fail
   go_ret2
   exact ⟨rfl,(Below.refl _ w).alloc (Nat.le_refl _) _⟩
  ·have HR:Hid (bigB v=true):=hZ (by rw [big_iff];omega)
   have HV:Hid ((n=true→v=-l)∧(n=false→v=l)∧0≤l∧l≤9223372036854775807):=hZ (by
    refine ⟨fun e=>?_,fun e=>?_,by omega,by omega⟩
    ·subst e;rw [← q];unfold valI;rw [if_pos rfl];omega
    ·subst e;rw [← q];unfold valI;rw [if_neg (by decide)];omega)
   rw [HR.out];have g2:decide (9223372036854775807<l)=false:=decide_eq_false k;clear g s hh hl p q hv1 hv2 k;cases n
   ·go_enter Tryz.func173,Tryz.ntmps173;go_wp2_with fail
    go_ret2
    refine ⟨?_,(Below.refl _ w).alloc (Nat.le_refl _) _⟩
    obtain ⟨_,h2,h3,h4⟩:=HV.out;have hv:v=l:=h2 trivial;show Ending.returned (.tuple #[.int .i64 (wrap64 l),.bool true])=_
    rw [w64_in (by omega) (by omega),hv]
   ·go_enter Tryz.func173,Tryz.ntmps173;go_wp2_with fail
    go_ret2
    refine ⟨?_,(Below.refl _ w).alloc (Nat.le_refl _) _⟩
    obtain ⟨h2,_,h3,h4⟩:=HV.out;have hv:v=-l:=h2 trivial;show Ending.returned (.tuple #[.int .i64 (wrap64 (-wrap64 l)),.bool true])=_
    rw [w64_in (n:=l) (by omega) (by omega),w64_in (by omega) (by omega),hv]
theorem big_cells {a:Value} {v:Int} (ha:IsBig a v):∃ n h l,a=.agg #[.bool n,.int .u64 h,.int .u64 l]:=by
 obtain ⟨n,m,rfl,_,_⟩:=ha;exact ⟨_,_,_,rfl⟩
theorem fit_fst (u v:Int):(fitB u v).1=if bigB u && bigB v then ⟨u,v⟩ else zeroS:=by unfold fitB;split <;> rfl
theorem fit_snd (u v:Int):(fitB u v).2=if bigB u && bigB v then 0 else 4:=by unfold fitB;split <;> rfl
def SpPost (r:SpanD × Int) (B:Nat) (w:World) (e:Ending) (w':World):Prop:=e=.returned (.tuple #[spanV r.1,.int .i64 r.2])∧Below B w w'
theorem ret_span {fn:Func} {p u:Tmp} (h:fn.results=#[.cell p 31,.tmp u]) {a:Act} (ha:a.defers=[]) {w:World} {g:Nat} {lo hi er:Int} {Q:Ending→World→Prop}
  (hp:a.tmps.getD p undef=.pointer (some ⟨g,0,none⟩)) (hk:Bk w g 31 #[.int .i64 lo,.int .i64 hi]) (he:a.tmps.getD u undef=.int .i64 er) (hQ:Q (.returned (.tuple #[.agg #[.int .i64 lo,.int .i64 hi],.int .i64 er])) w):bodyPost Tryz.prog fn Q .ret a w :=
 bodyPost_ret (v:=.tuple #[.agg #[.int .i64 lo,.int .i64 hi],.int .i64 er]) (by
  have:=results_cellS_tmp (P:=Tryz.prog) h a.tmps w g 31 #[.int .i64 lo,.int .i64 hi] _ hp hk u_span rfl i_span
  rw [he] at this;exact this) ha hQ
theorem fit_any {a b:Value} {u v:Int} (ha:IsBig a u) (hb:IsBig b v) (hu:S127 u) (hv:S127 v) (w:World) :
  Calls Tryz.prog 131 #[a,b] w (SpPost (fitB u v) w.heap.size w):=by
 have H1:=fun w=>hZ (num_any ha hu w);have H2:=fun w=>hZ (num_any hb hv w);obtain ⟨n1,h1,l1,rfl⟩:=big_cells ha;obtain ⟨n2,h2,l2,rfl⟩:=big_cells hb;obtain ⟨x1,hx1⟩:=eX (if bigB u then u else 0);obtain ⟨x2,hx2⟩:=eX (if bigB v then v else 0);rw [hx1] at H1;rw [hx2] at H2;obtain ⟨b1,hb1⟩:=eX (bigB u);obtain ⟨b2,hb2⟩:=eX (bigB v);rw [hb1] at H1;rw [hb2] at H2;obtain ⟨qb,hqb⟩:=eX w.heap.size;obtain ⟨W0,hW0⟩:=eX (((w.alloc (.cells #[.bool n1,.int .u64 h1,.int .u64 l1] 217)).alloc (.cells #[.bool n2,.int .u64 h2,.int .u64 l2] 217)).alloc (.cells #[.int .i64 0,.int .i64 0] 31));have HKA:Hid (Bk W0 qb 217 #[.bool n1,.int .u64 h1,.int .u64 l1]):=hZ (by rw [← hW0,← hqb];exact ((Bk.new _ _ _).alloc _).alloc _)
 have HKB:Hid (Bk W0 (qb+1) 217 #[.bool n2,.int .u64 h2,.int .u64 l2]):=hZ (by rw [← hW0,← hqb];exact (Bk.newAt _ _ _ _ (by simp)).alloc _)
 have HKR:Hid (Bk W0 (qb+1+1) 31 #[.int .i64 0,.int .i64 0]):=hZ (by rw [← hW0,← hqb];exact Bk.newAt _ _ _ _ (by simp <;> omega))
 have HB0:Hid (Below qb w W0):=hZ (by rw [← hW0,← hqb];exact (((Below.refl _ w).alloc (Nat.le_refl _) _).alloc (by simp) _).alloc (by simp <;> omega) _)
 have HFIN:Hid (∀ w',Below qb w w'→SpPost (fitB u v) w.heap.size w (.returned (.tuple #[.agg #[.int .i64 (fitB u v).1.lo,.int .i64 (fitB u v).1.hi],.int .i64 (fitB u v).2])) w'):=hZ fun w' h=>⟨rfl,by rw [hqb];exact h⟩
 rw [fit_fst,fit_snd,hb1,hb2] at HFIN;have HX1:Hid (b1=true→u=x1):=hZ fun h=>by rw [← hx1,hb1,h];rfl
 have HX2:Hid (b2=true→v=x2):=hZ fun h=>by rw [← hx2,hb2,h];rfl
 obtain ⟨PQ,hPQ⟩:=eX (SpPost (fitB u v) w.heap.size w);rw [hPQ] at HFIN ⊢;clear hPQ hx1 hx2 hb1 hb2 ha hb hu hv;go_enter Tryz.func131,Tryz.ntmps131;go_upto_region 1 with (fail);clear hW0 hqb;go_wp2_with (refine wpLoadAt rfl 217 _ rfl qb 0 rfl #[.bool n1,.int .u64 h1,.int .u64 l1] _ (fun j u hj=>by rw [Nat.zero_add,HKA.out.cell];exact hj) u_big rfl i_big ?_)
 refine (H1 _).out.mono ?_
 rintro e w1 ⟨rfl,hw1⟩;have HKB1:Hid (Bk w1 (qb+1) 217 #[.bool n2,.int .u64 h2,.int .u64 l2]):=hZ (HKB.out.below hw1 HKB.out.lt);have HKR1:Hid (Bk w1 (qb+1+1) 31 #[.int .i64 0,.int .i64 0]):=hZ (HKR.out.below hw1 HKR.out.lt);have HB1:Hid (Below qb w w1):=hZ (HB0.out.trans (hw1.mono (Nat.le_of_lt HKA.out.lt)));have HL1:Hid (qb≤w1.heap.size):=hZ (Nat.le_trans (Nat.le_of_lt HKA.out.lt) hw1.size);clear hw1;go_wp2_with (refine wpLoadAt rfl 217 _ rfl (qb+1) 0 rfl #[.bool n2,.int .u64 h2,.int .u64 l2] _ (fun j u hj=>by rw [Nat.zero_add,HKB1.out.cell];exact hj) u_big rfl i_big ?_)
 refine (H2 _).out.mono ?_
 rintro e w2 ⟨rfl,hw2⟩;have HKR2:Hid (Bk w2 (qb+1+1) 31 #[.int .i64 0,.int .i64 0]):=hZ (HKR1.out.below hw2 HKR1.out.lt);have HB2:Hid (Below qb w w2):=hZ (HB1.out.trans (hw2.mono HL1.out));clear hw2 H1 H2;have HEND:Hid (∀ wf,Only (qb+1+1) w2 wf→Below qb w wf):=hZ fun wf hof=>HB2.out.trans (hof.below (by omega))
 cases b1
 ·go_wp2_with (refine wpStoreAt rfl rfl 31 _ _ rfl (qb+1+1) 0 rfl #[.int .i64 0,.int .i64 0] rfl 31 _ HKR2.out (by show 0+2≤2;omega) (one2 _ _) i_span ?_;intro wf hkf hof)
  rw [splA_all #[.int .i64 0,.int .i64 0] #[.int .i64 0,.int .i64 0] rfl] at hkf;exact ret_span rfl rfl rfl hkf rfl (HFIN.out _ (HEND.out _ hof))
 ·cases b2
  ·go_wp2_with (refine wpStoreAt rfl rfl 31 _ _ rfl (qb+1+1) 0 rfl #[.int .i64 0,.int .i64 0] rfl 31 _ HKR2.out (by show 0+2≤2;omega) (one2 _ _) i_span ?_;intro wf hkf hof)
   rw [splA_all #[.int .i64 0,.int .i64 0] #[.int .i64 0,.int .i64 0] rfl] at hkf;exact ret_span rfl rfl rfl hkf rfl (HFIN.out _ (HEND.out _ hof))
  ·go_wp2_with (refine wpStoreAt rfl rfl 31 _ _ rfl (qb+1+1) 0 rfl #[.int .i64 x1,.int .i64 x2] rfl 31 _ HKR2.out (by show 0+2≤2;omega) (one2 _ _) i_span ?_;intro wf hkf hof)
   rw [splA_all #[.int .i64 0,.int .i64 0] #[.int .i64 x1,.int .i64 x2] rfl] at hkf;refine ret_span rfl rfl rfl hkf rfl ?_
   have:=HFIN.out _ (HEND.out _ hof)
   rw [HX1.out trivial,HX2.out trivial] at this;exact this
end Go.Proofs.YtmkoegljnebdiaaGreat
namespace Go.Proofs
open Go.Shelf
set_option maxRecDepth 100000
set_option maxHeartbeats 16000000
def Tryz.lays134_ren:Go.Shelf.Ren:=⟨fun | 134=>191 | 129=>197 | n=>n,fun | 53=>215 | 3=>3 | 4=>4 | 46=>173 | 5=>5 | 9=>9 | n=>n,fun | n=>n⟩
theorem Tryz.lays134:Go.Proofs.Lays.n134 Tryz.prog Tryz.lays134_ren:={
 mixed:=by kernel_rfl
 f129:=Tryz.func197.trans (congrArg some (by kernel_rfl))
 f134:=Tryz.func191.trans (congrArg some (by kernel_rfl))
 t3:=Tryz.underlying3
 a3:=Tryz.isAgg3
 z3:=Tryz.sizeOf3
 v3:=Tryz.zeroValue3
 t4:=Tryz.underlying4
 a4:=Tryz.isAgg4
 z4:=Tryz.sizeOf4
 v4:=Tryz.zeroValue4
 t5:=Tryz.underlying5
 a5:=Tryz.isAgg5
 z5:=Tryz.sizeOf5
 v5:=Tryz.zeroValue5
 t9:=Tryz.underlying9
 a9:=Tryz.isAgg9
 z9:=Tryz.sizeOf9
 v9:=Tryz.zeroValue9
 t46:=Tryz.underlying173
 a46:=Tryz.isAgg173
 z46:=Tryz.sizeOf173
 v46:=Tryz.zeroValue173
 t53:=Tryz.underlying215
 a53:=Tryz.isAgg215
 z53:=Tryz.sizeOf215
 v53:=Tryz.zeroValue215 }
/-- bits.LeadingZeros64: "LeadingZeros64 returns the number of leading zero bits in x; the result is 64 for x == 0.": IT RETURNS '64 - Lib.bitLen x'; the world is as it was. ITS CALLEE bits.Len64 IS MET BY ITS OWN CONTRACT OFF THE SHELF (lay that first): entered in place it sends the kernel out of memory. (LAID: no walk: one application.) -/
theorem Tryz.bits_LeadingZeros64 (x:Int) (w:World) (h0:0≤x) (h1:x≤18446744073709551615) :
  Calls Tryz.prog 191 #[.int .u64 x] w fun e w'=>e=.returned (.int .i64 (64 - (Lib.bitLen x.toNat:Int)))∧w'=w:=Any.bits_LeadingZeros64 Tryz.lays134 x w h0 h1
def Tryz.lays264_ren:Go.Shelf.Ren:=⟨fun | 264=>175 | n=>n,fun | 53=>215 | 46=>173 | n=>n,fun | n=>n⟩
theorem Tryz.lays264:Go.Proofs.Lays.n264 Tryz.prog Tryz.lays264_ren:={
 mixed:=by kernel_rfl
 f264:=Tryz.func175.trans (congrArg some (by kernel_rfl))
 t46:=Tryz.underlying173
 a46:=Tryz.isAgg173
 z46:=Tryz.sizeOf173
 v46:=Tryz.zeroValue173
 t53:=Tryz.underlying215
 a53:=Tryz.isAgg215
 z53:=Tryz.sizeOf215
 v53:=Tryz.zeroValue215 }
open Go.RowKit Go.Lib in
theorem Tryz.bits_Mul64 (x y:Nat) (hx:x<18446744073709551616) (hy:y<18446744073709551616) (w:World) :
  Calls Tryz.prog 175 #[.int .u64 x,.int .u64 y] w fun e w'=>e=.returned (.tuple #[.int .u64 ((x * y / 18446744073709551616:Nat):Int),.int .u64 ((x * y % 18446744073709551616:Nat):Int)])∧w'=w:=Any.bits_Mul64 Tryz.lays264 x y hx hy w
end Go.Proofs
namespace Go.Proofs.YtmkoegljnebdiaaGreat
open Go.RowKit
set_option maxRecDepth 100000
set_option maxHeartbeats 16000000

def BigsAt (w:World) (B:Nat) (A:Option Addr) (n:Nat) (v:Nat→Int):Prop :=
 ∃ f:Nat→Nat→Value,Sl w B 3 A n f∧∀ i,i<n→(∃ b h l,f i 0=.bool b∧f i 1=.int .u64 h∧f i 2=.int .u64 l)∧IsBig (.agg #[f i 0,f i 1,f i 2]) (v i)
def minK (v:Nat→Int):Nat→Int
 | 0=>v 0
 | k+1=>min (minK v k) (v (k+1))
def maxK (v:Nat→Int):Nat→Int
 | 0=>v 0
 | k+1=>max (maxK v k) (v (k+1))
theorem BigsAt.below {w w':World} {B n:Nat} {A:Option Addr} {v:Nat→Int} (h:BigsAt w B A n v) (hb:Below B w w'):BigsAt w' B A n v:=by
 obtain ⟨f,h1,h2⟩:=h;exact ⟨f,h1.below hb,h2⟩
theorem BigsAt.at3 {w:World} {B n:Nat} {A:Option Addr} {v:Nat→Int} (h:BigsAt w B A n v) {i:Nat} (hi:i<n):∃ b off,A=some ⟨b,off,none⟩∧b<B ∧
  ∃ t x y,w.cell? ⟨b,off+i * 3,none⟩=some (.bool t)∧w.cell? ⟨b,off+i * 3+1,none⟩=some (.int .u64 x)∧w.cell? ⟨b,off+i * 3+2,none⟩=some (.int .u64 y)∧IsBig (.agg #[.bool t,.int .u64 x,.int .u64 y]) (v i):=by
 obtain ⟨f,h1,h2⟩:=h;obtain ⟨b,off,e,hb,hc⟩:=h1.2 (by omega)
 obtain ⟨⟨t,x,y,e0,e1,e2⟩,hv⟩:=h2 i hi;refine ⟨b,off,e,hb,t,x,y,?_,?_,?_,?_⟩
 ·rw [← e0];exact hc i hi 0 (by omega)
 ·rw [← e1];exact hc i hi 1 (by omega)
 ·rw [← e2];exact hc i hi 2 (by omega)
 ·rw [e0,e1,e2] at hv;exact hv
def HulPost (a b:Int) (B:Nat) (w:World) (e:Ending) (w':World):Prop:=∃ x y,e=.returned (.tuple #[x,y])∧IsBig x a∧IsBig y b∧Below B w w'
theorem ret_big2 {fn:Func} {p q:Tmp} (h:fn.results=#[.cell p 217,.cell q 217]) {a:Act} (ha:a.defers=[]) {w:World} {g g':Nat} {n n':Bool} {hi lo hi' lo':Int} {Q:Ending→World→Prop}
  (hp:a.tmps.getD p undef=.pointer (some ⟨g,0,none⟩)) (hq:a.tmps.getD q undef=.pointer (some ⟨g',0,none⟩)) (hk:Bk w g 217 #[.bool n,.int .u64 hi,.int .u64 lo]) (hk':Bk w g' 217 #[.bool n',.int .u64 hi',.int .u64 lo'])
  (hQ:Q (.returned (.tuple #[.agg #[.bool n,.int .u64 hi,.int .u64 lo],.agg #[.bool n',.int .u64 hi',.int .u64 lo']])) w):bodyPost Tryz.prog fn Q .ret a w:=by
 refine bodyPost_ret (v:=.tuple #[.agg #[.bool n,.int .u64 hi,.int .u64 lo],.agg #[.bool n',.int .u64 hi',.int .u64 lo']]) ?_ ha hQ
 have hl:=run_loadVar_at (P:=Tryz.prog) w g 0 217 #[.bool n,.int .u64 hi,.int .u64 lo] _ (fun j v hj=>by rw [Nat.zero_add,hk.cell];exact hj) u_big rfl i_big
 have hl':=run_loadVar_at (P:=Tryz.prog) w g' 0 217 #[.bool n',.int .u64 hi',.int .u64 lo'] _ (fun j v hj=>by rw [Nat.zero_add,hk'.cell];exact hj) u_big rfl i_big
 have hp':a.tmps[p]?.getD undef=.pointer (some ⟨g,0,none⟩):=by simpa using hp
 have hq':a.tmps[q]?.getD undef=.pointer (some ⟨g',0,none⟩):=by simpa using hq
 simp [results,h,hp',hq',asAddr,hl,hl']
end Go.Proofs.YtmkoegljnebdiaaGreat
namespace Go.Proofs.YtmkoegljnebdiaaGreat
set_option maxRecDepth 100000
set_option maxHeartbeats 16000000

theorem kn_test {y1 y0 u u1 q r:Nat} (h:q * y1+r=u):q * y0≤r * 4294967296+u1 ↔ q * (y1 * 4294967296+y0)≤u * 4294967296+u1:=by
 have e1:q * (y1 * 4294967296+y0)=q * y1 * 4294967296+q * y0:=by rw [Nat.mul_add,Nat.mul_assoc]
 have e2:u * 4294967296=q * y1 * 4294967296+r * 4294967296:=by rw [← h,Nat.add_mul]
 omega
theorem kn_le {y N q:Nat} (hy:0<y):q * y≤N ↔ q≤N / y:=(Nat.le_div_iff_mul_le hy).symm
theorem kn_first {y1 y0 u:Nat} (h1:2147483648≤y1) (h0:y0<4294967296) (hu:u<y1 * 4294967296+y0):u / y1≤4294967297:=by
 have:u / y1<4294967298:=by
  rw [Nat.div_lt_iff_lt_mul (by omega)];omega
 omega
theorem kn_ge {y1 y0 u u1:Nat} (h1:0<y1) (hu1:u1<4294967296):(u * 4294967296+u1) / (y1 * 4294967296+y0)≤u / y1:=by
 rw [Nat.le_div_iff_mul_le h1];have h:=Nat.div_mul_le_self (u * 4294967296+u1) (y1 * 4294967296+y0);have e:(u * 4294967296+u1) / (y1 * 4294967296+y0) * (y1 * 4294967296+y0)=(u * 4294967296+u1) / (y1 * 4294967296+y0) * y1 * 4294967296+(u * 4294967296+u1) / (y1 * 4294967296+y0) * y0:=by rw [Nat.mul_add,Nat.mul_assoc]
 generalize (u * 4294967296+u1) / (y1 * 4294967296+y0) * y1=a at *
 generalize (u * 4294967296+u1) / (y1 * 4294967296+y0) * y0=b at *
 omega
theorem kn_small {y u u1:Nat} (hu:u<y) (hu1:u1<4294967296):(u * 4294967296+u1) / y<4294967296:=by
 rw [Nat.div_lt_iff_lt_mul (by omega)]
 have:(u+1) * 4294967296≤y * 4294967296:=Nat.mul_le_mul_right _ hu
 omega
theorem kn_break {y1 y0 u u1 q r:Nat} (h:q * y1+r=u) (h0:y0<4294967296) (hq:q≤4294967296) (hr:4294967296≤r):q≤(u * 4294967296+u1) / (y1 * 4294967296+y0) ∨ y1 * 4294967296+y0=0:=by
 rcases Nat.eq_zero_or_pos (y1 * 4294967296+y0) with e | e
 ·exact Or.inr e
 ·left
  rw [← kn_le e,← kn_test h];have h2:q * y0≤4294967296 * 4294967295:=Nat.mul_le_mul hq (by omega)
  omega
theorem kn_two {y u u1 u0 q1 r1:Nat} (hy:0<y) (h1:u * 4294967296+u1=q1 * y+r1)  :
  ((u * 4294967296+u1) * 4294967296+u0) / y=q1 * 4294967296+(r1 * 4294967296+u0) / y∧((u * 4294967296+u1) * 4294967296+u0) % y=(r1 * 4294967296+u0) % y:=by
 have e:(u * 4294967296+u1) * 4294967296+u0=(r1 * 4294967296+u0)+y * (q1 * 4294967296):=by
  rw [h1,Nat.add_mul,Nat.mul_comm y,Nat.mul_assoc,Nat.mul_assoc,Nat.mul_comm 4294967296 y];omega
 rw [e];refine ⟨by rw [Nat.add_mul_div_left _ _ hy,Nat.add_comm],Nat.add_mul_mod_self_left _ _ _⟩
theorem kn_shift (v y s:Nat):v * 2 ^ s / (y * 2 ^ s)=v / y∧v * 2 ^ s % (y * 2 ^ s) / 2 ^ s=v % y:=by
 have hp:0<2 ^ s:=Nat.two_pow_pos s;refine ⟨Nat.mul_div_mul_right v y hp,?_⟩
 rw [Nat.mul_mod_mul_right,Nat.mul_div_cancel _ hp]

theorem pow_split {s:Nat} (h:s≤64):2 ^ (64 - s) * 2 ^ s=18446744073709551616:=by
 rw [← Nat.pow_add,Nat.sub_add_cancel h]
theorem dv_shift {lo s:Nat} (hs:s≤64) (hlo:lo<18446744073709551616):lo * 2 ^ s / 18446744073709551616=lo / 2 ^ (64 - s)∧lo / 2 ^ (64 - s)<2 ^ s:=by
 have hp:=pow_split hs;have h0:0<2 ^ s:=Nat.two_pow_pos s;refine ⟨?_,?_⟩
 ·rw [← hp,Nat.mul_div_mul_right _ _ h0]
 ·rw [Nat.div_lt_iff_lt_mul (Nat.two_pow_pos _),Nat.mul_comm,hp];exact hlo
theorem dv_hi {hi lo y s:Nat} (hs:s≤63) (hlo:lo<18446744073709551616) (hhi:hi<y) (hY:y * 2 ^ s<18446744073709551616) :
  hi * 2 ^ s<18446744073709551616∧(hi * 2 ^ s ||| lo / 2 ^ (64 - s))=hi * 2 ^ s+lo / 2 ^ (64 - s)∧hi * 2 ^ s+lo / 2 ^ (64 - s)<y * 2 ^ s ∧
  (hi * 2 ^ s+lo / 2 ^ (64 - s)) * 18446744073709551616+lo * 2 ^ s % 18446744073709551616=(hi * 18446744073709551616+lo) * 2 ^ s:=by
 obtain ⟨e1,e2⟩:=dv_shift (lo:=lo) (s:=s) (by omega) hlo
 have h1:(hi+1) * 2 ^ s≤y * 2 ^ s:=Nat.mul_le_mul_right _ hhi;rw [Nat.add_mul,Nat.one_mul] at h1;have h2:=Nat.div_add_mod (lo * 2 ^ s) 18446744073709551616;rw [e1] at h2;refine ⟨by omega,?_,by omega,?_⟩
 ·rw [Nat.mul_comm hi];exact (Nat.two_pow_add_eq_or_of_lt e2 hi).symm
 ·rw [Nat.add_mul,Nat.add_mul];have e3:hi * 18446744073709551616 * 2 ^ s=hi * 2 ^ s * 18446744073709551616:=by rw [Nat.mul_assoc,Nat.mul_assoc,Nat.mul_comm (2 ^ s)]
  rw [e3];generalize lo * 2 ^ s=A at *
  generalize hi * 2 ^ s=B at *
  generalize lo / 2 ^ (64 - s)=C at *
  clear e1 e2 h1 hY hlo hhi;omega
theorem dv_norm {y:Nat} (h0:0<y) (h1:y<18446744073709551616):∃ s:Nat,64 - (Lib.bitLen y:Int)=(s:Int)∧s≤63∧9223372036854775808≤y * 2 ^ s∧y * 2 ^ s<18446744073709551616:=by
 have hl:=Lib.bitLen_le y 64 (by omega) h1
 obtain ⟨b1,b2,b3⟩:=Lib.bitLenAux_bounds 64 y h1 (by omega)
 refine ⟨64 - Lib.bitLen y,by omega,?_,?_,?_⟩
 ·have:1≤Lib.bitLen y:=b1;omega
 ·have e:2 ^ (Lib.bitLen y - 1) * 2 ^ (64 - Lib.bitLen y)=2 ^ 63:=by rw [← Nat.pow_add];congr 1;have:1≤Lib.bitLen y:=b1;omega
  have:=Nat.mul_le_mul_right (2 ^ (64 - Lib.bitLen y)) b2
  have b2':2 ^ (Lib.bitLen y - 1) * 2 ^ (64 - Lib.bitLen y)≤y * 2 ^ (64 - Lib.bitLen y):=this;rw [e] at b2';omega
 ·have e:2 ^ Lib.bitLen y * 2 ^ (64 - Lib.bitLen y)=2 ^ 64:=by rw [← Nat.pow_add];congr 1;omega
  have b3':y * 2 ^ (64 - Lib.bitLen y)<2 ^ Lib.bitLen y * 2 ^ (64 - Lib.bitLen y):=Nat.mul_lt_mul_of_pos_right b3 (Nat.two_pow_pos _);rw [e] at b3';omega
theorem dv_done {y1 y0 u u1 q r:Nat} (h:q * y1+r=u) (hy:0<y1 * 4294967296+y0) (hge:(u * 4294967296+u1) / (y1 * 4294967296+y0)≤q) (ht:q * y0≤r * 4294967296+u1):q=(u * 4294967296+u1) / (y1 * 4294967296+y0) :=
 Nat.le_antisymm ((kn_le hy).1 ((kn_test h).1 ht)) hge
theorem dv_more {y1 y0 u u1 q r:Nat} (h:q * y1+r=u) (hy:0<y1 * 4294967296+y0) (ht:¬ q * y0≤r * 4294967296+u1):(u * 4294967296+u1) / (y1 * 4294967296+y0)<q:=by
 rw [kn_test h,kn_le hy] at ht;omega
theorem dv_join {U L V:Nat} (h:U * 18446744073709551616+L=V):(U * 4294967296+L / 4294967296) * 4294967296+L % 4294967296=V:=by
 have e:=Nat.div_add_mod L 4294967296;generalize L / 4294967296=a at *
 generalize L % 4294967296=b at *
 subst h e;rw [Nat.add_mul,Nat.mul_assoc,Nat.mul_comm a];omega
theorem dv_whole {hi lo y s U L Q1 Q0:Nat} (hp:U * 18446744073709551616+L=(hi * 18446744073709551616+lo) * 2 ^ s)
  (h1:Q1=(U * 4294967296+L / 4294967296) / (y * 2 ^ s)) (h0:Q0=((U * 4294967296+L / 4294967296 - Q1 * (y * 2 ^ s)) * 4294967296+L % 4294967296) / (y * 2 ^ s)) (hy:0<y) :
  (hi * 18446744073709551616+lo) / y=Q1 * 4294967296+Q0∧(hi * 18446744073709551616+lo) % y=((U * 4294967296+L / 4294967296 - Q1 * (y * 2 ^ s)) * 4294967296+L % 4294967296 - Q0 * (y * 2 ^ s)) / 2 ^ s:=by
 have hY:0<y * 2 ^ s:=Nat.mul_pos hy (Nat.two_pow_pos s);obtain ⟨k1,k2⟩:=kn_shift (hi * 18446744073709551616+lo) y s;obtain ⟨Y,hYe⟩:=eX (y * 2 ^ s);obtain ⟨V,hV⟩:=eX ((hi * 18446744073709551616+lo) * 2 ^ s);rw [hYe] at h1 h0 hY k1 k2 ⊢;rw [hV] at hp k1 k2;have hm:Q1 * Y≤U * 4294967296+L / 4294967296:=by rw [h1];exact Nat.div_mul_le_self _ _
 obtain ⟨t1,t2⟩:=kn_two (u:=U) (u1:=L / 4294967296) (u0:=L % 4294967296) (q1:=Q1) (r1:=U * 4294967296+L / 4294967296 - Q1 * Y) hY (by clear k1 k2 hV hYe hp;omega)
 rw [dv_join hp] at t1 t2;rw [← h0] at t1;refine ⟨by rw [← k1,t1],?_⟩
 rw [← k2,t2];congr 1
 have:=Nat.div_add_mod ((U * 4294967296+L / 4294967296 - Q1 * Y) * 4294967296+L % 4294967296) Y
 rw [← h0,Nat.mul_comm] at this;clear k1 k2 hV hYe hp t1 t2 h0 h1;omega
end Go.Proofs.YtmkoegljnebdiaaGreat
