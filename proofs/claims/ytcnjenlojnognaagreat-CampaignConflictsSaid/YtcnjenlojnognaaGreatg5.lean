/- What is proved: the texts Aa Ab Ac Ad Ae Af Ag Ah Ai Ak Aj Al Am An, one behind the other; each says at its head what it proves, and under which conditions. -/
import Derived.Maps.AppendAt
import Derived.Maps.Keyed
import Derived.Maps.RangeRun
import Derived.Maps.Range
import Derived.Sort.OwnSortedInts
import Derived.Test.YtcnjenlojnognaaGreatg4
/- What is proved: what the search for the first plan leans on: what turns while it searches; a plan in its box. Conditions: those that each lemma states. -/
namespace Go.Proofs.YtcnjenlojnognaaGreat
open Go.RowKit

/-- Of the old blocks, at most the box bx and the block ob have turned. -/
structure FillR (bx:Nat) (ob:Option Nat) (w w':World):Prop where
 os:w'.os=w.os
 tape:w'.tape=w.tape
 output:w'.output=w.output
 size:w.heap.size≤w'.heap.size
 block:∀ k,k<w.heap.size→k ≠ bx→some k ≠ ob→w'.heap[k]?=w.heap[k]?
/-- A plan's block is the old one, or new. -/
def NewB (w:World) (ob ob':Option Nat):Prop:=ob'=ob ∨ ∀ k,ob'=some k→w.heap.size≤k
theorem NewB.refl (w:World) (ob:Option Nat):NewB w ob ob:=.inl rfl
theorem NewB.trans {w w':World} {a b c:Option Nat} (h:NewB w a b) (k:NewB w' b c) (hs:w.heap.size≤w'.heap.size):NewB w a c:=by
 rcases k with rfl | k
 ·exact h
 ·exact .inr fun g e=>Nat.le_trans hs (k g e)
theorem FillR.below {bx:Nat} {ob:Option Nat} {w w':World} (h:Below w.heap.size w w'):FillR bx ob w w':=⟨h.os,h.tape,h.output,h.size,fun k hk _ _=>h.block k hk⟩
theorem FillR.refl (bx:Nat) (ob:Option Nat) (w:World):FillR bx ob w w:=FillR.below (Below.refl _ _)
theorem FillR.trans {bx:Nat} {ob ob':Option Nat} {a b c:World} (h:FillR bx ob a b) (k:FillR bx ob' b c) (hn:NewB a ob ob'):FillR bx ob a c :=
 ⟨k.os.trans h.os,k.tape.trans h.tape,k.output.trans h.output,Nat.le_trans h.size k.size,fun x hx h1 h2=>by
  refine (k.block x (Nat.lt_of_lt_of_le hx h.size) h1 fun e=>?_).trans (h.block x hx h1 h2)
  rcases hn with rfl | hn
  ·exact h2 e
  ·have:=hn x e.symm;omega⟩
theorem FillR.only {bx:Nat} {ob:Option Nat} {w w':World} (h:Only bx w w'):FillR bx ob w w':=⟨h.os,h.tape,h.output,Nat.le_of_eq h.size.symm,fun k _ h1 _=>h.block k h1⟩
theorem FillR.grown {bx:Nat} {ob:Option Nat} {w w':World} (h:w.grownBy w' ob):FillR bx ob w w':=⟨h.os,h.tape,h.output,h.size,fun k hk _ h2=>h.block k hk h2⟩
theorem FillR.bel {bx n₀:Nat} {ob:Option Nat} {w w':World} (h:FillR bx ob w w') (hn:n₀≤w.heap.size) (hx:n₀≤bx) (ho:∀ g,ob=some g→n₀≤g):Below n₀ w w' :=
 ⟨h.os,h.tape,h.output,h.size,fun k hk=>h.block k (by omega) (by omega) fun e=>by have:=ho k e.symm;omega⟩
/-- A plan in its box. -/
structure PlanS (bx B:Nat) (v:Value) (P:List LaunchD) (w:World):Prop where
 box:Bk w bx 27 #[v]
 own:∃ Pq Qq,OwnL w B v P Pq Qq
theorem OwnL.bk {w:World} {B:Nat} {v:Value} {l:List LaunchD} {P:Nat→Option Addr} {Q:Nat→Nat} (h:OwnL w B v l P Q):∀ g,v.ownBlock=some g→B≤g∧∃ cs,Bk w g 52 cs:=fun g e=>by
 rcases h.row.2 with ⟨rfl,_⟩ | ⟨b,cap,cur,rfl,hb,hgb,_⟩
 ·simp [Value.ownBlock] at e
 ·have e2:b=g:=by simpa [Value.ownBlock] using e
  subst e2
  exact ⟨hb,cur,hgb⟩
theorem bk_ty {w:World} {b:Nat} {T T':TypeId} {cs cs':Array Value} (h:Bk w b T cs) (h':Bk w b T' cs'):T=T':=by
 have h1:w.heap[b]?=_:=h
 have h2:w.heap[b]?=_:=h'
 rw [h1] at h2
 injection h2 with h2
 injection h2 with _ h2 _
theorem FillR.keep {bx B:Nat} {v:Value} {P:List LaunchD} {w w':World} (h:FillR bx v.ownBlock w w') (hp:PlanS bx B v P w) {b:Nat} {T:TypeId} {cs:Array Value} (hb:Bk w b T cs) (h1:T ≠ 52) (h2:T ≠ 27):Bk w' b T cs:=by
 obtain ⟨Pq,Qq,ho⟩:=hp.own
 refine (h.block b hb.lt (fun e=>?_) fun e=>?_).trans hb
 ·subst e;exact h2 (bk_ty hb hp.box)
 ·obtain ⟨_,cs',hk⟩:=ho.bk b e.symm
  exact h1 (bk_ty hb hk)
theorem FillR.launch {bx B:Nat} {v:Value} {P:List LaunchD} {w w':World} (h:FillR bx v.ownBlock w w') (hp:PlanS bx B v P w) {b:Nat} {cs:Array Value} (hb:Bk w b 52 cs) (hn:v.ownBlock ≠ some b):Bk w' b 52 cs:=by
 refine (h.block b hb.lt (fun e=>?_) fun e=>hn e.symm).trans hb
 subst e
 exact absurd (bk_ty hb hp.box) (by decide)
theorem FillR.ints {bx B B':Nat} {v:Value} {P:List LaunchD} {w w':World} (h:FillR bx v.ownBlock w w') (hp:PlanS bx B v P w) {A:Option Addr} {l:List Int} (hi:IntsO w B' A l):IntsO w' B' A l :=
 ⟨hi.1,fun hn=>by
  obtain ⟨b,cur,e,h1,h2,h3⟩:=hi.2 hn
  exact ⟨b,cur,e,h1,h.keep hp h2 (by decide) (by decide),h3⟩⟩
theorem FillR.rows {bx B B' g:Nat} {v:Value} {P:List LaunchD} {w w':World} (h:FillR bx v.ownBlock w w') (hp:PlanS bx B v P w) {cur:Array Value} {l:List LaunchD} {Pq:Nat→Option Addr} {Qq:Nat→Nat} (hr:RowsO w B' g cur l Pq Qq) (hn:v.ownBlock ≠ some g):RowsO w' B' g cur l Pq Qq :=
 ⟨hr.lo,h.launch hp hr.bk hn,hr.row,fun i hi=>h.ints hp (hr.ints i hi)⟩
theorem FillR.camp {bx B B':Nat} {v:Value} {P:List LaunchD} {w w':World} (h:FillR bx v.ownBlock w w') (hp:PlanS bx B v P w) (hB:B'≤B) (hBx:B'≤bx) {V:CV} {c:CampD} (hc:CampAt w B' V c):CampAt w' B' V c:=by
 obtain ⟨Pq,Qq,ho⟩:=hp.own
 exact hc.below (h.bel (by have:=hp.box.lt;omega) hBx fun g e=>by have:=(ho.bk g e).1;omega)
/-- What the search holds to: the boxes that it has been given. -/
structure FillE (B bl bx bc bf N:Nat) (V:CV) (c:CampD) (w:World):Prop where
 lo:B≤bx
 kl:Bk w bl 3 #[.int .i64 N]
 kc:Bk w bc 26 (campA V c)
 kf:Bk w bf 148 #[.func (.func 132) #[] #[.pointer (some ⟨bl,0,none⟩),.pointer (some ⟨bx,0,none⟩),.pointer (some ⟨bc,0,none⟩),.pointer (some ⟨bf,0,none⟩)]]
 camp:CampAt w B V c
theorem FillE.later {B bl bx bc bf N:Nat} {V:CV} {c:CampD} {w w':World} (h:FillE B bl bx bc bf N V c w) (hB:B≤w.heap.size) (hb:Below w.heap.size w w'):FillE B bl bx bc bf N V c w' :=
 ⟨h.lo,h.kl.below hb h.kl.lt,h.kc.below hb h.kc.lt,h.kf.below hb h.kf.lt,h.camp.below (hb.mono hB)⟩
theorem FillE.fill {B bl bx bc bf N:Nat} {v:Value} {P:List LaunchD} {V:CV} {c:CampD} {w w':World} (h:FillE B bl bx bc bf N V c w) (hr:FillR bx v.ownBlock w w') (hp:PlanS bx B v P w):FillE B bl bx bc bf N V c w' :=
 ⟨h.lo,hr.keep hp h.kl (by decide) (by decide),hr.keep hp h.kc (by decide) (by decide),hr.keep hp h.kf (by decide) (by decide),hr.camp hp (Nat.le_refl _) h.lo h.camp⟩
theorem PlanS.later {bx B:Nat} {v:Value} {P:List LaunchD} {w w':World} (h:PlanS bx B v P w) (hb:Below w.heap.size w w'):PlanS bx B v P w':=by
 obtain ⟨Pq,Qq,ho⟩:=h.own
 exact ⟨h.box.below hb h.box.lt,Pq,Qq,ho.later hb⟩
theorem PlanS.size {bx B:Nat} {v:Value} {P:List LaunchD} {w:World} (h:PlanS bx B v P w):∀ g,v.ownBlock=some g→g<w.heap.size:=fun g e=>by
 obtain ⟨Pq,Qq,ho⟩:=h.own
 obtain ⟨_,cs,hk⟩:=ho.bk g e
 exact hk.lt
/-- A plan's form. -/
theorem PlanS.form {bx B:Nat} {v:Value} {P:List LaunchD} {w:World} (h:PlanS bx B v P w):∃ A cp,v=.slice A P.length cp∧P.length≤cp:=by
 obtain ⟨Pq,Qq,ho⟩:=h.own
 obtain ⟨A,cp,e,h1,_⟩:=ho.form
 exact ⟨A,cp,e,h1⟩
/-- One launch off its end. -/
theorem PlanS.pop {bx B g cp:Nat} {P:List LaunchD} {x:LaunchD} {w:World} (h:PlanS bx B (.slice (some ⟨g,0,none⟩) (P.length+1) cp) (P ++ [x]) w) :
  PlanS bx B (.slice (some ⟨g,0,none⟩) P.length cp) P (w.setCell ⟨bx,0,none⟩ (.slice (some ⟨g,0,none⟩) P.length cp)):=by
 obtain ⟨Pq,Qq,ho⟩:=h.own
 refine ⟨h.box.set 0 _,Pq,Qq,?_⟩
 have h1:OwnL w B (.slice (some ⟨g,0,none⟩) P.length cp) P Pq Qq:=by
  refine ⟨⟨rowsL_len _ _ _,?_⟩,fun i hi=>?_⟩
  ·rcases ho.row.2 with ⟨e,_⟩ | ⟨b,cap,cur,e,hb,hgb,h1,h2,h3,h4⟩
   ·cases e
   ·injection e with e1 e2 e3
    injection e1 with e1
    injection e1 with e1 _ _
    subst e1 e3
    refine .inr ⟨_,_,cur,rfl,hb,hgb,by rw [List.length_append,List.length_singleton] at h1;omega,h2,h3,?_⟩
    rw [List.length_append,List.length_singleton,rowsL_succ _ _ (by omega)] at h4
    have h5:=congrArg (List.take (P.length * 4)) h4
    rw [List.take_take,Nat.min_eq_left (by omega),List.take_append_of_le_length (by rw [rowsL_len];exact Nat.le_refl _)] at h5
    rw [h5,List.take_of_length_le (by rw [rowsL_len];exact Nat.le_refl _)]
    refine rowsL_congr _ _ (by omega) fun i hi j _=>?_
    unfold rowP
    rw [List.getD_eq_getElem?_getD,List.getElem?_append_left hi,← List.getD_eq_getElem?_getD]
  ·have:=ho.ints i (by rw [List.length_append,List.length_singleton];omega)
   rw [List.getD_eq_getElem?_getD,List.getElem?_append_left hi,← List.getD_eq_getElem?_getD] at this
   exact this
 exact h1.other h.box (by decide) (by decide) (Only.setCell w bx 0 _)
/-- One launch behind it. -/
theorem PlanS.push {bx B:Nat} {v v':Value} {P:List LaunchD} {w w1:World} {x:LaunchD} {A:Option Addr} {cl:Nat} {tmp:Obj} {Pq:Nat→Option Addr} {Qq:Nat→Nat} (hbx:Bk w bx 27 #[v]) (ho:OwnL w B v P Pq Qq) (hx:IntsO w B A x.cargos)
  (hg:(w.alloc tmp).grownBy w1 v.ownBlock) (hown:w1.ownsRow B 52 4 v' (P.length+1) (rowsL P.length 4 (rowP P Pq Qq) ++ [.int .i64 x.day,.int .i64 x.craft,.int .i64 x.pad,.slice A x.cargos.length cl])) :
  PlanS bx B v' (P ++ [x]) (w1.setCell ⟨bx,0,none⟩ v')∧Bk w1 bx 27 #[v]∧FillR bx v.ownBlock w (w1.setCell ⟨bx,0,none⟩ v'):=by
 have hal:Below w.heap.size w (w.alloc tmp):=(Below.refl _ w).alloc (Nat.le_refl _) _
 have h':=ho.later hal
 have hp:=h'.push (hx.later hal) hg hown
 have hb1:Bk w1 bx 27 #[v]:=(hg.block bx (hbx.alloc tmp).lt fun e=>by
  obtain ⟨_,cs,hk⟩:=h'.bk bx e.symm
  exact absurd (bk_ty (hbx.alloc tmp) hk) (by decide)).trans (hbx.alloc tmp)
 refine ⟨⟨hb1.set 0 v',_,_,hp.other hb1 (by decide) (by decide) (Only.setCell w1 bx 0 v')⟩,hb1,?_⟩
 exact ((FillR.below hal).trans (FillR.grown hg) (NewB.refl _ _)).trans (FillR.only (Only.setCell w1 bx 0 v')) (NewB.refl _ _)
def lastD (P:List LaunchD):LaunchD:=match P.getLast? with | some x=>x | none=>⟨-1,0,0,[]⟩
theorem lastD_snoc (P:List LaunchD) (x:LaunchD):lastD (P ++ [x])=x:=by unfold lastD;simp
theorem lastD_get (P:List LaunchD) (n:Nat) (h:P.length=n+1):lastD P=P.getD n launch0:=by
 unfold lastD
 rw [List.getLast?_eq_getElem?,h,Nat.add_sub_cancel,List.getD_eq_getElem?_getD,List.getElem?_eq_getElem (by omega)]
 rfl
end Go.Proofs.YtcnjenlojnognaaGreat
/- What is proved: a contract of what least searches with. Conditions: the campaign is valid, the set is of its cargos; the boxes and the plan lie in memory. -/
namespace Go.Proofs.YtcnjenlojnognaaGreat
open Go.RowKit

section
variable {P:Program} {o:Oper} {a:Act} {w:World} {K:Act→World→Prop} {Q:Exit→Act→World→Prop}
theorem wpo_callV (f:Nat) (lb:Array Value) (x:Operand) (xs:Array Operand) (ts:Array TypeId) (ho:o.op=.call { callee:=.value x,args:=xs,argTypes:=ts }) (hf:a.eval x=.func (.func f) #[] lb) (vs:Array Value) (hx:xs.map a.eval=vs)
  (eg:∀ args w,(callFunc f args).run P w=.ok (.enter f args) w) (args:Array Value) (ha:vs ++ lb=args) (h:Calls P f args w fun e w'=>∃ v,e=.returned v∧K (a.put o.dst v) w'):o.wp P a w K Q:=by
 subst ha
 unfold Oper.wp execOp
 simp only [ho,resolve,hx,hf,Deferred.ofValue,Sem.run_bind,Sem.run_pure,Result.andThen_ok,invoke]
 simp [eg,Oper.upon]
 refine h.mono ?_
 rintro e w' ⟨v,rfl,hk⟩
 exact hk
end
/-- What the search hands back: r, the plan P continued. -/
def FillPost (B bx:Nat) (v:Value) (P:List LaunchD) (r:Option (List LaunchD)) (w:World) (e:Ending) (w':World):Prop :=
 ∃ v',e=.returned (.bool r.isSome)∧FillR bx v.ownBlock w w'∧NewB w v.ownBlock v'.ownBlock∧PlanS bx B v' (P ++ r.getD []) w'
theorem nextB_poss {c:CampD} {f:FreeD} {last:LaunchD} {s:Nat} {x:LaunchD} (h:x ∈ nextB c f last s):possB c x=true∧∃ p,p<64∧x.cargos=bitsL p:=by
 unfold nextB at h
 rw [(sortL_perm _).mem_iff] at h
 simp only [List.mem_flatMap,List.mem_range] at h
 obtain ⟨p,hp,i,_,k,_,hx⟩:=h
 unfold tryB at hx
 dsimp only at hx
 split at hx
 ·rename_i hcond
  rw [List.mem_singleton] at hx
  subst hx
  simp only [Bool.and_eq_true] at hcond
  exact ⟨hcond.1.2,p,(part_lt hp).1,rfl⟩
 ·cases hx
theorem bitsL_lt {p:Nat} {x:Int} (h:x ∈ bitsL p):∃ m:Nat,x=(m:Int)∧m<6:=by
 unfold bitsL at h
 obtain ⟨m,hm,rfl⟩:=List.mem_map.1 h
 exact ⟨m,rfl,List.mem_range.1 (List.mem_filter.1 hm).1⟩
/-- What holds between two launches that are tried. -/
def LoopR (B bx wq wcs nn:Nat) (ob:Option Nat) (f:FreeD) (P NL:List LaunchD) (A5:Option Addr) (T:LaunchD→Option (List LaunchD)) (w:World) (m:Nat) (wr:World):Prop :=
 ∃ vq,FillR bx ob w wr∧NewB w ob vq.ownBlock∧PlanS bx B vq P wr∧Bk wr wq 151 (freeA f)∧PlanO wr wcs A5 NL∧(0<nn→∀ g,A5=some ⟨g,0,none⟩→vq.ownBlock ≠ some g)∧(NL.take m).findSome? T=none
theorem andNot_all:((List.range 64).all fun s=>(List.range 6).all fun m=>decide (bits .andNot .u64 (s:Int) (IntKind.u64.wrap (2 ^ m))=((s &&& (63 ^^^ (1 <<< m)):Nat):Int)))=true:=by kernel_rfl
theorem andNot_one {s m:Nat} (hs:s<64) (hm:m<6):bits .andNot .u64 (s:Int) (IntKind.u64.wrap (2 ^ m))=((s &&& (63 ^^^ (1 <<< m)):Nat):Int):=by
 have h:=List.all_eq_true.1 andNot_all s (List.mem_range.2 hs)
 exact of_decide_eq_true (List.all_eq_true.1 h m (List.mem_range.2 hm))
theorem restS_succ (s:Nat) (l:List Int) (q:Nat) (hq:q<l.length):restS s (l.take (q+1))=restS s (l.take q) &&& (63 ^^^ (1 <<< (numI l q).toNat)):=by
 unfold restS numI
 rw [List.take_add_one,List.foldl_append,List.getElem?_eq_getElem hq,List.getD_eq_getElem?_getD,List.getElem?_eq_getElem hq]
 rfl
theorem restS_le:∀ (l:List Int) (s:Nat),restS s l≤s
 | [],s=>Nat.le_refl s
 | i :: l,s=>Nat.le_trans (restS_le l (s &&& (63 ^^^ (1 <<< i.toNat)))) Nat.and_le_left
theorem findSome_take {α β:Type} (l:List α) (T:α→Option β) (k:Nat) {y:β} (h:(l.take k).findSome? T=some y):l.findSome? T=some y:=by
 have e:=List.take_append_drop k l
 rw [← e,List.findSome?_append,h];rfl
theorem launchA_one (x:LaunchD) (A:Option Addr) (cl:Nat):∀ u ∈ (launchA x A cl).toList,u.oneCell'=true:=by intro u hu;simp [launchA] at hu;rcases hu with rfl | rfl | rfl | rfl <;> rfl
/-- The last launch of a plan, in a box. -/
def LastR (w:World) (B wq:Nat) (f:FreeD) (P:List LaunchD) (w':World):Prop:=Below w.heap.size w w'∧Bk w' wq 151 (freeA f)∧∃ A n,Bk w' (wq+1) 52 (launchA (lastD P) A n)∧IntsO w' B A (lastD P).cargos
set_option maxRecDepth 100000 in
set_option maxHeartbeats 16000000 in
theorem fill_any (B bl bx bc bf N:Nat) (V:CV) (c:CampD) (hc:campB c=true) (hN:N≤7):∀ (left:Nat) (w:World) (f:FreeD) (P:List LaunchD) (v:Value) (s:Nat),FillE B bl bx bc bf N V c w→PlanS bx B v P w→B≤w.heap.size→P.length+left=N→s<2 ^ c.cargos.length →
  Calls Tryz.prog 132 #[.agg (freeA f),.int .u64 (s:Int),.pointer (some ⟨bl,0,none⟩),.pointer (some ⟨bx,0,none⟩),.pointer (some ⟨bc,0,none⟩),.pointer (some ⟨bf,0,none⟩)] w (FillPost B bx v P (fillB c left f (lastD P) s) w):=by
 intro left
 induction left with
 | zero =>
  intro w f P v s hE hP hB hlen hs
  have hs64:s<64:=Nat.lt_of_lt_of_le hs (Nat.pow_le_pow_right (by omega) (by have:=camp_len hc;omega:c.cargos.length≤6))
  obtain ⟨A,cp,rfl,hcp⟩:=hP.form
  obtain ⟨pl,hpl⟩:∃ pl,P.length=pl:=⟨_,rfl⟩
  obtain ⟨wq,hwq⟩:∃ wq,w.heap.size=wq:=⟨_,rfl⟩
  obtain ⟨W1,hW1⟩:∃ W1,w.alloc (.cells (freeA f) 151)=W1:=⟨_,rfl⟩
  have hb1:Below w.heap.size w W1:=by rw [← hW1];exact (Below.refl _ w).alloc (Nat.le_refl _) _
  have HB1:=Lib.hid hb1
  have HP1:=Lib.hid (hP.later hb1)
  obtain ⟨PQ,hPQ⟩:∃ Q,FillPost B bx (.slice A P.length cp) P (fillB c 0 f (lastD P) s) w=Q:=⟨_,rfl⟩
  have HFIN:Hid (∀ b,(decide (s=0)=b)→PQ (.returned (.bool b)) W1):=Lib.hid fun b h=>by
   rw [← hPQ]
   refine ⟨_,?_,FillR.below HB1.out,NewB.refl _ _,?_⟩
   ·rw [← h];unfold fillB;by_cases h0:s=0
    ·rw [if_pos h0,decide_eq_true h0];rfl
    ·rw [if_neg h0,decide_eq_false h0];rfl
   ·have:(fillB c 0 f (lastD P) s).getD []=[]:=by unfold fillB;split <;> rfl
    rw [this,List.append_nil];exact HP1.out
  have k1:W1.cell? ⟨bl,0,none⟩=some (.int .i64 N):=(hE.kl.below hb1 hE.kl.lt).cell 0
  have k2:W1.cell? ⟨bx,0,none⟩=some (.slice A pl cp):=by rw [← hpl];exact (hP.box.below hb1 hP.box.lt).cell 0
  rw [hPQ]
  obtain ⟨sz,hsz⟩:∃ z,sizeS s=z:=⟨_,rfl⟩
  have HSZ:=Lib.hid (size_any s hs64 W1)
  rw [hsz] at HSZ
  have hsz0:¬ ((sz:Int)<0):=by omega
  have hws:IntKind.i64.wrap ((N:Int) - (pl:Int))=0:=by rw [IntWalk.i64_in _ (by omega)];omega
  have hpl0:(0:Int)≤(pl:Int):=by omega
  clear hP hE hlen hs hs64 hpl hb1 hPQ hsz hc
  simp only [freeA] at hW1 ⊢
  go_enter Tryz.func132,Tryz.ntmps132
  go_upto_region 1 with (fail)
  clear hW1 hwq
  refine wp_scope_straight ?_
  go_wp2_with fail
  refine HSZ.out.mono ?_
  rintro e W2 ⟨rfl,hw2⟩
  subst hw2
  rcases Nat.eq_zero_or_pos s with h0 | h0
  ·have HF:=Lib.hid (HFIN.out true (decide_eq_true h0))
   subst h0
   clear HFIN
   go_wp2_with fail
   try rw [Exit.noGoto_ret]
   first | exact HF.out | (go_ret;exact HF.out)
  ·have HF:=Lib.hid (HFIN.out false (decide_eq_false (by omega)))
   have hsi:((s:Int) == 0)=false:=by rw [beq_eq_false_iff_ne];omega
   have hsj:¬ (s:Int)=0:=by omega
   clear HFIN h0
   go_wp2_with fail
   try rw [Exit.noGoto_ret]
   first | exact HF.out | (go_ret;exact HF.out)
 | succ left ih =>
  intro w f P v s hE hP hB hlen hs
  have hs64:s<64:=Nat.lt_of_lt_of_le hs (Nat.pow_le_pow_right (by omega) (by have:=camp_len hc;omega:c.cargos.length≤6))
  obtain ⟨A,cp,rfl,hcp⟩:=hP.form
  obtain ⟨pl,hpl⟩:∃ pl,P.length=pl:=⟨_,rfl⟩
  obtain ⟨wq,hwq⟩:∃ wq,w.heap.size=wq:=⟨_,rfl⟩
  obtain ⟨W1,hW1⟩:∃ W1,w.alloc (.cells (freeA f) 151)=W1:=⟨_,rfl⟩
  have hb1:Below w.heap.size w W1:=by rw [← hW1];exact (Below.refl _ w).alloc (Nat.le_refl _) _
  have HB1:=Lib.hid hb1
  have hkf1:Bk W1 wq 151 (freeA f):=by rw [← hW1,← hwq];exact Bk.new _ _ _
  have hsz1:W1.heap.size=wq+1:=by rw [← hW1,← hwq];simp
  have HKF1:=Lib.hid hkf1
  have HP1:=Lib.hid (hP.later hb1)
  have HP:=Lib.hid hP
  have HE:=Lib.hid hE
  have HWQ:Hid (w.heap.size=wq):=Lib.hid hwq
  have HPL:=Lib.hid hpl
  have HC:=Lib.hid hc
  have HS:=Lib.hid hs
  have HS64:=Lib.hid hs64
  obtain ⟨r,hr⟩:∃ r,fillB c (left+1) f (lastD P) s=r:=⟨_,rfl⟩
  have HR:=Lib.hid hr
  obtain ⟨PQ,hPQ⟩:∃ Q,FillPost B bx (.slice A P.length cp) P r w=Q:=⟨_,rfl⟩
  have HFIN:Hid (∀ v' w',FillR bx (Value.slice A pl cp).ownBlock w w'→NewB w (Value.slice A pl cp).ownBlock v'.ownBlock→PlanS bx B v' (P ++ r.getD []) w'→PQ (.returned (.bool r.isSome)) w'):=Lib.hid fun v' w' h1 h2 h3=>by
   rw [← hPQ,hpl];exact ⟨v',rfl,h1,h2,h3⟩
  have k1:W1.cell? ⟨bl,0,none⟩=some (.int .i64 N):=(hE.kl.below hb1 hE.kl.lt).cell 0
  have k2:W1.cell? ⟨bx,0,none⟩=some (.slice A pl cp):=by rw [← hpl];exact (hP.box.below hb1 hP.box.lt).cell 0
  rw [hr,hPQ]
  obtain ⟨sz,hsz⟩:∃ z,sizeS s=z:=⟨_,rfl⟩
  have HSZ:=Lib.hid (size_any s hs64 W1)
  rw [hsz] at HSZ
  obtain ⟨n1,hn1⟩:∃ n1:Nat,left+1=n1:=⟨_,rfl⟩
  have hws:IntKind.i64.wrap ((N:Int) - (pl:Int))=(n1:Int):=by rw [IntWalk.i64_in _ (by omega)];omega
  have hpl0:(0:Int)≤(pl:Int):=by omega
  have hl0:((n1:Int) == 0)=false:=by rw [beq_eq_false_iff_ne];omega
  have hl0':¬ (n1:Int)=0:=by omega
  have HNO:Hid (r=none→PQ (.returned (.bool false)) W1):=Lib.hid fun h=>by
   have:=HFIN.out (.slice A pl cp) W1 (FillR.below HB1.out) (NewB.refl _ _) (by rw [h,← hpl];show PlanS bx B _ (P ++ []) W1;rw [List.append_nil];exact HP1.out)
   rw [h] at this;exact this
  have hpq7:pl≤7:=by omega
  have hpn:pl+n1=N:=by omega
  clear hP hE hlen hs hs64 hpl hb1 hPQ hr hkf1 hc
  simp only [freeA] at hW1 ⊢
  go_enter Tryz.func132,Tryz.ntmps132
  go_upto_region 1 with (fail)
  clear hW1 hwq
  refine wp_scope_straight ?_
  by_cases hc1:sz<n1
  ·have hlt:(sz:Int)<(n1:Int):=by omega
   have HF:=Lib.hid (HNO.out (by rw [← HR.out];unfold fillB;rw [if_pos (Or.inl (by omega))]))
   clear HNO hc1
   rcases Nat.eq_zero_or_pos s with h0 | h0
   ·subst h0
    go_wp2_with fail
    refine HSZ.out.mono ?_
    rintro e W2 ⟨rfl,hw2⟩
    subst hw2
    go_wp2_with fail
    try rw [Exit.noGoto_ret]
    first | exact HF.out | (go_ret;exact HF.out)
   ·have hsi:((s:Int) == 0)=false:=by rw [beq_eq_false_iff_ne];omega
    have hsj:¬ (s:Int)=0:=by omega
    clear h0
    go_wp2_with fail
    refine HSZ.out.mono ?_
    rintro e W2 ⟨rfl,hw2⟩
    subst hw2
    go_wp2_with fail
    try rw [Exit.noGoto_ret]
    first | exact HF.out | (go_ret;exact HF.out)
  have hnlt:¬ (sz:Int)<(n1:Int):=by omega
  rcases Nat.eq_zero_or_pos s with h0 | h0
  ·have HF:=Lib.hid (HNO.out (by rw [← HR.out];unfold fillB;rw [if_pos (Or.inr h0)]))
   subst h0
   clear HNO hc1
   go_wp2_with fail
   refine HSZ.out.mono ?_
   rintro e W2 ⟨rfl,hw2⟩
   subst hw2
   go_wp2_with fail
   try rw [Exit.noGoto_ret]
   first | exact HF.out | (go_ret;exact HF.out)
  have hsi:((s:Int) == 0)=false:=by rw [beq_eq_false_iff_ne];omega
  have hsj:¬ (s:Int)=0:=by omega
  have HRB:Hid (r=(nextB c f (lastD P) s).findSome? fun x=>if sizeS (restS s x.cargos)<left ∨ (left=0∧restS s x.cargos ≠ 0) then none else (fillB c left (behindB c f x) x (restS s x.cargos)).map fun l=>x :: l):=Lib.hid (by
   rw [← HR.out]
   show (if _ then _ else _)=_
   rw [if_neg (by omega)])
  clear HNO hc1 HR
  go_wp2_with fail
  refine HSZ.out.mono ?_
  rintro e W2 ⟨rfl,hw2⟩
  subst hw2
  have HKB:Hid (Bk (W2.alloc (.cells #[.int .i64 0,.int .i64 0,.int .i64 0,.slice none 0 0] 52)) (wq+1) 52 #[.int .i64 0,.int .i64 0,.int .i64 0,.slice none 0 0]):=Lib.hid (Bk.newAt _ _ _ _ hsz1.symm)
  go_upto_region 5 with (first | (refine wpStoreAt rfl rfl 52 _ _ rfl (wq+1) 0 rfl #[.int .i64 (-1),.int .i64 0,.int .i64 0,.slice none 0 0] rfl 52 _ HKB.out (by show 0+4≤4;omega) (cellX_one _ _ _ _ _ _) (info_cellX _ _ _ _ _ _) ?_;intro wf hkf hof))
  rw [splA_four _ _ rfl rfl] at hkf
  have hbf:Below W2.heap.size W2 wf:=((Below.refl _ _).alloc (Nat.le_refl _) _).trans (hof.below (by omega))
  have HBF:Hid (Below w.heap.size w wf):=Lib.hid (HB1.out.trans (hbf.mono HB1.out.size))
  have HKF2:=Lib.hid (HKF1.out.below hbf HKF1.out.lt)
  have HKL:=Lib.hid hkf
  have hszf:wf.heap.size=wq+1+1:=by rw [hof.size];simp;omega
  have k2:wf.cell? ⟨bx,0,none⟩=some (.slice A pl cp):=by
   have:=((HP.out.later HBF.out).box).cell 0
   rw [← HPL.out];exact this
  have HPW:=Lib.hid (HP.out.later HBF.out)
  clear hkf hof hbf HKB
  go_upto_if 41 with (fail)
  go_cut [42,43,44,45,46,47] (fun _ _ _ _ _ _ w'=>LastR w B wq f P w')
  case first =>
   by_cases h0:0<pl
   ·obtain ⟨Pq,Qq,ho⟩:=HPW.out.own
    obtain ⟨n,hn⟩:∃ n,pl=n+1:=⟨pl - 1,by omega⟩
    subst hn
    obtain ⟨A',c',e,_,hrow⟩:=ho.form
    obtain ⟨g,e2,hBg,hgl,⟨cur,hbk⟩,hcell⟩:=hrow n (by rw [HPL.out];omega)
    injection e with e1 _ _
    subst e1 e2
    have hint:=ho.ints n (by rw [HPL.out];omega)
    have hlast:=lastD_get P n HPL.out
    rw [← hlast] at hint
    have HCL:Hid (∀ j u,(launchA (lastD P) (Pq n) (Qq n))[j]?=some u→wf.cell? ⟨g,n * 4+j,none⟩=some u):=Lib.hid fun j u hj=>by
     have hj4:j<4:=(Array.getElem?_eq_some_iff.1 hj).1
     rw [hcell j hj4,← hj]
     unfold rowP
     rw [← hlast]
     match j,hj4 with
     | 0,_=>rfl
     | 1,_=>rfl
     | 2,_=>rfl
     | 3,_=>rfl
    have HINT:=Lib.hid hint
    have hws2:IntKind.i64.wrap (((n+1:Nat):Int) - 1)=(n:Int):=by rw [IntWalk.i64_in _ (by omega)];omega
    have hgt:(0:Int)<((n+1:Nat):Int):=by omega
    have hnl:(n:Int)<((n+1:Nat):Int):=by omega
    have hn0:(0:Int)≤(n:Int):=by omega
    clear hrow hcell hbk hlast hint ho h0
    go_wp2_with (first | (refine wpLoadAt rfl 52 _ rfl g (n * 4) rfl (launchA (lastD P) (Pq n) (Qq n)) _ HCL.out und_launch rfl (info_launchA _ _ _) ?_) | (refine wpStoreAt rfl rfl 52 _ _ rfl (wq+1) 0 rfl (launchA (lastD P) (Pq n) (Qq n)) rfl 52 _ HKL.out (by show 0+4≤4;omega) (launchA_one _ _ _) (info_launchA _ _ _) ?_;intro wg hkg hog))
    rw [splA_four _ _ rfl rfl] at hkg
    go_meet
    case rel=>exact ⟨HBF.out.trans (hog.below (by have:=HWQ.out;omega)),(hog.block wq (by omega)).trans HKF2.out,_,_,hkg,HINT.out.other HKL.out (by decide) fun k _ hne=>hog.block k hne⟩
   ·have h00:pl=0:=by omega
    subst h00
    have hPn:P=[]:=List.length_eq_zero_iff.1 HPL.out
    go_wp2_with fail
    go_meet
    case rel=>exact ⟨HBF.out,HKF2.out,none,0,by rw [hPn];exact HKL.out,by rw [hPn];exact Cl.nil _ _ _ _ _ _⟩
  case rest =>
   obtain ⟨hbc,hkfc,Al,ll,hkl,hil⟩:=hcut
   have HBC:=Lib.hid hbc
   have HKFC:=Lib.hid hkfc
   have hec:=HE.out.later hB hbc
   have HPC:=Lib.hid (HP.out.later hbc)
   obtain ⟨NL,hNL⟩:∃ NL,nextB c f (lastD P) s=NL:=⟨_,rfl⟩
   have HPO:Hid (∀ x ∈ NL,possB c x=true∧∃ p,p<64∧x.cargos=bitsL p):=Lib.hid fun x hx=>nextB_poss (by rw [hNL];exact hx)
   have hnx:=next_any wc V c (hec.camp.mono (by have:=hbc.size;omega)) HC.out f (lastD P) Al ll hil.at s HS.out
   obtain ⟨nn,hnn⟩:∃ nn,NL.length=nn:=⟨_,rfl⟩
   have HNN:=Lib.hid hnn
   have HLEN:Hid (NL.length≤4096):=Lib.hid (by
    rw [← hNL,nextB_all,(sortL_perm _).length_eq]
    have h1:=allP_len HC.out f (lastD P) (downL s)
    have h2:(downL s).length≤64:=by unfold downL partsS;rw [List.length_reverse];exact Nat.le_trans (List.length_filter_le _ _) (by simp)
    omega)
   unfold LsPost at hnx
   rw [hNL,hnn] at hnx
   rw [hNL] at HRB
   have HNX:=Lib.hid hnx
   have hnn4:nn≤4096:=by rw [← hnn];exact HLEN.out
   obtain ⟨wcs,hwcs⟩:∃ x,wc.heap.size=x:=⟨_,rfl⟩
   have HWCS:=Lib.hid hwcs
   have HL1:Hid (∀ j u,(campA V c)[j]?=some u→wc.cell? ⟨bc,0+j,none⟩=some u):=Lib.hid fun j u hj=>by rw [Nat.zero_add,hec.kc.cell];exact hj
   have HL2:Hid (∀ j u,(freeA f)[j]?=some u→wc.cell? ⟨wq,0+j,none⟩=some u):=Lib.hid fun j u hj=>by rw [Nat.zero_add,hkfc.cell];exact hj
   have HL3:Hid (∀ j u,(launchA (lastD P) Al ll)[j]?=some u→wc.cell? ⟨wq+1,0+j,none⟩=some u):=Lib.hid fun j u hj=>by rw [Nat.zero_add,hkl.cell];exact hj
   clear hbc hkfc hkl hil hec hNL hnn hnx k1 k2 hsz hwcs hszf
   go_wp2_with fail
   go_step3
   go_wp2_with (first | (refine wpLoadAt rfl 26 _ rfl bc 0 rfl (campA V c) _ HL1.out und_camp rfl (info_campA V c) ?_) | (refine wpLoadAt rfl 151 _ rfl wq 0 rfl (freeA f) _ HL2.out und_free rfl info_free ?_) | (refine wpLoadAt rfl 52 _ rfl (wq+1) 0 rfl (launchA (lastD P) Al ll) _ HL3.out und_launch rfl (info_launchA _ _ _) ?_))
   refine HNX.out.mono ?_
   rintro e W5 ⟨A5,c5,rfl,hc5,hpo,hb5⟩
   obtain ⟨T,hT⟩:∃ T:LaunchD→Option (List LaunchD),(fun x=>if sizeS (restS s x.cargos)<left ∨ (left=0∧restS s x.cargos ≠ 0) then none else (fillB c left (behindB c f x) x (restS s x.cargos)).map fun l=>x :: l)=T:=⟨_,rfl⟩
   have HT:Hid (∀ x,T x=if sizeS (restS s x.cargos)<left ∨ (left=0∧restS s x.cargos ≠ 0) then none else (fillB c left (behindB c f x) x (restS s x.cargos)).map fun l=>x :: l):=Lib.hid fun x=>by rw [← hT]
   rw [hT] at HRB
   obtain ⟨ob,hob⟩:∃ ob,(Value.slice A pl cp).ownBlock=ob:=⟨_,rfl⟩
   rw [hob] at HFIN
   have HST:Hid (LoopR B bx wq wcs nn ob f P NL A5 T w 0 W5):=Lib.hid (by
    refine ⟨.slice A P.length cp,FillR.below (HBC.out.trans (hb5.mono HBC.out.size)),.inl ?_,HPC.out.later hb5,HKFC.out.below hb5 HKFC.out.lt,by rw [← HWCS.out];exact hpo,fun h0 g e=>?_,rfl⟩
    ·rw [HPL.out];exact hob
    ·obtain ⟨g',cur,Pn,Qn,e2,hro⟩:=hpo.rows (by rw [HNN.out];exact h0)
     rw [e] at e2
     injection e2 with e2
     injection e2 with e2
     intro e3
     have h1:=HP.out.size g e3
     have h2:=hro.lo
     have h3:=HBC.out.size
     omega)
   have HOB:Hid ((Value.slice A P.length cp).ownBlock=ob):=Lib.hid (by rw [HPL.out];exact hob)
   clear hT hob hpo hb5
   go_wp2_with fail
   go_loopw [54] (fun iv wr=>∃ m:Nat,m≤nn∧iv=.int .i64 m∧Hid (LoopR B bx wq wcs nn ob f P NL A5 T w m wr)) (fun iv _=>nn - (intOf iv).toNat)
   case atStart=>exact ⟨0,Nat.zero_le _,rfl,HST⟩
   case round =>
    obtain ⟨wo,rfl⟩:∃ wo:World,wo=wr:=⟨_,rfl⟩
    obtain ⟨m,hm,rfl,hlo⟩:=hrel
    have h0m:(0:Int)≤(m:Int):=by omega
    by_cases hmn:m<nn
    ·have hmi:(m:Int)<(nn:Int):=by omega
     obtain ⟨vq,l1,l2,l3,l4,l5,l6,l7⟩:=hlo.out
     obtain ⟨g,cur,Pn,Qn,hA5,hro⟩:=l5.rows (by rw [HNN.out];omega)
     subst hA5
     obtain ⟨Aq,cq,hvq,hcq⟩:=l3.form
     rw [HPL.out] at hvq hcq
     subst hvq
     obtain ⟨x,hx⟩:∃ x,NL.getD m launch0=x:=⟨_,rfl⟩
     have hxm:x ∈ NL:=by rw [← hx,List.getD_eq_getElem?_getD,List.getElem?_eq_getElem (by rw [HNN.out];exact hmn),Option.getD_some];exact List.getElem_mem _
     have hxi:=hro.ints m (by rw [HNN.out];exact hmn)
     have hxr:=hro.row m (by rw [HNN.out];exact hmn)
     rw [hx] at hxi hxr
     obtain ⟨A2,hA2⟩:∃ A2,Pn m=A2:=⟨_,rfl⟩
     obtain ⟨n2,hn2⟩:∃ n2,Qn m=n2:=⟨_,rfl⟩
     rw [hA2] at hxi hxr
     rw [hn2] at hxr
     have HCL:Hid (∀ j u,(launchA x A2 n2)[j]?=some u→wo.cell? ⟨g,m * 4+j,none⟩=some u):=Lib.hid fun j u hj=>by
      have hj4:j<4:=(Array.getElem?_eq_some_iff.1 hj).1
      rw [hro.bk.cell,hxr j hj4,← hj]
      match j,hj4 with
      | 0,_=>rfl
      | 1,_=>rfl
      | 2,_=>rfl
      | 3,_=>rfl
     obtain ⟨hxp,p,hp64,hxc⟩:=HPO.out x hxm
     have HXP:=Lib.hid hxp
     obtain ⟨nx,hnx⟩:∃ nx,x.cargos.length=nx:=⟨_,rfl⟩
     have HNXL:=Lib.hid hnx
     have hnx6:nx≤6:=by rw [← hnx,hxc];unfold bitsL;rw [List.length_map];exact Nat.le_trans (List.length_filter_le _ _) (by simp)
     have HXC:Hid (∀ y ∈ x.cargos,∃ m:Nat,y=(m:Int)∧m<6):=Lib.hid fun y hy=>bitsL_lt (by rw [← hxc];exact hy)
     have HTK:Hid ((NL.take (m+1)).findSome? T=T x):=Lib.hid (by
      rw [List.take_add_one,List.findSome?_append,l7,List.getElem?_eq_getElem (by rw [HNN.out];exact hmn)]
      have:NL[m]'(by rw [HNN.out];exact hmn)=x:=by rw [← hx,List.getD_eq_getElem?_getD,List.getElem?_eq_getElem (by rw [HNN.out];exact hmn)];rfl
      rw [this]
      simp)
     have HL:=Lib.hid (show FillR bx ob w wo∧NewB w ob (Value.slice Aq pl cq).ownBlock∧PlanS bx B (.slice Aq pl cq) P wo∧Bk wo wq 151 (freeA f)∧RowsO wo wcs g cur NL Pn Qn∧(Value.slice Aq pl cq).ownBlock ≠ some g from ⟨l1,l2,l3,l4,hro,l6 (by omega) g rfl⟩)
     have HXI:=Lib.hid hxi
     have hwcsl:wcs≤wo.heap.size:=by have:=hro.lo;have:=hro.bk.lt;omega
     have HMN:=Lib.hid hmn
     clear hlo l1 l2 l3 l4 l5 l6 l7 hro hx hxm hxi hxr hA2 hn2 hxp hxc hnx hm
     obtain ⟨bq,hbq⟩:∃ bq,wo.heap.size=bq:=⟨_,rfl⟩
     have HBQ:=Lib.hid hbq
     have HKX:Hid (Bk (wo.alloc (.cells #[.int .i64 0,.int .i64 0,.int .i64 0,.slice none 0 0] 52)) bq 52 #[.int .i64 0,.int .i64 0,.int .i64 0,.slice none 0 0]):=Lib.hid (by rw [← hbq];exact Bk.new _ _ _)
     go_upto_region 10 with (first | (refine wpLoadAt rfl 52 _ rfl g (m * 4) rfl (launchA x A2 n2) _ HCL.out und_launch rfl (info_launchA _ _ _) ?_) | (refine wpStoreAt rfl rfl 52 _ _ rfl bq 0 rfl (launchA x A2 n2) rfl 52 _ HKX.out (by show 0+4≤4;omega) (launchA_one _ _ _) (info_launchA _ _ _) ?_;intro wg hkg hog))
     rw [splA_four _ _ rfl rfl] at hkg
     have hbg:Below wo.heap.size wo wg:=((Below.refl _ wo).alloc (Nat.le_refl _) _).trans (hog.below (by omega))
     have HBG:=Lib.hid hbg
     have HKG:=Lib.hid hkg
     have x3:wg.cell? ⟨bq,3,none⟩=some (.slice A2 nx n2):=by rw [hkg.cell,← HNXL.out];rfl
     have HXI2:=Lib.hid (HXI.out.later hbg)
     clear hkg hog hbg hbq HKX
     go_wp2_with fail
     go_loopw [13,62] (fun rv iv wr=>Hid (wr=wg)∧∃ q:Nat,q≤nx∧iv=.int .i64 q∧rv=.int .u64 (restS s (x.cargos.take q):Nat)) (fun _ iv _=>nx - (intOf iv).toNat)
     case atStart=>exact ⟨Lib.hid rfl,0,Nat.zero_le _,rfl,rfl⟩
     case round =>
      obtain ⟨hw,q,hq,rfl,rfl⟩:=hrel
      have hw':=hw.out
      subst hw'
      have h0q:(0:Int)≤(q:Int):=by omega
      by_cases hqn:q<nx
      ·have hqi:(q:Int)<(nx:Int):=by omega
       obtain ⟨ga,cu,hA,hlo2,hbk2,hcur⟩:=HXI2.out.2 (by rw [HNXL.out];omega)
       subst hA
       have he:wr.cell? ⟨ga,q,none⟩=some (.int .i64 (numI x.cargos q)):=by
        rw [hbk2.cell]
        have:=hcur q (by rw [HNXL.out];exact hqn) 0 (by omega)
        simpa using this
       have hmem:numI x.cargos q ∈ x.cargos:=by
        unfold numI
        rw [List.getD_eq_getElem?_getD,List.getElem?_eq_getElem (by rw [HNXL.out];exact hqn),Option.getD_some]
        exact List.getElem_mem _
       obtain ⟨mm,hmm,hml⟩:=HXC.out _ hmem
       rw [hmm] at he
       have h0mm:(0:Int)≤(mm:Int):=by omega
       have hmm6:(mm:Int)<6:=by omega
       clear hbk2 hcur hmem
       have hrl:restS s (x.cargos.take q)<64:=Nat.lt_of_le_of_lt (restS_le _ _) HS64.out
       have hands:=andNot_one hrl hml
       have HSU:Hid (restS s (x.cargos.take (q+1))=restS s (x.cargos.take q) &&& (63 ^^^ (1 <<< mm))):=Lib.hid (by rw [restS_succ _ _ _ (by rw [HNXL.out];exact hqn),hmm,Int.toNat_natCast])
       have HAN:=Lib.hid hands
       clear hands hrl hmm
       go_wp2_with fail
       go_roundw
       case rel=>exact ⟨Lib.hid trivial,q+1,by omega,by go_num,by rw [HSU.out,HAN.out]⟩
       case measure=>simp [intOf];omega
      ·obtain rfl:q=nx:=by omega
       rw [List.take_of_length_le (by rw [HNXL.out];exact Nat.le_refl _)]
       obtain ⟨rest,hrest⟩:∃ rest,restS s x.cargos=rest:=⟨_,rfl⟩
       have hrs:rest≤s:=by rw [← hrest];exact restS_le _ _
       have hr64:rest<64:=Nat.lt_of_le_of_lt hrs HS64.out
       rw [hrest]
       obtain ⟨rz,hrz⟩:∃ z,sizeS rest=z:=⟨_,rfl⟩
       have hszc:=size_any rest hr64 wr
       rw [hrz] at hszc
       have HSZ2:=Lib.hid hszc
       have HTX:Hid (T x=if rz<left ∨ (left=0∧rest ≠ 0) then none else (fillB c left (behindB c f x) x rest).map fun l=>x :: l):=Lib.hid (by rw [HT.out,hrest,hrz])
       have HSK:Hid (T x=none→LoopR B bx wq wcs nn ob f P NL (some ⟨g,0,none⟩) T w (m+1) wr):=Lib.hid fun h=>by
        obtain ⟨l1,l2,l3,l4,l5,l6⟩:=HL.out
        exact ⟨_,l1.trans (FillR.below HBG.out) (NewB.refl _ _),l2,l3.later HBG.out,l4.below HBG.out l4.lt,⟨HLEN.out,fun h0=>⟨g,cur,Pn,Qn,rfl,l5.later HBG.out⟩⟩,fun _ g' e=>by cases e;exact l6,by rw [HTK.out];exact h⟩
       have hws3:IntKind.i64.wrap ((n1:Int) - 1)=(left:Int):=by rw [IntWalk.i64_in _ (by omega)];omega
       have hri:(0:Int)≤(rest:Int):=by omega
       clear hszc hrest hrz x3
       by_cases hz1:rz<left
       ·have hlt3:(rz:Int)<(left:Int):=by omega
        have HF:=Lib.hid (HSK.out (by rw [HTX.out,if_pos (Or.inl hz1)]))
        clear hz1 HSK HTX
        go_wp2_with fail
        refine HSZ2.out.mono ?_
        rintro e W2 ⟨rfl,hw2⟩
        subst hw2
        go_wp2_with fail
        go_roundw
        case rel=>first | exact ⟨m+1,by omega,by go_num,HF⟩ | ((repeat apply Exists.intro);exact ⟨⟨m+1,by omega,by go_num,HF⟩,rfl⟩)
        case measure=>simp [intOf];omega
       have hge3:¬ (rz:Int)<(left:Int):=by omega
       by_cases hz2:left=0∧rest ≠ 0
       ·have HF:=Lib.hid (HSK.out (by rw [HTX.out,if_pos (Or.inr hz2)]))
        have hn1:((n1:Int) == 1)=true:=by rw [beq_iff_eq];omega
        have hr0:((rest:Int) == 0)=false:=by rw [beq_eq_false_iff_ne];have:=hz2.2;omega
        have hr0':¬ (rest:Int)=0:=by have:=hz2.2;omega
        have hr1:((rest:Int) != 0)=true:=by rw [bne_iff_ne];exact hr0'
        clear hz1 hz2 HSK HTX
        go_wp2_with fail
        refine HSZ2.out.mono ?_
        rintro e W2 ⟨rfl,hw2⟩
        subst hw2
        go_wp2_with fail
        go_roundw
        case rel=>first | exact ⟨m+1,by omega,by go_num,HF⟩ | ((repeat apply Exists.intro);exact ⟨⟨m+1,by omega,by go_num,HF⟩,rfl⟩)
        case measure=>simp [intOf];omega
       have HTY:Hid (T x=(fillB c left (behindB c f x) x rest).map fun l=>x :: l):=Lib.hid (by rw [HTX.out,if_neg (by omega)])
       clear HTX HSK
       have HSZ3:Hid (Calls Tryz.prog 133 #[.int .u64 (rest:Int)] wr fun e w'=>e=.returned (.int .i64 (rz:Int))∧wr=w'):=Lib.hid (HSZ2.out.mono fun e w' h=>⟨h.1,h.2.symm⟩)
       have hrr:((((n1:Int) == 1)=true∧((rest:Int) != 0)=false)) ∨ (((n1:Int) == 1)=false):=by
        by_cases h:left=0
        ·have h2:rest=0:=by
          rcases Nat.eq_zero_or_pos rest with h3 | h3
          ·exact h3
          ·exact absurd ⟨h,by omega⟩ hz2
         left
         exact ⟨by rw [beq_iff_eq];omega,by rw [h2];rfl⟩
        ·right;rw [beq_eq_false_iff_ne];omega
       obtain ⟨r2,hr2⟩:∃ r2,fillB c left (behindB c f x) x rest=r2:=⟨_,rfl⟩
       rw [hr2] at HTY
       obtain ⟨b2,hb2⟩:∃ b,r2.isSome=b:=⟨_,rfl⟩
       have HB2:=Lib.hid hb2
       have HR2:=Lib.hid hr2
       obtain ⟨l1,l2,l3,l4,l5,l6⟩:=HL.out
       have h3r:=l3.later HBG.out
       obtain ⟨Pq,Qq,ho⟩:=h3r.own
       have hown:=ho.row
       rw [HPL.out] at hown
       have HOV:=Lib.hid ho
       have HBV:=Lib.hid h3r.box
       have H3R:=Lib.hid h3r
       have HEO:Hid (FillE B bl bx bc bf N V c wr):=Lib.hid (((HE.out.fill (v:=.slice A P.length cp) (by rw [HOB.out];exact l1) HP.out)).later (by have:=l1.size;omega) HBG.out)
       have HKW:Hid (Bk wr wq 151 (freeA f)):=Lib.hid (l4.below HBG.out l4.lt)
       have HRW:=Lib.hid (l5.later HBG.out)
       have HOQ:Hid ((Value.slice Aq pl cq).ownBlock ≠ some bq):=Lib.hid fun e=>by
        have h1:=l3.size bq e
        have h2:=HBQ.out
        omega
       have HL6:=Lib.hid l6
       have HFR:Hid (FillR bx ob w wr):=Lib.hid (l1.trans (FillR.below HBG.out) (NewB.refl _ _))
       have HNB:=Lib.hid l2
       have kb:wr.cell? ⟨bx,0,none⟩=some (.slice Aq pl cq):=h3r.box.cell 0
       have HLX:Hid (∀ j u,(#[.int .i64 x.day,.int .i64 x.craft,.int .i64 x.pad,.slice A2 q n2]:Array Value)[j]?=some u→wr.cell? ⟨bq,0+j,none⟩=some u):=Lib.hid fun j u hj=>by rw [Nat.zero_add,HKG.out.cell,← hj,← HNXL.out];rfl
       have hBwr:B≤wr.heap.size:=by have:=HBG.out.size;have:=l1.size;omega
       have HBS:Hid (B≤wcs):=Lib.hid (by have:=HBC.out.size;have:=HWCS.out;omega)
       clear l1 l2 l3 l4 l5 l6 ho h3r hr2 hb2 hz1 hz2 HSZ2
       obtain ⟨i0,hi0,hq0,hq1,hq2⟩:=info_parts infoL
       have HIL:=Lib.hid hi0
       have HZ0:=Lib.hid hq0
       have HZ1:=Lib.hid hq1
       have HZ2:=Lib.hid hq2
       clear hi0 hq0 hq1 hq2
       rcases hrr with ⟨hn1,hr1⟩ | hn1
       all_goals (
        go_wp2_with fail
        refine HSZ3.out.mono ?_
        rintro e _ ⟨rfl,rfl⟩
        go_wp2_with (first | (refine wpLoadAt rfl 52 _ rfl bq 0 rfl #[.int .i64 x.day,.int .i64 x.craft,.int .i64 x.pad,.slice A2 q n2] _ HLX.out und_launch rfl info_launch ?_) | (at_builtin;refine wpList_append_own_at _ rfl _ _ 27 rfl B 52 i0 (.agg #[.int .i64 0,.int .i64 0,.int .i64 0,.slice none 0 0]) 4 48 Tryz.underlying27 HIL.out HZ0.out HZ1.out HZ2.out rfl (by decide) _ _ _ rfl (hown.alloc _) ⟨wr.heap.size,0,none⟩ 1 1 [.int .i64 x.day,.int .i64 x.craft,.int .i64 x.pad,.slice A2 q n2] rfl rfl ?qc2 ?qc3 ?qc4 ?qc5 ?qc6 ?qc7))
        case qc2=>intro j u hj;match j,hj with | 0,hj=>simp at hj;subst hj;simp [Addr.add] | 1,hj=>simp at hj;subst hj;simp [Addr.add] | 2,hj=>simp at hj;subst hj;simp [Addr.add] | 3,hj=>simp at hj;subst hj;simp [Addr.add]
        case qc3=>intro u hu;simp at hu;rcases hu with rfl | rfl | rfl | rfl <;> rfl
        case qc4=>unfold maxLen;omega
        case qc5=>omega
        case qc6=>simp;omega
        case qc7 =>
         intro v' w7 hown' hgrow _ hat
         have hpush:=PlanS.push (x:=x) (A:=A2) (cl:=n2) HBV.out HOV.out (HXI2.out.mono HBS.out) hgrow (by rw [HPL.out,HNXL.out];exact hown')
         obtain ⟨g',cap',rfl⟩:=ownsRow_succ hown'
         have c7:=hpush.2.1.cell 0
         have f7:=hpush.2.1.free 0
         obtain ⟨W8,hW8⟩:∃ W8,w7.setCell ⟨bx,0,none⟩ (.slice (some ⟨g',0,none⟩) (pl+1) cap')=W8:=⟨_,rfl⟩
         rw [hW8] at hpush
         have hnb:NewB wr (Value.slice Aq pl cq).ownBlock (some g'):=by
          rcases hat with h | h
          ·exact .inl h
          ·refine .inr fun k e=>?_
           have h1:some g'=some (wr.heap.size+1):=by simpa [Value.ownBlock] using h
           rw [e] at h1
           injection h1 with h1
           omega
         have HNW:=Lib.hid hnb
         have HPS8:=Lib.hid hpush.1
         have HFR8:=Lib.hid hpush.2.2
         have HE8:=Lib.hid (HEO.out.fill hpush.2.2 H3R.out)
         have HKW8:=Lib.hid (hpush.2.2.keep H3R.out HKW.out (by decide) (by decide))
         have HKG8:=Lib.hid (hpush.2.2.launch H3R.out HKG.out HOQ.out)
         have HXI8:=Lib.hid (hpush.2.2.ints H3R.out HXI2.out)
         have HRW8:=Lib.hid (hpush.2.2.rows H3R.out HRW.out HL6.out)
         have HB8:Hid (B≤W8.heap.size):=Lib.hid (by have:=hpush.2.2.size;omega)
         have HGN:Hid ((some g':Option Nat) ≠ some g):=Lib.hid fun e=>by
          rcases hnb with h | h
          ·exact HL6.out (by rw [← h];exact e)
          ·have h1:=h g e
           have h2:=HRW.out.bk.lt
           omega
         obtain ⟨JT,hJT⟩:∃ JT:World→Prop,(fun w'=>∃ v2,FillR bx (some g') W8 w'∧NewB W8 (some g') v2.ownBlock∧PlanS bx B v2 ((P ++ [x]) ++ r2.getD []) w')=JT:=⟨_,rfl⟩
         have HJT:Hid (∀ w',JT w' ↔ ∃ v2,FillR bx (some g') W8 w'∧NewB W8 (some g') v2.ownBlock∧PlanS bx B v2 ((P ++ [x]) ++ r2.getD []) w'):=Lib.hid fun w'=>by rw [← hJT]
         have HBEH:Hid (∀ w1,Below W8.heap.size W8 w1→Calls Tryz.prog 135 #[.agg (freeA f),.agg (campA V c),.agg (launchA x A2 n2)] w1 fun e w'=>e=.returned (.agg (freeA (behindB c f x)))∧Below w1.heap.size w1 w'):=Lib.hid fun w1 hb =>
          behind_any w1 V c ((HE8.out.later HB8.out hb).camp.mono (by have:=HB8.out;have:=hb.size;omega)) HC.out f x HXP.out A2 n2
         have HIH:Hid (∀ w1,Below W8.heap.size W8 w1→Calls Tryz.prog 132 #[.agg (freeA (behindB c f x)),.int .u64 (rest:Int),.pointer (some ⟨bl,0,none⟩),.pointer (some ⟨bx,0,none⟩),.pointer (some ⟨bc,0,none⟩),.pointer (some ⟨bf,0,none⟩)] w1 fun e w'=>e=.returned (.bool b2)∧JT w'):=Lib.hid fun w1 hb=>by
          have h1:=ih w1 (behindB c f x) (P ++ [x]) (.slice (some ⟨g',0,none⟩) (pl+1) cap') rest (HE8.out.later HB8.out hb) (HPS8.out.later hb) (by have:=HB8.out;have:=hb.size;omega) (by rw [List.length_append,List.length_singleton,HPL.out];omega) (Nat.lt_of_le_of_lt hrs HS.out)
          rw [lastD_snoc,HR2.out] at h1
          refine h1.mono fun e w' h=>?_
          obtain ⟨v2,q1,q2,q3,q4⟩:=h
          refine ⟨by rw [q1,HB2.out],(HJT.out w').2 ⟨v2,(FillR.below hb).trans q2 (NewB.refl _ _),?_,q4⟩⟩
          rcases q3 with q3 | q3
          ·exact .inl q3
          ·exact .inr fun k e=>Nat.le_trans hb.size (q3 k e)
         have HCE:Hid (∀ w1,Below W8.heap.size W8 w1→w1.cell? ⟨bf,0,none⟩=some (.func (.func 132) #[] #[.pointer (some ⟨bl,0,none⟩),.pointer (some ⟨bx,0,none⟩),.pointer (some ⟨bc,0,none⟩),.pointer (some ⟨bf,0,none⟩)])∧(∀ j u,(freeA f)[j]?=some u→w1.cell? ⟨wq,0+j,none⟩=some u)∧(∀ j u,(campA V c)[j]?=some u→w1.cell? ⟨bc,0+j,none⟩=some u)∧(∀ j u,(launchA x A2 n2)[j]?=some u→w1.cell? ⟨bq,0+j,none⟩=some u)):=Lib.hid fun w1 hb =>
          ⟨(HE8.out.later HB8.out hb).kf.cell 0,fun j u hj=>by rw [Nat.zero_add,(HKW8.out.below hb HKW8.out.lt).cell];exact hj,fun j u hj=>by rw [Nat.zero_add,(HE8.out.later HB8.out hb).kc.cell];exact hj,fun j u hj=>by rw [Nat.zero_add,(HKG8.out.below hb HKG8.out.lt).cell];exact hj⟩
         clear hpush hown' hgrow hat hnb hJT hown kb ih
         go_wp2_with fail
         try rw [hW8]
         refine wp_region_stepsM (by kernel_rfl) (by kernel_rfl) 6 (by decide) (fun bq w1=>if bq=true then JT w1 else Below W8.heap.size W8 w1) (fun _ _ _=>True)
          (fun ix u _ _=>match ix with
           | 0=>u=.func (.func 132) #[] #[.pointer (some ⟨bl,0,none⟩),.pointer (some ⟨bx,0,none⟩),.pointer (some ⟨bc,0,none⟩),.pointer (some ⟨bf,0,none⟩)]
           | 1=>u=.agg (freeA f)
           | 2=>u=.agg (campA V c)
           | 3=>u=.agg (launchA x A2 n2)
           | 4=>u=.agg (freeA (behindB c f x))
           | 5=>u=.int .u64 (rest:Int)
           | _=>u=.bool b2) (Below.refl _ _).drew (fun _ _ _ _ _ _ _ _ h _=>h) ?_ ?_
         ·refine ⟨?_,?_,?_,?_,?_,?_,?_,trivial⟩
          ·intro a w1 vs K bq Hb HJ HK HD HN kk
           obtain rfl:bq=false:=by cases bq with | false=>rfl | true=>exact absurd (Hb rfl).2 (by decide)
           have HJ':Below W8.heap.size W8 w1:=HJ
           have e5:=HK 5 (by decide)
           have ca:=(HCE.out w1 HJ').1
           go_simp;exact kk _ _ (by simp) HJ trivial rfl
          ·intro a w1 vs K bq Hb HJ HK HD HN kk
           obtain rfl:bq=false:=by cases bq with | false=>rfl | true=>exact absurd (Hb rfl).2 (by decide)
           have HJ':Below W8.heap.size W8 w1:=HJ
           have e6:=HK 6 (by decide)
           exact wpo_loadS 151 (.tmp 6) rfl wq 0 (by simpa [Act.eval] using e6) (freeA f) _ (HCE.out w1 HJ').2.1 und_free rfl info_free (kk _ _ (by simp) HJ trivial rfl)
          ·intro a w1 vs K bq Hb HJ HK HD HN kk
           obtain rfl:bq=false:=by cases bq with | false=>rfl | true=>exact absurd (Hb rfl).2 (by decide)
           have HJ':Below W8.heap.size W8 w1:=HJ
           have e4:=HK 4 (by decide)
           exact wpo_loadS 26 (.tmp 4) rfl bc 0 (by simpa [Act.eval] using e4) (campA V c) _ (HCE.out w1 HJ').2.2.1 und_camp rfl (info_campA V c) (kk _ _ (by simp) HJ trivial rfl)
          ·intro a w1 vs K bq Hb HJ HK HD HN kk
           obtain rfl:bq=false:=by cases bq with | false=>rfl | true=>exact absurd (Hb rfl).2 (by decide)
           have HJ':Below W8.heap.size W8 w1:=HJ
           have e12:=HK 12 (by decide)
           exact wpo_loadS 52 (.tmp 12) rfl bq 0 (by simpa [Act.eval] using e12) (launchA x A2 n2) _ (HCE.out w1 HJ').2.2.2 und_launch rfl (info_launchA _ _ _) (kk _ _ (by simp) HJ trivial rfl)
          ·intro a w1 vs K bq Hb HJ HK HD HN kk
           obtain rfl:bq=false:=by cases bq with | false=>rfl | true=>exact absurd (Hb rfl).2 (by decide)
           have HJ':Below W8.heap.size W8 w1:=HJ
           have e89:=hdE (HD 1 _ 89 rfl rfl rfl)
           have e90:=hdE (HD 2 _ 90 rfl rfl rfl)
           have e91:=hdE (HD 3 _ 91 rfl rfl rfl)
           exact wpo_call 135 _ _ rfl #[.agg (freeA f),.agg (campA V c),.agg (launchA x A2 n2)] (by simp [Act.eval,e89,e90,e91]) (fun args w=>by kernel_rfl)
            ((HBEH.out w1 HJ').mono fun e w' ⟨he,hb⟩=>⟨_,he,kk _ _ (by simp) (Below.trans HJ'  (hb.mono HJ'.size)) trivial rfl⟩)
          ·intro a w1 vs K bq Hb HJ HK HD HN kk
           obtain rfl:bq=false:=by cases bq with | false=>rfl | true=>exact absurd (Hb rfl).2 (by decide)
           have HJ':Below W8.heap.size W8 w1:=HJ
           have e13:=HK 13 (by decide)
           go_simp;exact kk _ _ (by simp) HJ trivial rfl
          ·intro a w1 vs K bq Hb HJ HK HD HN kk
           obtain rfl:bq=false:=by cases bq with | false=>rfl | true=>exact absurd rfl (Hb rfl).1
           have HJ':Below W8.heap.size W8 w1:=HJ
           have e88:=hdE (HD 0 _ 88 rfl rfl rfl)
           have e92:=hdE (HD 4 _ 92 rfl rfl rfl)
           have e93:=hdE (HD 5 _ 93 rfl rfl rfl)
           exact wpo_callV 132 #[.pointer (some ⟨bl,0,none⟩),.pointer (some ⟨bx,0,none⟩),.pointer (some ⟨bc,0,none⟩),.pointer (some ⟨bf,0,none⟩)] _ _ _ rfl (by simpa [Act.eval] using e88) #[.agg (freeA (behindB c f x)),.int .u64 (rest:Int)] (by simp [Act.eval,e92,e93]) (fun args w=>by kernel_rfl) _ rfl
            ((HIH.out w1 HJ').mono fun e w' ⟨he,hj⟩=>⟨_,he,kk _ _ (by simp) hj trivial rfl⟩)
         ·intro vs W9 hJ9 hrr9
          have e6:vs 6=.bool b2:=hrr9 6 _ rfl
          have hj9:JT W9:=hJ9
          clear hJ9 hrr9
          simp only [putAll,Act.put,List.setIfInBounds_toArray,List.set_cons_zero,List.set_cons_succ]
          rw [e6]
          obtain ⟨v2,q2,q3,q4⟩:=(HJT.out W9).1 hj9
          have hfr9:FillR bx ob w W9:=(HFR.out.trans HFR8.out HNB.out).trans q2 (HNB.out.trans HNW.out HFR.out.size)
          have hnb9:NewB w ob v2.ownBlock:=(HNB.out.trans HNW.out HFR.out.size).trans q3 (Nat.le_trans HFR.out.size HFR8.out.size)
          have HJ9:=Lib.hid q4
          have HFR9:=Lib.hid hfr9
          have HNB9:=Lib.hid hnb9
          have HQ2:=Lib.hid q2
          have HQ3:=Lib.hid q3
          clear hj9 q2 q3 q4 hfr9 hnb9 e6 c7 f7 HBEH HIH HCE HJT
          cases b2 with
          | true =>
           obtain ⟨L2,hL2⟩:∃ L2,r2=some L2:=Option.isSome_iff_exists.1 HB2.out
           have hrr:r=some (x :: L2):=by
            rw [HRB.out]
            refine findSome_take NL T (m+1) ?_
            rw [HTK.out,HTY.out,hL2];rfl
           have HF:Hid (PQ (.returned (.bool true)) W9):=Lib.hid (by
            have h1:=HJ9.out
            rw [hL2] at h1
            have:=HFIN.out v2 W9 HFR9.out HNB9.out (by rw [hrr];show PlanS bx B v2 (P ++ x :: L2) W9;rw [List.append_assoc] at h1;exact h1)
            rw [hrr] at this;exact this)
           clear hL2 hrr
           go_wp2_with fail
           try rw [Exit.noGoto_ret]
           first | exact HF.out | (go_ret;exact HF.out)
          | false =>
           have hr2n:r2=none:=by
            have:=HB2.out
            cases h:r2 with
            | none=>rfl
            | some y=>rw [h] at this;cases this
           have h1:=HJ9.out
           rw [hr2n,Option.getD_none,List.append_nil] at h1
           obtain ⟨Pq2,Qq2,ho2⟩:=h1.own
           obtain ⟨A',c2,hv2,hc2,hrow2⟩:=ho2.form
           obtain ⟨g2,hg2,_⟩:=hrow2 P.length (by rw [List.length_append,List.length_singleton];omega)
           subst hg2 hv2
           have hlen2:(P ++ [x]).length=P.length+1:=by rw [List.length_append,List.length_singleton]
           rw [hlen2] at h1 hc2
           have hpop:=h1.pop
           have HQF:Hid (FillR bx ((Value.slice (some ⟨g2,0,none⟩) (P ++ [x]).length c2).ownBlock) W9 (W9.setCell ⟨bx,0,none⟩ (.slice (some ⟨g2,0,none⟩) P.length c2))):=Lib.hid (FillR.only (Only.setCell W9 bx 0 _))
           have HLR:Hid (LoopR B bx wq wcs nn ob f P NL (some ⟨g,0,none⟩) T w (m+1) (W9.setCell ⟨bx,0,none⟩ (.slice (some ⟨g2,0,none⟩) pl c2))):=Lib.hid (by
            rw [← HPL.out]
            have hg2g:(some g2:Option Nat) ≠ some g:=fun e=>by
             rcases HQ3.out with h | h
             ·have h':(some g2:Option Nat)=some g':=h
              exact HGN.out (by rw [← h'];exact e)
             ·have h2:=h g (by show (some g2:Option Nat)=some g;exact e)
              have h3:=HRW8.out.bk.lt
              omega
            refine ⟨.slice (some ⟨g2,0,none⟩) P.length c2,HFR9.out.trans HQF.out HNB9.out,HNB9.out,hpop,?_,⟨HLEN.out,fun _=>⟨g,cur,Pn,Qn,rfl,?_⟩⟩,fun _ k e=>?_,?_⟩
            ·exact HQF.out.keep (v:=.slice (some ⟨g2,0,none⟩) (P ++ [x]).length c2) (by rw [hlen2];exact h1) (HQ2.out.keep (v:=.slice (some ⟨g',0,none⟩) (pl+1) cap') HPS8.out HKW8.out (by decide) (by decide)) (by decide) (by decide)
            ·exact HQF.out.rows (v:=.slice (some ⟨g2,0,none⟩) (P ++ [x]).length c2) (by rw [hlen2];exact h1) (HQ2.out.rows (v:=.slice (some ⟨g',0,none⟩) (pl+1) cap') HPS8.out HRW8.out HGN.out) hg2g
            ·cases e;exact hg2g
            ·rw [HTK.out,HTY.out,hr2n];rfl)
           have kv:W9.cell? ⟨bx,0,none⟩=some (.slice (some ⟨g2,0,none⟩) (pl+1) c2):=by rw [← HPL.out];exact h1.box.cell 0
           have kz:W9.frozen? ⟨bx,0,none⟩=false:=h1.box.free 0
           rw [HPL.out] at hc2
           have hwa:IntKind.i64.wrap (((pl+1:Nat):Int) - 1)=(pl:Int):=by rw [IntWalk.i64_in _ (by omega)];omega
           have hwb:IntKind.i64.wrap ((pl:Int)+1 - 1)=(pl:Int):=by rw [IntWalk.i64_in _ (by omega)];omega
           have hca:pl≤c2:=by omega
           have hcb:(pl:Int)≤(c2:Int):=by omega
           have hcc:(pl:Int)≤(pl:Int)+1:=by omega
           clear hr2n h1 ho2 hrow2 hpop hlen2
           go_wp2_with fail
           go_roundw
           case rel=>first | exact ⟨m+1,by omega,by go_num,HLR⟩ | ((repeat apply Exists.intro);exact ⟨⟨m+1,by omega,by go_num,HLR⟩,rfl⟩)
           case measure=>simp [intOf];omega)
    ·obtain rfl:m=nn:=by omega
     obtain ⟨vq,l1,l2,l3,l4,l5,l6,l7⟩:=hlo.out
     have hrn:r=none:=by rw [HRB.out,← l7,List.take_of_length_le (by rw [HNN.out];exact Nat.le_refl _)]
     have HF:Hid (PQ (.returned (.bool false)) wo):=Lib.hid (by
      have:=HFIN.out vq wo l1 l2 (by rw [hrn];show PlanS bx B vq (P ++ []) wo;rw [List.append_nil];exact l3)
      rw [hrn] at this;exact this)
     clear hlo l1 l2 l3 l4 l5 l6 l7 hrn
     go_wp2_with fail
     try rw [Exit.noGoto_ret]
     first | exact HF.out | (go_ret;exact HF.out)
end Go.Proofs.YtcnjenlojnognaaGreat
/- What is proved: contracts of least, worth. Conditions: the campaign is valid, the set is of its cargos; the lists lie in memory. -/
namespace Go.Proofs.YtcnjenlojnognaaGreat
open Go.RowKit

theorem OwnL.planO {w:World} {B:Nat} {A:Option Addr} {n c:Nat} {l:List LaunchD} {P:Nat→Option Addr} {Q:Nat→Nat} (h:OwnL w B (.slice A n c) l P Q) (hn:l.length≤4096):PlanO w B A l :=
 ⟨hn,fun h0=>by
  obtain ⟨g,c',cur,e,_,hr⟩:=h.rows h0
  injection e with e1 _ _
  exact ⟨g,cur,P,Q,e1,hr⟩⟩
theorem fillB_len (c:CampD):∀ (n:Nat) (f:FreeD) (last:LaunchD) (s:Nat) (L:List LaunchD),fillB c n f last s=some L→L.length=n
 | 0,f,last,s,L,h=>by
  unfold fillB at h
  split at h
  ·injection h with h;subst h;rfl
  ·cases h
 | n+1,f,last,s,L,h=>by
  unfold fillB at h
  split at h
  ·cases h
  ·obtain ⟨x,_,hx⟩:=List.exists_of_findSome?_eq_some h
   split at hx
   ·cases hx
   ·obtain ⟨L1,h1,rfl⟩:=Option.map_eq_some_iff.1 hx
    rw [List.length_cons,fillB_len c n _ _ _ L1 h1]
def LeastPost (r:Option (List LaunchD)) (w:World) (e:Ending) (w':World):Prop :=
 ∃ A n c',e=.returned (.tuple #[.slice A n c',.bool r.isSome])∧n=(r.getD []).length∧n≤c'∧PlanO w' w.heap.size A (r.getD [])∧Below w.heap.size w w'
set_option maxRecDepth 100000 in
set_option maxHeartbeats 4000000 in
theorem least_any (w:World) (V:CV) (c:CampD) (h:CampAt w w.heap.size V c) (hc:campB c=true) (s:Nat) (hs:s<2 ^ c.cargos.length) (N:Nat) (hN:N≤7) :
  Calls Tryz.prog 115 #[.agg (campA V c),.int .u64 (s:Int),.int .i64 (N:Int)] w (LeastPost (leastB c s N) w):=by
 obtain ⟨qb,hqb⟩:∃ qb,w.heap.size=qb:=⟨_,rfl⟩
 obtain ⟨FV,hFV⟩:∃ v:Value,v=.func (.func 132) #[] #[.pointer (some ⟨qb+1,0,none⟩),.pointer (some ⟨qb+1+1,0,none⟩),.pointer (some ⟨qb,0,none⟩),.pointer (some ⟨qb+1+1+1,0,none⟩)]:=⟨_,rfl⟩
 obtain ⟨W0,hW0⟩:∃ W0,(((w.alloc (.cells (campA V c) 26)).alloc (.cells #[.int .i64 N] 3)).alloc (.cells #[.slice none 0 0] 27)).alloc (.cells #[.nilFunc] 148)=W0:=⟨_,rfl⟩
 have hb0:Below w.heap.size w W0:=by rw [← hW0];exact ((((Below.refl _ w).alloc (Nat.le_refl _) _).alloc (by simp) _).alloc (by simp;omega) _).alloc (by simp;omega) _
 have kc:Bk W0 qb 26 (campA V c):=by rw [← hW0,← hqb];exact (((Bk.new _ _ _).alloc _).alloc _).alloc _
 have kn:Bk W0 (qb+1) 3 #[.int .i64 N]:=by rw [← hW0,← hqb];exact ((Bk.newAt _ _ _ _ (by simp)).alloc _).alloc _
 have kx:Bk W0 (qb+1+1) 27 #[.slice none 0 0]:=by rw [← hW0,← hqb];exact (Bk.newAt _ _ _ _ (by simp)).alloc _
 have kf:Bk W0 (qb+1+1+1) 148 #[.nilFunc]:=by rw [← hW0,← hqb];exact Bk.newAt _ _ _ _ (by simp)
 obtain ⟨W1,hW1⟩:∃ W1,W0.setCell ⟨qb+1+1+1,0,none⟩ FV=W1:=⟨_,rfl⟩
 have hon:Only (qb+1+1+1) W0 W1:=by rw [← hW1];exact Only.setCell W0 _ 0 _
 have hb1:Below w.heap.size w W1:=hb0.trans (hon.below (by omega))
 have kf1:Bk W1 (qb+1+1+1) 148 #[FV]:=by rw [← hW1];exact kf.set 0 _
 have hE:FillE qb (qb+1) (qb+1+1) qb (qb+1+1+1) N V c W1:=⟨by omega,kn.only hon (by omega),kc.only hon (by omega),by rw [← hFV];exact kf1,by rw [← hqb];exact h.below hb1⟩
 have hP:PlanS (qb+1+1) qb (.slice none 0 0) [] W1:=⟨kx.only hon (by omega),fun _=>none,fun _=>0,OwnL.nil _ _ _ _⟩
 obtain ⟨r,hr⟩:∃ r,leastB c s N=r:=⟨_,rfl⟩
 have hfill:=fill_any qb (qb+1) (qb+1+1) qb (qb+1+1+1) N V c hc hN N W1 free0 [] (.slice none 0 0) s hE hP (by have:=hb1.size;omega) (by simp) hs
 rw [show fillB c N free0 (lastD []) s=r from hr] at hfill
 have HFI:=Lib.hid hfill
 have HB1:Hid (Below qb w W1):=Lib.hid (by rw [← hqb];exact hb1)
 have HRL:Hid ((r.getD []).length≤4096):=Lib.hid (by
  cases e:r with
  | none=>simp
  | some L =>
   rw [e] at hr
   have:=fillB_len c N free0 ⟨-1,0,0,[]⟩ s L hr
   show L.length≤4096
   omega)
 have hqs:qb≤W1.heap.size:=by have:=hb1.size;omega
 have kfc:W1.cell? ⟨qb+1+1+1,0,none⟩=some FV:=kf1.cell 0
 have kzz:W0.cell? ⟨qb+1+1+1,0,none⟩=some .nilFunc:=kf.cell 0
 have kzf:W0.frozen? ⟨qb+1+1+1,0,none⟩=false:=kf.free 0
 obtain ⟨PQ,hPQ⟩:∃ Q,LeastPost r w=Q:=⟨_,rfl⟩
 have HFIN:Hid (∀ A n c' w',n=(r.getD []).length→n≤c'→PlanO w' qb A (r.getD [])→Below qb w w'→PQ (.returned (.tuple #[.slice A n c',.bool r.isSome])) w'):=Lib.hid fun A n c' w' h1 h2 h3 h4=>by
  rw [← hPQ];exact ⟨A,n,c',rfl,h1,h2,by rw [hqb];exact h3,by rw [hqb];exact h4⟩
 rw [hr,hPQ]
 clear h hc hs hb0 kc kn kx kf hb1 kf1 hE hP hr hfill hPQ hon
 subst hFV
 simp only [campA] at hW0 ⊢
 go_enter Tryz.func115,Tryz.ntmps115
 go_upto_region 3 with (fail)
 clear hW0 hqb
 go_wp2_with fail
 try rw [hW1]
 refine HFI.out.mono ?_
 rintro e w2 ⟨v',rfl,hfr,hnb,hps⟩
 rw [List.nil_append] at hps
 obtain ⟨Pq,Qq,ho⟩:=hps.own
 obtain ⟨A,c',rfl,hc',_⟩:=ho.form
 have HBW:Hid (Below qb w w2):=Lib.hid (HB1.out.trans (hfr.bel hqs (by omega) fun g e=>by simp [Value.ownBlock] at e))
 have HPO:=Lib.hid (ho.planO HRL.out)
 have kv:w2.cell? ⟨qb+1+1,0,none⟩=some (.slice A (r.getD []).length c'):=hps.box.cell 0
 have HCP:=Lib.hid hc'
 clear hfr hnb hps ho hc' kfc kzz kzf
 go_wp2_with fail
 try go_ret2
 exact HFIN.out A _ c' w2 rfl HCP.out HPO.out HBW.out
def wrthK (c:CampD) (l:List Int) (k:Nat):Int:=(l.take k).foldl (fun n i=>n+(c.cargo i).value) 0
theorem wrthK_succ (c:CampD) (l:List Int) (k:Nat) (hk:k<l.length):wrthK c l (k+1)=wrthK c l k+(c.cargo (numI l k)).value:=by
 unfold wrthK numI
 rw [List.take_add_one,List.foldl_append,List.getElem?_eq_getElem hk,List.getD_eq_getElem?_getD,List.getElem?_eq_getElem hk]
 rfl
theorem wrthK_bd {c:CampD} (hc:campB c=true) (l:List Int):∀ k,k≤l.length→0≤wrthK c l k∧wrthK c l k≤1073741824 * k
 | 0,_=>by simp [wrthK]
 | k+1,hk=>by
  have ih:=wrthK_bd hc l k (by omega)
  rw [wrthK_succ c l k (by omega)]
  have:=camp_cargo hc (numI l k)
  omega
set_option maxRecDepth 100000 in
set_option maxHeartbeats 4000000 in
theorem worthS_any (w:World) (V:CV) (c:CampD) (h:CampAt w w.heap.size V c) (hc:campB c=true) (s:Nat) (hs:s<2 ^ c.cargos.length) :
  Calls Tryz.prog 95 #[.agg (campA V c),.int .u64 (s:Int)] w fun e w'=>e=.returned (.int .i64 (worthS c s))∧Below w.heap.size w w':=by
 obtain ⟨qb,hqb⟩:∃ qb,w.heap.size=qb:=⟨_,rfl⟩
 have hlen:=camp_len hc
 have hs64:s<64:=Nat.lt_of_lt_of_le hs (Nat.pow_le_pow_right (by omega) (by omega:c.cargos.length≤6))
 obtain ⟨W0,hW0⟩:∃ W0,w.alloc (.cells (campA V c) 26)=W0:=⟨_,rfl⟩
 have hb0:Below w.heap.size w W0:=by rw [← hW0];exact (Below.refl _ w).alloc (Nat.le_refl _) _
 have HB0:Hid (Below qb w W0):=Lib.hid (by rw [← hqb];exact hb0)
 have HKC:Hid (Bk W0 qb 26 (campA V c)):=Lib.hid (by rw [← hW0,← hqb];exact Bk.new _ _ _)
 have HSZ:Hid (qb≤W0.heap.size):=Lib.hid (by have:=HKC.out.lt;omega)
 have HCA:=Lib.hid (h.later hb0)
 obtain ⟨ng,hng⟩:∃ ng,c.cargos.length=ng:=⟨_,rfl⟩
 obtain ⟨gb,go,hgA,hgb,hgc⟩:=HCA.out.cargos.2 (by omega)
 rw [hng] at hgc
 obtain ⟨nb,hnb⟩:∃ nb,(bitsL s).length=nb:=⟨_,rfl⟩
 have HNB:=Lib.hid hnb
 have hnb6:nb≤6:=by rw [← hnb];unfold bitsL;rw [List.length_map];exact Nat.le_trans (List.length_filter_le _ _) (by simp)
 have HLI:Hid (Calls Tryz.prog 70 #[.int .u64 (s:Int)] W0 fun e w'=>∃ A n,e=.returned (.slice A nb n)∧IntsO w' W0.heap.size A (bitsL s)∧Below W0.heap.size W0 w'):=Lib.hid
  ((list_any s hs64 W0).mono fun e w' ⟨A,n,h1,h2,h3,h4⟩=>⟨A,n,by rw [← hnb];exact h1,h3,h4⟩)
 have HBD:=Lib.hid fun k hk=>wrthK_bd hc (bitsL s) k hk
 have HGI:Hid (∀ x ∈ bitsL s,∃ m:Nat,x=(m:Int)∧m<ng):=Lib.hid fun x hx=>by
  unfold bitsL at hx
  obtain ⟨m,hm,rfl⟩:=List.mem_map.1 hx
  rw [List.mem_filter] at hm
  refine ⟨m,rfl,?_⟩
  rcases Nat.lt_or_ge m ng with h3 | h3
  ·exact h3
  ·have h4:s.testBit m=true:=hm.2
   rw [Nat.testBit_lt_two_pow (Nat.lt_of_lt_of_le (by rw [← hng];exact hs) (Nat.pow_le_pow_right (by omega) h3))] at h4
   cases h4
 have HCV:Hid (∀ w1,Below W0.heap.size W0 w1→w1.cell? ⟨qb,2,none⟩=some (.slice (some ⟨gb,go,none⟩) ng V.gc)∧∀ m,m<ng→w1.cell? ⟨gb,go+m * 6+2,none⟩=some (.int .i64 (c.cargoN m).value)):=Lib.hid fun w1 hb=>by
  refine ⟨?_,fun m hm=>?_⟩
  ·rw [← hng,← hgA];exact (HKC.out.below hb HKC.out.lt).cell 2
  ·rw [hb.cell (p:=⟨gb,go+m * 6+2,none⟩) hgb];exact hgc m hm 2 (by omega)
 obtain ⟨PQ,hPQ⟩:∃ Q,(fun (e:Ending) (w':World)=>e=.returned (.int .i64 (worthS c s))∧Below w.heap.size w w')=Q:=⟨_,rfl⟩
 have HFIN:Hid (∀ x w',wrthK c (bitsL s) nb=x→Below qb w w'→PQ (.returned (.int .i64 x)) w'):=Lib.hid fun x w' h1 h2=>by
  rw [← hPQ]
  refine ⟨?_,by rw [hqb];exact h2⟩
  rw [← h1,← hnb]
  unfold wrthK worthS
  rw [List.take_of_length_le (Nat.le_refl _)]
 rw [hPQ]
 have hsi:(0:Int)≤(s:Int):=by omega
 clear h hc hs hs64 hb0 hPQ hnb hgA hgc hlen
 simp only [campA] at hW0 ⊢
 rw [hng] at hW0 ⊢
 go_enter Tryz.func95,Tryz.ntmps95
 go_upto_region 1 with (fail)
 clear hW0 hqb
 go_wp2_with fail
 refine HLI.out.mono ?_
 rintro e W1 ⟨A,n,rfl,hi,hb⟩
 have HI:=Lib.hid hi
 have HB:=Lib.hid hb
 clear hi hb
 go_wp2_with fail
 go_loopw [5,11] (fun v iv wr=>Hid (wr=W1)∧∃ k:Nat,k≤nb∧iv=.int .i64 k∧v=.int .i64 (wrthK c (bitsL s) k)) (fun _ iv _=>nb - (intOf iv).toNat)
 case atStart=>exact ⟨Lib.hid rfl,0,Nat.zero_le _,rfl,rfl⟩
 case round =>
  obtain ⟨hw,k,hk,rfl,rfl⟩:=hrel
  have hw':=hw.out
  subst hw'
  have h0k:(0:Int)≤(k:Int):=by omega
  obtain ⟨x,hx⟩:∃ x,wrthK c (bitsL s) k=x:=⟨_,rfl⟩
  have HX:=Lib.hid hx
  have hbd:=HBD.out k (by rw [HNB.out];exact hk)
  rw [hx] at hbd ⊢
  by_cases hlt:k<nb
  ·have hki:(k:Int)<(nb:Int):=by omega
   obtain ⟨ga,cu,hA,_,hbk,hcur⟩:=HI.out.2 (by rw [HNB.out];omega)
   subst hA
   have he:wr.cell? ⟨ga,k,none⟩=some (.int .i64 (numI (bitsL s) k)):=by
    rw [hbk.cell]
    have:=hcur k (by rw [HNB.out];exact hlt) 0 (by omega)
    simpa using this
   have hmem:numI (bitsL s) k ∈ bitsL s:=by
    unfold numI
    rw [List.getD_eq_getElem?_getD,List.getElem?_eq_getElem (by rw [HNB.out];exact hlt),Option.getD_some]
    exact List.getElem_mem _
   obtain ⟨mm,hmm,hml⟩:=HGI.out _ hmem
   rw [hmm] at he
   obtain ⟨hc2,hcv⟩:=HCV.out wr HB.out
   have hv:=hcv mm hml
   obtain ⟨vv,hvv⟩:∃ v,(c.cargoN mm).value=v:=⟨_,rfl⟩
   rw [hvv] at hv
   have HSU:Hid (wrthK c (bitsL s) (k+1)=x+vv):=Lib.hid (by rw [wrthK_succ _ _ _ (by rw [HNB.out];exact hlt),hmm,cargo_nat,hvv,HX.out])
   have hbd2:=HBD.out (k+1) (by rw [HNB.out];exact hlt)
   rw [HSU.out] at hbd2
   have hws:IntKind.i64.wrap (x+vv)=x+vv:=IntWalk.i64_in _ (by omega)
   have hmi:(mm:Int)<(ng:Int):=by omega
   have h0mm:(0:Int)≤(mm:Int):=by omega
   clear hbk hcur hmem hmm hcv hvv hx hbd hbd2
   go_wp2_with fail
   go_roundw
   case rel=>exact ⟨Lib.hid trivial,k+1,by omega,by go_num,by rw [HSU.out]⟩
   case measure=>simp [intOf];omega
  ·obtain rfl:k=nb:=by omega
   have HE:Hid (Below qb w wr):=Lib.hid (HB0.out.trans (HB.out.mono HSZ.out))
   go_wp2_with fail
   try go_ret
   exact HFIN.out x wr HX.out HE.out
end Go.Proofs.YtcnjenlojnognaaGreat
/- What is proved: contracts of slices.CompareFunc and slices.Clone at launches. Conditions: the plans lie in memory. -/
namespace Go.Proofs.YtcnjenlojnognaaGreat
open Go.RowKit

theorem cmpP_end {l m:List LaunchD} {i:Nat} (h:l.length=i) (hm:i≤m.length):cmpP (l.drop i) (m.drop i)=if i<m.length then -1 else 0:=by
 rw [List.drop_of_length_le (by omega)]
 by_cases h2:i<m.length
 ·rw [if_pos h2,List.drop_eq_getElem_cons h2];rfl
 ·rw [if_neg h2,List.drop_of_length_le (by omega)];rfl
theorem cmpP_more {l m:List LaunchD} {i:Nat} (h:i<l.length) (hm:m.length=i):cmpP (l.drop i) (m.drop i)=1:=by
 have e:m.drop i=[]:=List.drop_of_length_le (by omega)
 rw [List.drop_eq_getElem_cons h,e];rfl
theorem cmpP_step {l m:List LaunchD} {i:Nat} (h:i<l.length) (hm:i<m.length):cmpP (l.drop i) (m.drop i)=orI (cmpL (l.getD i launch0) (m.getD i launch0)) (cmpP (l.drop (i+1)) (m.drop (i+1))):=by
 rw [List.drop_eq_getElem_cons h,List.drop_eq_getElem_cons hm]
 rw [List.getD_eq_getElem?_getD,List.getElem?_eq_getElem h,List.getD_eq_getElem?_getD,List.getElem?_eq_getElem hm]
 rfl
set_option maxRecDepth 100000 in
set_option maxHeartbeats 4000000 in
theorem compareFunc_any (w:World) (l m:List LaunchD) (A B:Option Addr) (ca cb:Nat) (hl:PlanAt w w.heap.size A l) (hm:PlanAt w w.heap.size B m) (hl4:l.length≤4096) (hm4:m.length≤4096) :
  Calls Tryz.prog 116 #[.slice A l.length ca,.slice B m.length cb,.func (.func 82) #[] #[]] w fun e w'=>e=.returned (.int .i64 (cmpP l m))∧Below w.heap.size w w':=by
 obtain ⟨nl,hnl⟩:∃ n,l.length=n:=⟨_,rfl⟩
 obtain ⟨nm,hnm⟩:∃ n,m.length=n:=⟨_,rfl⟩
 have HNL:=Lib.hid hnl
 have HNM:=Lib.hid hnm
 have HLP:=Lib.hid hl
 have HMP:=Lib.hid hm
 obtain ⟨r,hr⟩:∃ r,cmpP l m=r:=⟨_,rfl⟩
 have HR:=Lib.hid hr
 obtain ⟨PQ,hPQ⟩:∃ Q,(fun (e:Ending) (w':World)=>e=.returned (.int .i64 r)∧Below w.heap.size w w')=Q:=⟨_,rfl⟩
 have HFIN:Hid (∀ x w',r=x→Below w.heap.size w w'→PQ (.returned (.int .i64 x)) w'):=Lib.hid fun x w' h1 h2=>by rw [← hPQ,h1];exact ⟨rfl,h2⟩
 rw [hnl] at hl4 ⊢
 rw [hnm] at hm4 ⊢
 rw [hr,hPQ]
 clear hl hm hnl hnm hr hPQ
 go_enter Tryz.func116,Tryz.ntmps116
 go_wp2_with fail
 go_loopw [13] (fun iv wr=>∃ i:Nat,i≤nl∧i≤nm∧iv=.int .i64 i∧Hid (Below w.heap.size w wr∧r=cmpP (l.drop i) (m.drop i))) (fun iv _=>nl - (intOf iv).toNat)
 case atStart=>exact ⟨0,Nat.zero_le _,Nat.zero_le _,rfl,Lib.hid ⟨Below.refl _ _,HR.out.symm⟩⟩
 case round =>
  obtain ⟨wo,rfl⟩:∃ wo:World,wo=wr:=⟨_,rfl⟩
  obtain ⟨i,hi,him,rfl,hs⟩:=hrel
  have HB:=Lib.hid hs.out.1
  have HC:=Lib.hid hs.out.2
  clear hs
  have h0i:(0:Int)≤(i:Int):=by omega
  by_cases hlt:i<nl
  ·have hii:(i:Int)<(nl:Int):=by omega
   obtain ⟨b1,o1,P1,Q1,rfl,hb1,d0,d1,d2,d3,dl⟩:=(HLP.out.later HB.out).at4 (i:=i) (by rw [HNL.out];exact hlt)
   obtain ⟨x,hx⟩:∃ x,l.getD i launch0=x:=⟨_,rfl⟩
   rw [hx] at d0 d1 d2 d3 dl
   obtain ⟨q,hq⟩:∃ q,wo.heap.size=q:=⟨_,rfl⟩
   have HQ:=Lib.hid hq
   have HL1:Hid (∀ j u,(launchA x P1 Q1)[j]?=some u→wo.cell? ⟨b1,o1+i * 4+j,none⟩=some u):=Lib.hid fun j u hj=>by
    have hj4:j<4:=(Array.getElem?_eq_some_iff.1 hj).1
    match j,hj4 with
    | 0,_=>rw [← hj];exact d0
    | 1,_=>rw [← hj];exact d1
    | 2,_=>rw [← hj];exact d2
    | 3,_=>rw [← hj];exact d3
   have HKX:Hid (Bk (wo.alloc (.cells #[.int .i64 0,.int .i64 0,.int .i64 0,.slice none 0 0] 52)) q 52 #[.int .i64 0,.int .i64 0,.int .i64 0,.slice none 0 0]):=Lib.hid (by rw [← hq];exact Bk.new _ _ _)
   have HDL:=Lib.hid dl
   clear d0 d1 d2 d3 dl
   go_upto_region 4 with (first | (refine wpLoadAt rfl 52 _ rfl b1 (o1+i * 4) rfl (launchA x P1 Q1) _ HL1.out und_launch rfl (info_launchA _ _ _) ?_) | (refine wpStoreAt rfl rfl 52 _ _ rfl q 0 rfl (launchA x P1 Q1) rfl 52 _ HKX.out (by show 0+4≤4;omega) (launchA_one _ _ _) (info_launchA _ _ _) ?_;intro wf hkf hof))
   rw [splA_four _ _ rfl rfl] at hkf
   have hbf:Below wo.heap.size wo wf:=((Below.refl _ wo).alloc (Nat.le_refl _) _).trans (hof.below (by have:=HQ.out;omega))
   have hsf:wf.heap.size=q+1:=by rw [hof.size];simp;exact HQ.out
   have HBF:=Lib.hid (HB.out.trans (hbf.mono HB.out.size))
   have HKF:=Lib.hid hkf
   have HDF:=Lib.hid (HDL.out.later hbf)
   clear hkf hof hbf HKX HL1 HDL hq
   by_cases hlm:i<nm
   ·have him2:(i:Int)<(nm:Int):=by omega
    have him3:¬ (nm:Int)≤(i:Int):=by omega
    obtain ⟨b2,o2,P2,Q2,rfl,hb2,d0,d1,d2,d3,dl⟩:=(HMP.out.later HBF.out).at4 (i:=i) (by rw [HNM.out];exact hlm)
    obtain ⟨y,hy⟩:∃ y,m.getD i launch0=y:=⟨_,rfl⟩
    rw [hy] at d0 d1 d2 d3 dl
    have HL2:Hid (∀ j u,(launchA y P2 Q2)[j]?=some u→wf.cell? ⟨b2,o2+i * 4+j,none⟩=some u):=Lib.hid fun j u hj=>by
     have hj4:j<4:=(Array.getElem?_eq_some_iff.1 hj).1
     match j,hj4 with
     | 0,_=>rw [← hj];exact d0
     | 1,_=>rw [← hj];exact d1
     | 2,_=>rw [← hj];exact d2
     | 3,_=>rw [← hj];exact d3
    have HKY:Hid (Bk (wf.alloc (.cells #[.int .i64 0,.int .i64 0,.int .i64 0,.slice none 0 0] 52)) (q+1) 52 #[.int .i64 0,.int .i64 0,.int .i64 0,.slice none 0 0]):=Lib.hid (Bk.newAt _ _ _ _ hsf.symm)
    have HDY:=Lib.hid dl
    obtain ⟨cm,hcm⟩:∃ z,cmpL x y=z:=⟨_,rfl⟩
    have HRO:Hid (r=orI cm (cmpP (l.drop (i+1)) (m.drop (i+1)))):=Lib.hid (by rw [HC.out,cmpP_step (by rw [HNL.out];exact hlt) (by rw [HNM.out];exact hlm),hx,hy,hcm])
    have HCM:=Lib.hid hcm
    clear d0 d1 d2 d3 dl hy hx hcm
    go_upto_region 7 with (first | (refine wpLoadAt rfl 52 _ rfl b2 (o2+i * 4) rfl (launchA y P2 Q2) _ HL2.out und_launch rfl (info_launchA _ _ _) ?_) | (refine wpStoreAt rfl rfl 52 _ _ rfl (q+1) 0 rfl (launchA y P2 Q2) rfl 52 _ HKY.out (by show 0+4≤4;omega) (launchA_one _ _ _) (info_launchA _ _ _) ?_;intro wg hkg hog))
    rw [splA_four _ _ rfl rfl] at hkg
    have hbg:Below wf.heap.size wf wg:=((Below.refl _ wf).alloc (Nat.le_refl _) _).trans (hog.below (by omega))
    have HBG:=Lib.hid (HBF.out.trans (hbg.mono HBF.out.size))
    have HM1:Hid (∀ j u,(launchA x P1 Q1)[j]?=some u→wg.cell? ⟨q,0+j,none⟩=some u):=Lib.hid fun j u hj=>by rw [Nat.zero_add,(HKF.out.below hbg HKF.out.lt).cell];exact hj
    have HM2:Hid (∀ j u,(launchA y P2 Q2)[j]?=some u→wg.cell? ⟨q+1,0+j,none⟩=some u):=Lib.hid fun j u hj=>by rw [Nat.zero_add,hkg.cell];exact hj
    have hcc:=compare_any wg x y P1 P2 Q1 Q2 (HDF.out.later hbg) (HDY.out.later hbg)
    rw [HCM.out] at hcc
    have HCC:=Lib.hid hcc
    clear hcc hkg hog hbg HL2 HKY
    go_wp2_with (first | (refine wpLoadAt rfl 52 (.tmp 8) rfl q 0 rfl (launchA x P1 Q1) _ HM1.out und_launch rfl (info_launchA _ _ _) ?_) | (refine wpLoadAt rfl 52 (.tmp 9) rfl (q+1) 0 rfl (launchA y P2 Q2) _ HM2.out und_launch rfl (info_launchA _ _ _) ?_))
    refine HCC.out.mono ?_
    rintro e w5 ⟨rfl,hg5⟩
    have HB5:=Lib.hid (HBG.out.trans (hg5.below.mono HBG.out.size))
    clear hg5
    by_cases hz:cm=0
    ·have hz1:(cm != 0)=false:=by rw [hz];rfl
     have HRN:Hid (r=cmpP (l.drop (i+1)) (m.drop (i+1))):=Lib.hid (by rw [HRO.out,hz];rfl)
     clear hz HRO
     go_wp2_with fail
     go_roundw
     case rel=>exact ⟨i+1,by omega,by omega,by go_num,Lib.hid ⟨HB5.out,HRN.out⟩⟩
     case measure=>simp [intOf];omega
    ·have hz1:(cm != 0)=true:=by rw [bne_iff_ne];exact hz
     have HF:=Lib.hid (HFIN.out cm w5 (by rw [HRO.out];unfold orI;rw [if_neg hz]) HB5.out)
     clear HRO
     go_wp2_with fail
     first | exact HF.out | (go_ret;exact HF.out)
   ·obtain rfl:i=nm:=by omega
    have hle:(i:Int)≤(i:Int):=by omega
    have HF:=Lib.hid (HFIN.out 1 wf (by rw [HC.out,cmpP_more (by rw [HNL.out];exact hlt) HNM.out]) HBF.out)
    go_wp2_with fail
    first | exact HF.out | (go_ret;exact HF.out)
  ·obtain rfl:i=nl:=by omega
   have hn:¬ (i:Int)<(i:Int):=by omega
   have HE:=HC.out
   rw [cmpP_end HNL.out (by rw [HNM.out];exact him),HNM.out] at HE
   have HE2:=Lib.hid HE
   clear HE
   by_cases h2:i<nm
   ·have h3:(i:Int)<(nm:Int):=by omega
    have HF:=Lib.hid (HFIN.out (-1) wo (by rw [HE2.out,if_pos h2]) HB.out)
    clear HE2
    go_wp2_with fail
    first | exact HF.out | (go_ret;exact HF.out)
   ·have h3:¬ (i:Int)<(nm:Int):=by omega
    have HF:=Lib.hid (HFIN.out 0 wo (by rw [HE2.out,if_neg h2]) HB.out)
    clear HE2
    go_wp2_with fail
    first | exact HF.out | (go_ret;exact HF.out)
end Go.Proofs.YtcnjenlojnognaaGreat
/- What is proved: a contract of slices.Clone at launches. Conditions: the plan is a call's own. -/
namespace Go.Proofs.YtcnjenlojnognaaGreat
open Go.RowKit

set_option maxRecDepth 100000 in
set_option maxHeartbeats 1000000 in
theorem cloneL (w:World) (A:Option Addr) (n c:Nat) (f:Nat→Nat→Value) (h:Sl w w.heap.size 4 A n f) (h1:∀ i j,(f i j).oneCell'=true) (hn:n≤4096) :
  Calls Tryz.prog 117 #[.slice A n c] w fun e w'=>∃ A' c',e=.returned (.slice A' n c')∧n≤c'∧Cl w' w.heap.size 52 4 A' n f∧Below w.heap.size w w':=by
 cases A with
 | none =>
  have h0:n=0:=by
   rcases Nat.eq_zero_or_pos n with h0 | h0
   ·exact h0
   ·obtain ⟨b,off,e,_⟩:=h.2 h0;cases e
  subst h0
  clear h h1
  have q:∀ (w:World),(binOp .eql 27 (.slice none 0 c) (.slice none 0 0)).run Tryz.prog w=.ok (.bool true) w:=fun w=>Lib.run_eql_slice_nil w _ _ none 0 c 0 0 Tryz.underlying27
  go_enter Tryz.func117,Tryz.ntmps117
  go_wp2
  go_ret
  exact ⟨none,0,rfl,Nat.le_refl _,Cl.nil _ _ _ _ _ _,Below.refl _ _⟩
 | some ad =>
  obtain ⟨i0,hi,hz0,hz1,hz2⟩:=info_parts infoL
  have q:∀ (w:World),(binOp .eql 27 (.slice (some ad) n c) (.slice none 0 0)).run Tryz.prog w=.ok (.bool false) w:=fun w=>Lib.run_eql_slice_nil w _ _ (some ad) n c 0 0 Tryz.underlying27
  have hcell:Hid (∀ o j u,(rowsL n 4 f)[j]?=some u→(w.alloc o).cell? (ad.add j)=some u):=Lib.hid fun o j u hj=>by
   have hl:j<n * 4:=by have:=(List.getElem?_eq_some_iff.1 hj).1;rwa [rowsL_len] at this
   obtain ⟨b,off,e,_,hc⟩:=h.2 (by omega)
   cases e
   rw [Addr.add_lit]
   exact Lib.cell?_alloc_some _ (rowsL_cell hc j u hj)
  have H1:=Lib.hid h1
  clear h h1
  go_enter Tryz.func117,Tryz.ntmps117
  go_wp2_with (at_builtin;refine wpList_append_own _ rfl _ _ 27 rfl w.heap.size 52 i0 (.agg #[.int .i64 0,.int .i64 0,.int .i64 0,.slice none 0 0]) 4 48 Tryz.underlying27 hi hz0 hz1 hz2 rfl (by decide) _ _ _ rfl (World.ownsRow_made w #[] 0 (Nat.le_refl _) (Nat.zero_le _) rfl) ad n c (rowsL n 4 f) rfl ?qc1 ?qc2 ?qc3 ?qc4 ?qc5 ?qc6 ?_)
  case qc1=>exact rowsL_len _ _ _
  case qc2=>exact hcell.out _
  case qc3=>exact rowsL_one H1.out
  case qc4=>unfold maxLen;omega
  case qc5=>omega
  case qc6=>simp
  intro v' w1 hown hgrow _
  have hcap:∀ A c',v'=.slice A n c'→n≤c':=fun A c' e=>by
   rcases hown.2 with ⟨e2,h0⟩ | ⟨g,cap,cur,e2,_,_,h1,_⟩
   ·omega
   ·rw [e] at e2;injection e2 with _ _ e2;omega
  have hown2:w1.ownsRow w.heap.size 52 4 v' n (rowsL n 4 f):=by simpa using hown
  obtain ⟨A',c',rfl,hcl⟩:=Cl.of_own hn hown2
  have HCAP:=Lib.hid (hcap A' c' rfl)
  have hB:Below w.heap.size w w1:=((Below.refl _ w).alloc (Nat.le_refl _) _).grown hgrow (by simp) (by intro k hk;simp [Value.ownBlock] at hk;omega)
  clear hown hown2 hgrow hcap
  have HCL:=Lib.hid hcl
  clear hcl
  go_wp2
  go_ret
  exact ⟨A',c',rfl,HCAP.out,HCL.out,hB⟩
theorem clonePlan (w:World) (B:Nat) (A:Option Addr) (c:Nat) (l:List LaunchD) (h:PlanO w B A l) (hB:B≤w.heap.size) :
  Calls Tryz.prog 117 #[.slice A l.length c] w fun e w'=>∃ A' c',e=.returned (.slice A' l.length c')∧l.length≤c'∧PlanO w' B A' l∧Below w.heap.size w w':=by
 by_cases h0:0<l.length
 ·obtain ⟨g,cur,P,Q,rfl,hr⟩:=h.rows h0
  have hs:Sl w w.heap.size 4 (some ⟨g,0,none⟩) l.length (rowP l P Q):=⟨by have:=h.short;omega,fun _=>⟨g,0,rfl,hr.bk.lt,fun i hi j hj=>by rw [Nat.zero_add,hr.bk.cell];exact hr.row i hi j hj⟩⟩
  refine (cloneL w _ l.length c (rowP l P Q) hs (fun i j=>?_) h.short).mono ?_
  ·unfold rowP launchR;match j with | 0=>rfl | 1=>rfl | 2=>rfl | _+3=>rfl
  ·rintro e w' ⟨A',c',rfl,hc,hcl,hb⟩
   refine ⟨A',c',rfl,hc,⟨h.short,fun _=>?_⟩,hb⟩
   obtain ⟨g',cur',e2,h1,h2,h3⟩:=hcl.2 h0
   exact ⟨g',cur',P,Q,e2,by omega,h2,h3,fun i hi=>(hr.ints i hi).later hb⟩
 ·have hz:l.length=0:=by omega
  rw [hz]
  refine (cloneL w A 0 c (fun _ _=>.int .i64 0) ⟨by omega,fun h=>absurd h (by omega)⟩ (fun _ _=>rfl) (by omega)).mono ?_
  rintro e w' ⟨A',c',rfl,hc,_,hb⟩
  refine ⟨A',c',rfl,hc,?_,hb⟩
  rw [List.length_eq_zero_iff.1 hz]
  exact PlanO.nil _ _ _
end Go.Proofs.YtcnjenlojnognaaGreat
/- What is proved: a contract of campaign.first. Conditions: the campaign is valid, the sets are of its cargos; the lists lie in memory. -/
namespace Go.Proofs.YtcnjenlojnognaaGreat
open Go.RowKit

theorem findSome_range {β:Type} (T:Nat→Option β) (k:Nat) (h:(List.range k).findSome? T=none):(List.range (k+1)).findSome? T=T k:=by
 rw [List.range_succ,List.findSome?_append,h];simp
theorem findSome_at {β:Type} (T:Nat→Option β) (k n:Nat) (hk:k<n) {y:β} (h:(List.range k).findSome? T=none) (hy:T k=some y):(List.range n).findSome? T=some y:=by
 obtain ⟨q,rfl⟩:=Nat.exists_eq_add_of_lt hk
 rw [show k+q+1=(k+1)+q from by omega,List.range_add,List.findSome?_append,findSome_range T k h,hy];rfl
def firstJ (c:CampD) (L:List Nat) (n j:Nat):Option (List LaunchD):=firstK c (L.take j) n
theorem firstJ_succ (c:CampD) (L:List Nat) (n j:Nat) (hj:j<L.length):firstJ c L n (j+1)=lessP (firstJ c L n j) (leastB c (L.getD j 0) n):=by
 unfold firstJ firstK
 rw [List.take_add_one,List.foldl_append,List.getElem?_eq_getElem hj,List.getD_eq_getElem?_getD,List.getElem?_eq_getElem hj]
 rfl
/-- The best plan so far, in memory. -/
def BestR (qb:Nat) (r:Option (List LaunchD)) (v fv:Value) (wr:World):Prop:=∃ A c',v=.slice A (r.getD []).length c'∧fv=.bool r.isSome∧(r.getD []).length≤c'∧PlanO wr qb A (r.getD [])
theorem BestR.later {qb:Nat} {r:Option (List LaunchD)} {v fv:Value} {w w':World} (h:BestR qb r v fv w) (hb:Below w.heap.size w w'):BestR qb r v fv w':=by
 obtain ⟨A,c',a,b,d,e⟩:=h;exact ⟨A,c',a,b,d,e.later hb⟩
set_option maxRecDepth 100000 in
set_option maxHeartbeats 8000000 in
theorem first_any (w:World) (V:CV) (c:CampD) (h:CampAt w w.heap.size V c) (hc:campB c=true) (L:List Nat) (AL:Option Addr) (cL:Nat) (hL:Sl w w.heap.size 1 AL L.length fun i _=>.int .u64 (L.getD i 0:Nat)) (hs:∀ s ∈ L,s<2 ^ c.cargos.length) (hL4:L.length≤64) :
  Calls Tryz.prog 98 #[.agg (campA V c),.slice AL L.length cL] w (LeastPost (firstB c L) w):=by
 obtain ⟨qb,hqb⟩:∃ qb,w.heap.size=qb:=⟨_,rfl⟩
 have hlen:=camp_len hc
 obtain ⟨W0,hW0⟩:∃ W0,w.alloc (.cells (campA V c) 26)=W0:=⟨_,rfl⟩
 have hb0:Below w.heap.size w W0:=by rw [← hW0];exact (Below.refl _ w).alloc (Nat.le_refl _) _
 have HB0:Hid (Below qb w W0):=Lib.hid (by rw [← hqb];exact hb0)
 have HKC:Hid (Bk W0 qb 26 (campA V c)):=Lib.hid (by rw [← hW0,← hqb];exact Bk.new _ _ _)
 have HSZ:Hid (qb≤W0.heap.size):=Lib.hid (by have:=HKC.out.lt;omega)
 have HCA:=Lib.hid (h.later hb0)
 have HLS:=Lib.hid (hL.below hb0)
 have HS:=Lib.hid hs
 have HC:=Lib.hid hc
 obtain ⟨ng,hng⟩:∃ ng,c.cargos.length=ng:=⟨_,rfl⟩
 have HNG:=Lib.hid hng
 have hng6:ng≤6:=by omega
 obtain ⟨nl,hnl⟩:∃ n,L.length=n:=⟨_,rfl⟩
 have HNL:=Lib.hid hnl
 obtain ⟨r,hr⟩:∃ r,firstB c L=r:=⟨_,rfl⟩
 have HR:Hid ((List.range (ng+1)).findSome? (firstK c L)=r):=Lib.hid (by rw [← hng];exact hr)
 obtain ⟨PQ,hPQ⟩:∃ Q,LeastPost r w=Q:=⟨_,rfl⟩
 have HFIN:Hid (∀ A n c' w',n=(r.getD []).length→n≤c'→PlanO w' qb A (r.getD [])→Below qb w w'→PQ (.returned (.tuple #[.slice A n c',.bool r.isSome])) w'):=Lib.hid fun A n c' w' h1 h2 h3 h4=>by
  rw [← hPQ];exact ⟨A,n,c',rfl,h1,h2,by rw [hqb];exact h3,by rw [hqb];exact h4⟩
 have HLC:Hid (∀ w1,Below W0.heap.size W0 w1→∀ j u,(campA V c)[j]?=some u→w1.cell? ⟨qb,0+j,none⟩=some u):=Lib.hid fun w1 hb j u hj=>by rw [Nat.zero_add,(HKC.out.below hb HKC.out.lt).cell];exact hj
 have k2:W0.cell? ⟨qb,2,none⟩=some (.slice V.gA ng V.gc):=by rw [← hng];exact HKC.out.cell 2
 have HQB:Hid (w.heap.size=qb):=Lib.hid hqb
 have hws:IntKind.i64.wrap ((ng:Int)+1)=((ng+1:Nat):Int):=by rw [IntWalk.i64_in _ (by omega)];omega
 rw [hr,hPQ]
 rw [hnl] at hL4 ⊢
 clear h hc hL hs hb0 hPQ hr hlen hnl
 simp only [campA] at hW0 ⊢
 rw [hng] at hW0 ⊢
 go_enter Tryz.func98,Tryz.ntmps98
 go_upto_region 1 with (fail)
 clear hW0 hqb hng
 obtain ⟨n1,hn1⟩:∃ n1:Nat,ng+1=n1:=⟨_,rfl⟩
 rw [hn1] at hws
 have HN1:=Lib.hid hn1
 have hn17:n1≤7:=by omega
 clear hn1
 go_wp2_with fail
 go_loopw [17] (fun iv wr=>∃ n:Nat,n≤n1∧iv=.int .i64 n∧Hid (Below W0.heap.size W0 wr∧(List.range n).findSome? (firstK c L)=none)) (fun iv _=>n1 - (intOf iv).toNat)
 case atStart=>exact ⟨0,Nat.zero_le _,rfl,Lib.hid ⟨Below.refl _ _,rfl⟩⟩
 case round =>
  obtain ⟨wo,rfl⟩:∃ wo:World,wo=wr:=⟨_,rfl⟩
  obtain ⟨n,hn,rfl,hst⟩:=hrel
  have HB:=Lib.hid hst.out.1
  have HNO:=Lib.hid hst.out.2
  clear hst
  have h0n:(0:Int)≤(n:Int):=by omega
  by_cases hlt:n<n1
  ·have hni:(n:Int)<(n1:Int):=by omega
   go_wp2_with fail
   go_loopw [7,8,22] (fun bv fv iv wr=>∃ j:Nat,j≤nl∧iv=.int .i64 j∧Hid (Below W0.heap.size W0 wr)∧BestR qb (firstJ c L n j) bv fv wr) (fun _ _ iv _=>nl - (intOf iv).toNat)
   case atStart=>exact ⟨0,Nat.zero_le _,rfl,HB,none,0,rfl,rfl,Nat.le_refl _,PlanO.nil _ _ _⟩
   case round =>
    obtain ⟨wi,rfl⟩:∃ wi:World,wi=wr:=⟨_,rfl⟩
    obtain ⟨j,hj,rfl,HBI,Ab,cb,rfl,rfl,hcb,hpb⟩:=hrel
    have HPB:=Lib.hid hpb
    obtain ⟨bst,hbst⟩:∃ b,firstJ c L n j=b:=⟨_,rfl⟩
    have HBST:=Lib.hid hbst
    rw [hbst] at hcb HPB ⊢
    have HCB:=Lib.hid hcb
    clear hpb hcb hbst
    have h0j:(0:Int)≤(j:Int):=by omega
    by_cases hjl:j<nl
    ·have hji:(j:Int)<(nl:Int):=by omega
     obtain ⟨lb,lo,hAL,hlb,hlc⟩:=HLS.out.2 (by rw [HNL.out];omega)
     subst hAL
     obtain ⟨s,hs⟩:∃ s,L.getD j 0=s:=⟨_,rfl⟩
     have hsm:s ∈ L:=by rw [← hs,List.getD_eq_getElem?_getD,List.getElem?_eq_getElem (by rw [HNL.out];exact hjl),Option.getD_some];exact List.getElem_mem _
     have hss:=HS.out s hsm
     have he:wi.cell? ⟨lb,lo+j,none⟩=some (.int .u64 (s:Int)):=by
      rw [HBI.out.cell (p:=⟨lb,lo+j,none⟩) (by show lb<_;have:=HB0.out.size;have:=HSZ.out;have:=HQB.out;have:=HKC.out.lt;omega)]
      have:=hlc j (by rw [HNL.out];exact hjl) 0 (by omega)
      rw [← hs];simpa using this
     have hcamp:=(HCA.out.later HBI.out)
     obtain ⟨rr,hrr⟩:∃ r,leastB c s n=r:=⟨_,rfl⟩
     have hleast:=least_any wi V c hcamp HC.out s hss n (by omega)
     rw [hrr] at hleast
     have HLE:=Lib.hid hleast
     have HNX:Hid (firstJ c L n (j+1)=lessP bst rr):=Lib.hid (by rw [firstJ_succ _ _ _ _ (by rw [HNL.out];exact hjl),HBST.out,hs,hrr])
     have HLC1:=Lib.hid (HLC.out wi HBI.out)
     clear hsm hss hs hcamp hrr hleast hlc
     go_wp2_with (first | (refine wpLoadAt rfl 26 _ rfl qb 0 rfl (campA V c) _ HLC1.out und_camp rfl (info_campA V c) ?_))
     refine HLE.out.mono ?_
     rintro e W2 ⟨A2,n2,c2,rfl,hn2,hc2,hp2,hb2⟩
     have HB2:=Lib.hid (HBI.out.trans (hb2.mono HBI.out.size))
     have HPB2:=Lib.hid (HPB.out.later hb2)
     have HQ2:Hid (qb≤wi.heap.size):=Lib.hid (by have:=HBI.out.size;have:=HSZ.out;omega)
     have HP2:=Lib.hid (hp2.mono HQ2.out)
     have HC2:=Lib.hid hc2
     clear hp2 hb2 hc2
     cases rr with
     | none =>
      have HNX2:Hid (BestR qb (firstJ c L n (j+1)) (.slice Ab (bst.getD []).length cb) (.bool bst.isSome) W2):=Lib.hid (by
       have e:firstJ c L n (j+1)=bst:=HNX.out
       rw [e];exact ⟨Ab,cb,rfl,rfl,HCB.out,HPB2.out⟩)
      obtain ⟨fb,hfb⟩:∃ b,bst.isSome=b:=⟨_,rfl⟩
      obtain ⟨bl,hbl⟩:∃ l,(bst.getD []).length=l:=⟨_,rfl⟩
      rw [hfb,hbl] at HNX2 ⊢
      clear hfb hbl hn2
      go_wp2_with fail
      go_roundw
      case rel=>first | exact ⟨j+1,by omega,by go_num,HB2,HNX2.out⟩ | ((repeat apply Exists.intro);exact ⟨⟨j+1,by omega,by go_num,HB2,HNX2.out⟩,rfl⟩)
      case measure=>simp [intOf];omega
     | some p =>
      have hn2':n2=p.length:=hn2
      have HP3:Hid (PlanO W2 qb A2 p):=Lib.hid HP2.out
      have hcl:=clonePlan W2 qb A2 c2 p HP3.out (by have:=HB2.out.size;have:=HSZ.out;omega)
      rw [← hn2'] at hcl
      have HCL:=Lib.hid hcl
      have HN2:=Lib.hid hn2'
      have hnx:=HNX.out
      clear hn2 hn2' hcl
      cases bst with
      | none =>
       have HNX2:Hid (firstJ c L n (j+1)=some p):=Lib.hid hnx
       clear hnx
       simp only [Option.isSome_some,Option.isSome_none,Option.getD_none,List.length_nil]
       go_wp2_with fail
       refine HCL.out.mono ?_
       rintro e W3 ⟨A3,c3,rfl,hc3,hp3,hb3⟩
       have HB3:=Lib.hid (HB2.out.trans (hb3.mono HB2.out.size))
       have HE3:Hid (BestR qb (firstJ c L n (j+1)) (.slice A3 n2 c3) (.bool true) W3):=Lib.hid (by rw [HNX2.out];exact ⟨A3,c3,by rw [HN2.out];rfl,rfl,by rw [HN2.out] at hc3;exact hc3,hp3⟩)
       clear hc3 hp3 hb3
       go_wp2_with fail
       go_roundw
       case rel=>first | exact ⟨j+1,by omega,by go_num,HB3,HE3.out⟩ | ((repeat apply Exists.intro);exact ⟨⟨j+1,by omega,by go_num,HB3,HE3.out⟩,rfl⟩)
       case measure=>simp [intOf];omega
      | some b =>
       obtain ⟨bl,hbl⟩:∃ l,b.length=l:=⟨_,rfl⟩
       have hcf:=compareFunc_any W2 p b A2 Ab c2 cb HP3.out.at HPB2.out.at HP3.out.short HPB2.out.short
       have hnx3:firstJ c L n (j+1)=if cmpP p b<0 then some p else some b:=hnx
       obtain ⟨cm,hcm⟩:∃ z,cmpP p b=z:=⟨_,rfl⟩
       rw [hcm] at hcf hnx3
       rw [← HN2.out,show b.length=bl from hbl] at hcf
       have HCF:=Lib.hid hcf
       have HNX3:=Lib.hid hnx3
       have HBLE:Hid (bl≤cb):=Lib.hid (by rw [← hbl];exact HCB.out)
       have HBLN:=Lib.hid hbl
       simp only [Option.isSome_some,Option.getD_some]
       rw [hbl]
       clear hnx hnx3 hcf hcm hbl
       by_cases hz:cm<0
       ·have hz1:decide (cm<(0:Int))=true:=decide_eq_true hz
        have HNX2:Hid (firstJ c L n (j+1)=some p):=Lib.hid (by rw [HNX3.out,if_pos hz])
        clear HNX3
        go_wp2_with fail
        refine HCF.out.mono ?_
        rintro e W4 ⟨rfl,hb4⟩
        have HB4:=Lib.hid (HB2.out.trans (hb4.mono HB2.out.size))
        have hcl4:=clonePlan W4 qb A2 c2 p (HP3.out.later hb4) (by have:=HB4.out.size;have:=HSZ.out;omega)
        rw [← HN2.out] at hcl4
        have HCL4:=Lib.hid hcl4
        clear hb4 hcl4
        go_wp2_with fail
        refine HCL4.out.mono ?_
        rintro e W3 ⟨A3,c3,rfl,hc3,hp3,hb3⟩
        have HB3:=Lib.hid (HB4.out.trans (hb3.mono HB4.out.size))
        have HE3:Hid (BestR qb (firstJ c L n (j+1)) (.slice A3 n2 c3) (.bool true) W3):=Lib.hid (by rw [HNX2.out];exact ⟨A3,c3,by rw [HN2.out];rfl,rfl,by rw [HN2.out] at hc3;exact hc3,hp3⟩)
        clear hc3 hp3 hb3
        go_wp2_with fail
        go_roundw
        case rel=>first | exact ⟨j+1,by omega,by go_num,HB3,HE3.out⟩ | ((repeat apply Exists.intro);exact ⟨⟨j+1,by omega,by go_num,HB3,HE3.out⟩,rfl⟩)
        case measure=>simp [intOf];omega
       ·have hz1:decide (cm<(0:Int))=false:=decide_eq_false hz
        have HNX2:Hid (firstJ c L n (j+1)=some b):=Lib.hid (by rw [HNX3.out,if_neg hz])
        clear HNX3
        go_wp2_with fail
        refine HCF.out.mono ?_
        rintro e W4 ⟨rfl,hb4⟩
        have HB4:=Lib.hid (HB2.out.trans (hb4.mono HB2.out.size))
        have HE3:Hid (BestR qb (firstJ c L n (j+1)) (.slice Ab bl cb) (.bool true) W4):=Lib.hid (by rw [HNX2.out];exact ⟨Ab,cb,by rw [← HBLN.out];rfl,rfl,by show b.length≤cb;rw [HBLN.out];exact HBLE.out,HPB2.out.later hb4⟩)
        clear hb4
        go_wp2_with fail
        go_roundw
        case rel=>first | exact ⟨j+1,by omega,by go_num,HB4,HE3.out⟩ | ((repeat apply Exists.intro);exact ⟨⟨j+1,by omega,by go_num,HB4,HE3.out⟩,rfl⟩)
        case measure=>simp [intOf];omega
    ·obtain rfl:j=nl:=by omega
     have hfk:firstK c L n=bst:=by
      have:=HBST.out
      unfold firstJ at this
      rw [List.take_of_length_le (by rw [HNL.out];exact Nat.le_refl _)] at this
      exact this
     cases bst with
     | none =>
      have HF:Hid (Below W0.heap.size W0 wi∧(List.range (n+1)).findSome? (firstK c L)=none):=Lib.hid ⟨HBI.out,by rw [findSome_range _ _ HNO.out];exact hfk⟩
      clear hfk
      go_wp2_with fail
      go_roundw
      case rel=>first | exact ⟨n+1,by omega,by go_num,HF⟩ | ((repeat apply Exists.intro);exact ⟨⟨n+1,by omega,by go_num,HF⟩,rfl⟩)
      case measure=>simp [intOf];omega
     | some b =>
      have hrb:r=some b:=by rw [← HR.out];exact findSome_at _ n _ (by rw [HN1.out];exact hlt) HNO.out hfk
      have HF:Hid (PQ (.returned (.tuple #[.slice Ab b.length cb,.bool true])) wi):=Lib.hid (by
       have:=HFIN.out Ab b.length cb wi (by rw [hrb];rfl) HCB.out (by rw [hrb];exact HPB.out) (HB0.out.trans (HBI.out.mono HSZ.out))
       rw [hrb] at this;exact this)
      simp only [Option.isSome_some,Option.getD_some]
      clear hfk hrb
      go_wp2_with fail
      first | exact HF.out | (go_ret2;exact HF.out)
  ·obtain rfl:n=n1:=by omega
   have hrn:r=none:=by rw [← HR.out,HN1.out];exact HNO.out
   have HF:Hid (PQ (.returned (.tuple #[.slice none 0 0,.bool false])) wo):=Lib.hid (by
    have:=HFIN.out none 0 0 wo (by rw [hrn];rfl) (Nat.le_refl _) (by rw [hrn];exact PlanO.nil _ _ _) (HB0.out.trans (HB.out.mono HSZ.out))
    rw [hrn] at this;exact this)
   clear hrn
   go_wp2_with fail
   first | exact HF.out | (go_ret2;exact HF.out)
end Go.Proofs.YtcnjenlojnognaaGreat
/- What is proved: a contract of campaign.can. Conditions: the campaign is valid, the set is of its cargos; the lists lie in memory. -/
namespace Go.Proofs.YtcnjenlojnognaaGreat
open Go.RowKit

set_option maxRecDepth 100000 in
set_option maxHeartbeats 4000000 in
theorem can_any (w:World) (V:CV) (c:CampD) (h:CampAt w w.heap.size V c) (hc:campB c=true) (s:Nat) (hs:s<2 ^ c.cargos.length) :
  Calls Tryz.prog 68 #[.agg (campA V c),.int .u64 (s:Int)] w fun e w'=>e=.returned (.bool (canB c s))∧Below w.heap.size w w':=by
 obtain ⟨qb,hqb⟩:∃ qb,w.heap.size=qb:=⟨_,rfl⟩
 obtain ⟨W0,hW0⟩:∃ W0,w.alloc (.cells (campA V c) 26)=W0:=⟨_,rfl⟩
 have hb0:Below w.heap.size w W0:=by rw [← hW0];exact (Below.refl _ w).alloc (Nat.le_refl _) _
 have HB0:Hid (Below qb w W0):=Lib.hid (by rw [← hqb];exact hb0)
 have HKC:Hid (Bk W0 qb 26 (campA V c)):=Lib.hid (by rw [← hW0,← hqb];exact Bk.new _ _ _)
 have hsz0:W0.heap.size=qb+1:=by rw [← hW0,← hqb];simp
 obtain ⟨W1,hW1⟩:∃ W1,W0.alloc (.cells #[.int .u64 (s:Int)] 94)=W1:=⟨_,rfl⟩
 have hb1:Below W0.heap.size W0 W1:=by rw [← hW1];exact (Below.refl _ W0).alloc (Nat.le_refl _) _
 have hk1:Bk W1 (qb+1) 94 #[.int .u64 (s:Int)]:=by rw [← hW1];exact Bk.newAt _ _ _ _ hsz0.symm
 have hsl:Sl W1 W1.heap.size 1 (some ⟨qb+1,0,none⟩) [s].length fun i _=>.int .u64 (([s].getD i 0:Nat):Int):=⟨by simp,fun _=>⟨qb+1,0,rfl,hk1.lt,fun i hi j hj=>by
  obtain rfl:i=0:=by simpa using hi
  obtain rfl:j=0:=by omega
  exact hk1.cell 0⟩⟩
 have hfi:=first_any W1 V c ((h.later hb0).later hb1) hc [s] (some ⟨qb+1,0,none⟩) 1 hsl (by simpa using hs) (by simp)
 have HFI:=Lib.hid hfi
 have HB1:Hid (Below qb w W1):=Lib.hid (HB0.out.trans (hb1.mono (by omega)))
 have hq1:qb≤W1.heap.size:=by have:=hb1.size;omega
 have HLC0:Hid (∀ j u,(campA V c)[j]?=some u→W0.cell? ⟨qb,0+j,none⟩=some u):=Lib.hid fun j u hj=>by rw [Nat.zero_add,HKC.out.cell];exact hj
 obtain ⟨r,hr⟩:∃ r,firstB c [s]=r:=⟨_,rfl⟩
 obtain ⟨PQ,hPQ⟩:∃ Q,(fun (e:Ending) (w':World)=>e=.returned (.bool (canB c s))∧Below w.heap.size w w')=Q:=⟨_,rfl⟩
 have HFIN:Hid (∀ w',Below qb w w'→PQ (.returned (.bool r.isSome)) w'):=Lib.hid fun w' h2=>by
  rw [← hPQ];exact ⟨by unfold canB;rw [hr],by rw [hqb];exact h2⟩
 rw [hr] at HFI
 rw [hPQ]
 have hsi:(0:Int)≤(s:Int):=by omega
 clear h hc hs hb0 hb1 hk1 hsl hfi hPQ hr
 simp only [campA] at hW0 ⊢
 go_enter Tryz.func68,Tryz.ntmps68
 go_upto_region 1 with (fail)
 clear hW0 hqb
 go_wp2_with (first | (refine wpLoadAt rfl 26 _ rfl qb 0 rfl (campA V c) _ HLC0.out und_camp rfl (info_campA V c) ?_))
 try rw [hW1]
 refine HFI.out.mono ?_
 rintro e w2 ⟨A,n,c',rfl,hn,hc',hp,hb2⟩
 have HE:=Lib.hid (HFIN.out w2 (HB1.out.trans (hb2.mono hq1)))
 clear hn hc' hp hb2
 go_wp2_with fail
 first | exact HE.out | (go_ret;exact HE.out)
end Go.Proofs.YtcnjenlojnognaaGreat
/- What is proved: contracts of slices.Backward at ints, and of the function that it hands back. Conditions: the numbers lie in memory from the start of a block on; the loop's body leaves them as they are. -/
namespace Go.Proofs.YtcnjenlojnognaaGreat
open Go.RowKit Go.Shelf
attribute [local go_sem] Oper.semAt_some

def Fin.vals {n:Nat} (l:List (Fin n)):List Nat:=l.map Fin.val
theorem rev_take {n k:Nat} (hk:k<n):(List.range n).reverse.take (k+1)=(List.range n).reverse.take k ++ [n - 1 - k]:=by
 rw [List.take_add_one,List.getElem?_reverse (by simpa using hk),List.length_range,List.getElem?_range (by omega)]
 rfl
set_option maxHeartbeats 1000000 in
theorem backward_in (A:Option Addr) (n c:Nat) (w:World) :
  CallsIn Fence.wide 5 Tryz.prog 97 #[.slice A n c] w fun e w'=>e=.returned (.func (.func 114) #[] #[.pointer (some ⟨w.heap.size,0,none⟩)])∧w'=w.alloc (.cells #[.slice A n c] 48):=by
 refine callsIn_of_wp Tryz.func97 rfl trivial ?_ rfl
 simp only [Tryz.ntmps97,List.size_toArray,List.length_cons,List.length_nil,Nat.reduceAdd,Nat.reduceSub,Array.replicate_succ,Array.replicate_zero,List.push_toArray,List.append_toArray,List.nil_append,List.cons_append]
 gi_wp2
 go_ret
 exact ⟨by simp,rfl⟩

set_option maxRecDepth 100000 in
set_option maxHeartbeats 4000000 in
theorem backward1_in (l Bs g n c:Nat) (L:List Int) (hn:n≤4096) (hL:L.length=n) (J Jx:List (Fin n)→World→Prop)
  (hY:∀ pre x W,J pre W→pre.length<n→YieldAt Fence.wide 4 Tryz.prog l #[.int .i64 (x.val:Int),.int .i64 (numI L x.val)] W fun e W' =>
   (e=.returned (.bool true)∧J (pre ++ [x]) W'∧KeepL [Bs,g] W W') ∨ (e=.returned (.bool false)∧Jx (pre ++ [x]) W'))
  (W:World) (hbs:W.cell? ⟨Bs,0,none⟩=some (.slice (some ⟨g,0,none⟩) n c)) (hc:∀ i,i<n→W.cell? ⟨g,i,none⟩=some (.int .i64 (numI L i))) (h0:J [] W) :
  CallsIn Fence.wide 5 Tryz.prog 114 #[.func (.yield l) #[] #[],.pointer (some ⟨Bs,0,none⟩)] W fun e W'=>(∃ v,e=.returned v) ∧
   ((∃ ys,Fin.vals ys=(List.range n).reverse∧J ys W') ∨ (∃ pre,Fin.vals pre <+: (List.range n).reverse∧pre ≠ []∧Jx pre W')):=by
 refine callsIn_of_wp Tryz.func114 rfl trivial ?_ rfl
 simp only [Tryz.ntmps114,List.size_toArray,List.length_cons,List.length_nil,Nat.reduceAdd,Nat.reduceSub,Array.replicate_succ,Array.replicate_zero,List.push_toArray,List.append_toArray,List.nil_append,List.cons_append]
 have HC:=Lib.hid hc
 have hws:IntKind.i64.wrap ((n:Int) - 1)=(n:Int) - 1:=IntWalk.i64_in _ (by omega)
 clear hc
 gi_wp2
 gi_loopw [3] (fun p wr=>∃ (k:Nat) (ys:List (Fin n)),k≤n∧p=.int .i64 ((n:Int) - 1 - (k:Int))∧Hid (Fin.vals ys=(List.range n).reverse.take k∧J ys wr∧KeepL [Bs,g] W wr))
  (fun p _=>(intOf p+1).toNat)
 case atStart=>exact ⟨0,[],Nat.zero_le _,by go_num,Lib.hid ⟨rfl,h0,KeepL.refl _ _⟩⟩
 case round =>
  obtain ⟨k,ys,hk,rfl,hs'⟩:=hrel
  have fs:wr.cell? ⟨Bs,0,none⟩=some (.slice (some ⟨g,0,none⟩) n c):=(hs'.out.2.2.cell (p:=⟨Bs,0,none⟩) (by simp)).trans hbs
  by_cases hlt:k<n
  ·obtain ⟨i,hi⟩:∃ i:Nat,n - 1 - k=i:=⟨_,rfl⟩
   have hin:i<n:=by omega
   have hie:(n:Int) - 1 - (k:Int)=(i:Int):=by omega
   have fv:wr.cell? ⟨g,i,none⟩=some (.int .i64 (numI L i)):=(hs'.out.2.2.cell (p:=⟨g,i,none⟩) (by simp)).trans (HC.out i hin)
   obtain ⟨fn,tmps,assign,body,hy,hR⟩:=hY ys ⟨i,hin⟩ wr hs'.out.2.1 (by
    have h3:=congrArg List.length hs'.out.1
    rw [List.length_take,List.length_reverse,List.length_range] at h3
    unfold Fin.vals at h3
    rw [List.length_map] at h3
    omega)
   dsimp only at hy hR
   have HTK:Hid (Fin.vals (ys ++ [⟨i,hin⟩])=(List.range n).reverse.take (k+1)):=Lib.hid (by
    rw [rev_take hlt,← hs'.out.1,hi];simp [Fin.vals])
   have hR':=hR.mono (R':=fun e W'=>∃ b,e=.returned (.bool b)∧Hid ((b=true∧J (ys ++ [⟨i,hin⟩]) W'∧KeepL [Bs,g] wr W') ∨ (b=false∧Jx (ys ++ [⟨i,hin⟩]) W'))) (by
    rintro e W' (⟨rfl,h1,h2⟩ | ⟨rfl,h1⟩)
    ·exact ⟨true,rfl,Lib.hid (.inl ⟨rfl,h1,h2⟩)⟩
    ·exact ⟨false,rfl,Lib.hid (.inr ⟨rfl,h1⟩)⟩)
   have HBW:Hid (∀ W',KeepL [Bs,g] wr W'→KeepL [Bs,g] W W'):=Lib.hid fun W' hb=>hs'.out.2.2.trans hb
   clear hR hY
   rw [hie]
   obtain ⟨vi,hvi⟩:∃ v,numI L i=v:=⟨_,rfl⟩
   rw [hvi] at fv hy
   have h0i:(0:Int)≤(i:Int):=by omega
   have hii:(i:Int)<(n:Int):=by omega
   have hws2:IntKind.i64.wrap ((i:Int) - 1)=(i:Int) - 1:=IntWalk.i64_in _ (by omega)
   clear hvi
   gi_wp2
   refine hR'.mono ?_
   clear hR'
   rintro e W3 ⟨b,rfl,hb3⟩
   cases b with
   | true =>
    have hb4:J (ys ++ [⟨i,hin⟩]) W3∧KeepL [Bs,g] wr W3:=by
     rcases hb3.out with ⟨_,h3,h4⟩ | ⟨h3,_⟩
     ·exact ⟨h3,h4⟩
     ·cases h3
    have HB4:=Lib.hid hb4
    clear hb4
    gi_wp2
    go_roundw
    case rel=>exact ⟨k+1,_,by omega,(by first | (congr 1;omega) | (rw [hws2];congr 1;omega) | go_num),Lib.hid ⟨HTK.out,HB4.out.1,HBW.out _ HB4.out.2⟩⟩
    case measure=>simp [intOf]
   | false =>
    gi_wp2
    refine bodyPost_ret (results_none rfl _ _ _) rfl ⟨⟨_,rfl⟩,.inr ⟨ys ++ [⟨i,hin⟩],?_,?_,?_⟩⟩
    ·rw [HTK.out];exact List.take_prefix _ _
    ·simp
    ·rcases hb3.out with ⟨h3,_⟩ | ⟨_,h3⟩
     ·cases h3
     ·exact h3
  ·obtain rfl:k=n:=by omega
   have hneg:¬ (0:Int)≤(k:Int) - 1 - (k:Int):=by omega
   gi_wp2
   go_end0
   refine ⟨⟨_,rfl⟩,.inl ⟨ys,?_,hs'.out.2.1⟩⟩
   rw [hs'.out.1,List.take_of_length_le (by simp)]

/-- Backward hands back a function that stops where its caller wants. -/
theorem backward_stops (Bs g n c:Nat) (L:List Int) (hn:n≤4096) (hL:L.length=n) (w:World) (hs4:Bs<w.heap.size) (hg:g<w.heap.size) (hbs:w.cell? ⟨Bs,0,none⟩=some (.slice (some ⟨g,0,none⟩) n c)) (hc:∀ i,i<n→w.cell? ⟨g,i,none⟩=some (.int .i64 (numI L i))) :
  SeqStopsK Fence.wide 5 Tryz.prog 114 #[.pointer (some ⟨Bs,0,none⟩)] (fun x:Fin n=>#[Value.int .i64 (x.val:Int),Value.int .i64 (numI L x.val)]) (KeepL [Bs,g])
   (fun ys=>Fin.vals ys=(List.range n).reverse) (fun pre=>Fin.vals pre <+: (List.range n).reverse∧pre ≠ []) n w:=fun l J Jx W hW hJ _ hY h0=>by
 have hk:KeepL [Bs,g] w W:=KeepL.below hW (by simp;exact ⟨hs4,hg⟩)
 refine (backward1_in l Bs g n c L hn hL J Jx hY W ((hk.cell (p:=⟨Bs,0,none⟩) (by simp)).trans hbs) (fun i hi=>(hk.cell (p:=⟨g,i,none⟩) (by simp)).trans (hc i hi)) h0).mono ?_
 rintro e W' ⟨he,⟨ys,h1,h2⟩ | ⟨pre,h1,h2,h3⟩⟩
 ·exact ⟨he,.inl ⟨ys,h1,h2⟩⟩
 ·exact ⟨he,.inr ⟨pre,⟨h1,h2⟩,h3⟩⟩
end Go.Proofs.YtcnjenlojnognaaGreat
/- What is proved: what Best and Conflict lean on: the cargos that must be launched. Conditions: those that each lemma states. -/
namespace Go.Proofs.YtcnjenlojnognaaGreat
open Go.RowKit

def mustK (c:CampD) (k:Nat):Nat:=(List.range k).foldl (fun (m i:Nat)=>if (c.cargo (i:Int)).must then m ||| (1 <<< i) else m) 0
theorem mustK_succ (c:CampD) (k:Nat):mustK c (k+1)=if (c.cargo (k:Int)).must then mustK c k ||| (1 <<< k) else mustK c k:=by
 unfold mustK;rw [List.range_succ,List.foldl_append];rfl
theorem mustK_lt (c:CampD):∀ (k:Nat),mustK c k<2 ^ k
 | 0=>Nat.one_pos
 | k+1=>by
  have ih:=mustK_lt c k
  rw [mustK_succ]
  have h1:mustK c k<2 ^ (k+1):=Nat.lt_of_lt_of_le ih (Nat.pow_le_pow_right (by omega) (by omega))
  split
  ·refine Nat.or_lt_two_pow h1 ?_
   rw [Nat.one_shiftLeft]
   exact Nat.pow_lt_pow_right (by omega) (by omega)
  ·exact h1
theorem mustS_eq (c:CampD):mustS c=mustK c c.cargos.length:=rfl
theorem mustS_lt2 (c:CampD):mustS c<2 ^ c.cargos.length:=mustK_lt c c.cargos.length
theorem orBit_all:((List.range 64).all fun s=>(List.range 6).all fun m=>decide (bits .or .u64 (s:Int) (IntKind.u64.wrap (2 ^ m))=((s ||| (1 <<< m):Nat):Int)))=true:=by kernel_rfl
theorem orBit_one {s m:Nat} (hs:s<64) (hm:m<6):bits .or .u64 (s:Int) (IntKind.u64.wrap (2 ^ m))=((s ||| (1 <<< m):Nat):Int):=by
 have h:=List.all_eq_true.1 orBit_all s (List.mem_range.2 hs)
 exact of_decide_eq_true (List.all_eq_true.1 h m (List.mem_range.2 hm))
theorem und_cargo:Tryz.prog.underlying 54=some (.struct (match Tryz.prog.underlying 54 with | some (.struct f)=>f | _=>#[])):=by kernel_rfl
theorem info_cargo:(Tryz.prog.info? 54).map (·.size)=some 6:=by kernel_rfl
def cargoA (x:CargoD):Array Value:=#[.string x.name,.int .i64 x.mass,.int .i64 x.value,.int .i64 x.frm,.int .i64 x.to,.bool x.must]
theorem cargoA_one (x:CargoD):∀ u ∈ (cargoA x).toList,u.oneCell'=true:=by intro u hu;simp [cargoA] at hu;rcases hu with rfl | rfl | rfl | rfl | rfl | rfl <;> rfl
theorem info_cargoA (x:CargoD):(Tryz.prog.info? 54).map (·.size)=some (cargoA x).size:=info_cargo
def zeroCg:Array Value:=#[.string ByteArray.empty,.int .i64 0,.int .i64 0,.int .i64 0,.int .i64 0,.bool false]
theorem splA_all (cs S:Array Value) (h:cs.size=S.size):splA cs 0 S.toList=S:=by
 apply Array.ext_getElem?
 intro i
 rw [splA_get _ _ _ _ (by simp [h])]
 by_cases hi:i<S.size
 ·rw [if_pos ⟨Nat.zero_le _,by simpa using hi⟩];simp
 ·rw [if_neg (by simp;omega),Array.getElem?_eq_none (by omega),Array.getElem?_eq_none (by omega)]
theorem cargo_cell {w:World} {c:CampD} {b off:Nat} (hc:∀ i,i<c.cargos.length→∀ j,j<6→w.cell? ⟨b,off+i * 6+j,none⟩=some (cargoC (c.cargoN i) j)) {i:Nat} (hi:i<c.cargos.length):∀ j u,(cargoA (c.cargoN i))[j]?=some u→w.cell? ⟨b,off+i * 6+j,none⟩=some u:=fun j u hj=>by
 have hj6:j<6:=(Array.getElem?_eq_some_iff.1 hj).1
 rw [hc i hi j hj6,← hj]
 match j,hj6 with
 | 0,_=>rfl
 | 1,_=>rfl
 | 2,_=>rfl
 | 3,_=>rfl
 | 4,_=>rfl
 | 5,_=>rfl
end Go.Proofs.YtcnjenlojnognaaGreat
/- What is proved: loads and stores of several cells in a function that ranges over a function, outside its rounds. Conditions: those that each lemma states. -/
namespace Go.Proofs.YtcnjenlojnognaaGreat
open Go.RowKit Go.Shelf

theorem Oper.wpIn_of_wpW {P:Program} {Q:Exit→Act→World→Prop} {K:Act→World→Prop} {o:Oper} {a:Act} {w:World} (n:Nat) (h:o.wp P a w K Q):o.wpIn Fence.wide n P a w K Q:=by
 unfold Oper.wp at h
 unfold Oper.wpIn
 refine ⟨fun _ _=>trivial,?_⟩
 rw [show Fence.wide.round=none from rfl,Oper.semAt_none]
 generalize (execOp a.eval o).run P w=r at *
 cases r with
 | ok x w' =>
  cases x <;> simp only [Oper.upon] at h <;> simp only [Oper.uponIn]
  case value u=>exact h
  case skip=>exact h
  case defer d=>exact h
  case enter f args=>exact ⟨fun hs=>by simp [Fence.wide] at hs,(callsIn_wide.2 h).mono fun e w'' he=>by cases e <;> exact he⟩
  case row r args=>exact ⟨fun hs=>by simp [Fence.wide] at hs,fun c cs _=>let ⟨v,w',q,s⟩:=h c cs;⟨v,w',q,stepsIn_wide.2 s⟩⟩
  all_goals exact absurd h (by simp)
 | halt x w'=>cases x <;> simp only [Oper.upon] at h <;> simp only [Oper.uponIn] <;> exact h
/-- A load of several cells, outside rounds. -/
theorem wpLoadAtW {n:Nat} {P:Program} {ops:Array Oper} {rest:List Oper} {o:Oper} {a:Act} {w:World} {Q:Exit→Act→World→Prop} (hgd:Region.wanted o (yielded ops a.tmps)=true) (ty:TypeId) (x:Operand) (ho:o.op=.load ty x)
  (g off:Nat) (hx:a.eval x=.pointer (some ⟨g,off,none⟩)) (S:Array Value) (d:TypeDesc) (hc:∀ j u,S[j]?=some u→w.cell? ⟨g,off+j,none⟩=some u)
  (hu:P.underlying ty=some d) (hd:(match d with | .struct _ | .array _ _=>true | _=>false)=true) (hi:(P.info? ty).map (·.size)=some S.size)
  (h:wpListIn Fence.wide n P ops Q rest (a.put o.dst (.agg S)) w):wpListIn Fence.wide n P ops Q (o :: rest) a w:=by
 rw [wpListIn,if_pos hgd]
 refine Oper.wpIn_of_wpW n ?_
 unfold Oper.wp execOp
 simp only [ho,hx,Instr.loadAt,Instr.sureAddr,Sem.run_bind,Sem.run_pure,Result.andThen_ok,run_loadVar_at w g off ty S d hc hu hd hi]
 exact h
/-- A store of several cells, outside rounds. -/
theorem wpStoreAtW {n:Nat} {P:Program} {ops:Array Oper} {rest:List Oper} {o:Oper} {a:Act} {w:World} {Q:Exit→Act→World→Prop} (hgd:o.guard=none) (hdst:o.dst=none) (ty:TypeId) (x y:Operand) (ho:o.op=.store ty x y)
  (g off:Nat) (hx:a.eval x=.pointer (some ⟨g,off,none⟩)) (S:Array Value) (hy:a.eval y=.agg S) (t:TypeId) (cs:Array Value) (hb:Bk w g t cs)
  (hl:off+S.size≤cs.size) (h1:∀ u ∈ S.toList,u.oneCell'=true) (hi:(P.info? ty).map (·.size)=some S.size)
  (h:∀ w',Bk w' g t (splA cs off S.toList)→Only g w w'→wpListIn Fence.wide n P ops Q rest a w'):wpListIn Fence.wide n P ops Q (o :: rest) a w :=
 wpListIn_plain hgd fun K hK=>Oper.wpIn_of_wpW n (by
  obtain ⟨w',r1,r2,r3⟩:=run_storeVar_at (P:=P) w g off t ty cs S hb hl h1 hi
  unfold Oper.wp execOp
  simp only [ho,hx,hy,Instr.storeAt,Instr.sureAddr,Sem.run_bind,Sem.run_pure,Result.andThen_ok,r1]
  have:=hK _ _ (h w' r2 r3)
  simpa [Oper.upon,hdst,Act.put] using this)
end Go.Proofs.YtcnjenlojnognaaGreat
/- What is proved: a contract of campaign.Conflict. Conditions: the campaign lies in memory. -/
namespace Go.Proofs.YtcnjenlojnognaaGreat
open Go.RowKit Go.Shelf
attribute [local go_sem] Oper.semAt_some

theorem bitsL_pos_all:((List.range 64).all fun p=>decide (p=0) || decide (0<(bitsL p).length))=true:=by kernel_rfl
theorem bitsL_pos {p:Nat} (h:p<64) (h0:p ≠ 0):0<(bitsL p).length:=by
 have:=List.all_eq_true.1 bitsL_pos_all p (List.mem_range.2 h)
 rw [Bool.or_eq_true,decide_eq_true_eq,decide_eq_true_eq] at this
 exact this.resolve_left h0
def confS (c:CampD) (out:Option (List Int)) (p:Nat):Option (List Int):=if fewerB out (bitsL p) && !canB c p then some (bitsL p) else out
def confF (c:CampD) (ps:List Nat):Option (List Int):=ps.foldl (confS c) none
/-- What Conflict hands back. -/
def confB (c:CampD):List Int × Int:=if campB c=false then ([],2) else if canB c (mustS c)=true then ([],7) else ((confF c (downL (mustS c))).getD [],0)
def ConfPost (c:CampD) (w:World) (e:Ending) (w':World):Prop :=
 ∃ A c',e=.returned (.tuple #[.slice A (confB c).1.length c',.int .i64 (confB c).2])∧(confB c).1.length≤c'∧IntsO w' w.heap.size A (confB c).1∧Below w.heap.size w w'
set_option maxRecDepth 100000 in
set_option maxHeartbeats 16000000 in
theorem conflict_any (w:World) (V:CV) (c:CampD) (h:CampAt w w.heap.size V c) :
  Calls Tryz.prog 29 #[.agg (campA V c)] w (ConfPost c w):=by
 obtain ⟨qb,hqb⟩:∃ qb,w.heap.size=qb:=⟨_,rfl⟩
 obtain ⟨W0,hW0⟩:∃ W0,w.alloc (.cells (campA V c) 26)=W0:=⟨_,rfl⟩
 have hb0:Below w.heap.size w W0:=by rw [← hW0];exact (Below.refl _ w).alloc (Nat.le_refl _) _
 have HB0:Hid (Below qb w W0):=Lib.hid (by rw [← hqb];exact hb0)
 have HKC:Hid (Bk W0 qb 26 (campA V c)):=Lib.hid (by rw [← hW0,← hqb];exact Bk.new _ _ _)
 have hsz0:W0.heap.size=qb+1:=by rw [← hW0,← hqb];simp
 have HCA:=Lib.hid (h.later hb0)
 have HLC:Hid (∀ w1,Below W0.heap.size W0 w1→∀ j u,(campA V c)[j]?=some u→w1.cell? ⟨qb,0+j,none⟩=some u):=Lib.hid fun w1 hb j u hj=>by rw [Nat.zero_add,(HKC.out.below hb HKC.out.lt).cell];exact hj
 have HLC0:=Lib.hid (HLC.out W0 (Below.refl _ _))
 obtain ⟨PQ,hPQ⟩:∃ Q,ConfPost c w=Q:=⟨_,rfl⟩
 have HFIN:Hid (∀ (A:Option Addr) (l:List Int) (n c':Nat) (er:Int) (w':World),confB c=(l,er)→l.length=n→n≤c'→IntsO w' qb A l→Below qb w w'→PQ (.returned (.tuple #[.slice A n c',.int .i64 er])) w'):=Lib.hid fun A l n c' er w' h1 h2 h3 h4 h5=>by
  subst h2;rw [← hPQ];unfold ConfPost;rw [h1,hqb];exact ⟨A,c',rfl,h3,h4,h5⟩
 obtain ⟨cb,hcb⟩:∃ b,campB c=b:=⟨_,rfl⟩
 have HCB:=Lib.hid hcb
 have hchk:=check_any W0 V c HCA.out
 rw [hcb] at hchk
 have HCK:=Lib.hid hchk
 obtain ⟨ng,hng⟩:∃ ng,c.cargos.length=ng:=⟨_,rfl⟩
 have HNG:=Lib.hid hng
 have HQS:Hid (qb≤W0.heap.size):=Lib.hid (by omega)
 rw [hPQ]
 clear h hb0 hcb hchk hPQ
 refine (callsIn_wide (n:=6)).1 ?_
 refine callsIn_of_wp_marks Tryz.func29 rfl trivial ?_ rfl
 simp only [Tryz.ntmps29,List.size_toArray,List.length_cons,List.length_nil,Nat.reduceAdd,Nat.reduceSub,Array.replicate_succ,Array.replicate_zero,List.push_toArray,List.append_toArray,List.nil_append,List.cons_append]
 simp only [campA] at hW0 ⊢
 rw [hng] at hW0 ⊢
 gi_upto_region 1 with (fail)
 clear hW0 hqb
 gi_wp2_with (first | (refine wpLoadAtW rfl 26 _ rfl qb 0 rfl (campA V c) _ HLC0.out und_camp rfl (info_campA V c) ?_))
 refine ⟨trivial,?_⟩
 refine (callsIn_wide.2 HCK.out).mono ?_
 rintro e W1 ⟨rfl,hb1⟩
 have HB1:=Lib.hid hb1
 clear hb1
 cases cb with
 | false =>
  have HF:=Lib.hid (HFIN.out none [] 0 0 2 W1 (by unfold confB;rw [if_pos HCB.out]) rfl (Nat.le_refl _) (Cl.nil _ _ _ _ _ _) (HB0.out.trans (HB1.out.mono HQS.out)))
  gi_wp2_with fail
  refine ⟨_,results_tmp2 rfl _ _ _,?_⟩
  exact HF.out
 | true =>
 have hlen:=camp_len HCB.out
 have hng6:ng≤6:=by omega
 have hng1:1≤ng:=by omega
 obtain ⟨gb,go,hgA,hgb,hgc⟩:=HCA.out.cargos.2 (by omega)
 have HCV:Hid (∀ w1,Below W0.heap.size W0 w1→w1.cell? ⟨qb,2,none⟩=some (.slice (some ⟨gb,go,none⟩) ng V.gc)∧∀ i,i<ng→∀ j u,(cargoA (c.cargoN i))[j]?=some u→w1.cell? ⟨gb,go+i * 6+j,none⟩=some u):=Lib.hid fun w1 hb=>by
  refine ⟨?_,fun i hi j u hj=>?_⟩
  ·rw [← HNG.out,← hgA];exact (HKC.out.below hb HKC.out.lt).cell 2
  ·rw [hb.cell (p:=⟨gb,go+i * 6+j,none⟩) hgb]
   exact cargo_cell hgc (by rw [HNG.out];exact hi) j u hj
 clear hgA hgc hlen
 obtain ⟨k2,_⟩:=HCV.out W1 HB1.out
 gi_wp2_with fail
 gi_loopw [4,17] (fun mv iv wr=>Hid (Below W0.heap.size W0 wr)∧∃ i:Nat,i≤ng∧iv=.int .i64 i∧mv=.int .u64 (mustK c i:Nat)) (fun _ iv _=>ng - (intOf iv).toNat)
 case atStart=>exact ⟨HB1,0,Nat.zero_le _,rfl,rfl⟩
 case round =>
  obtain ⟨wo,rfl⟩:∃ wo:World,wo=wr:=⟨_,rfl⟩
  obtain ⟨HB,i,hi,rfl,rfl⟩:=hrel
  have h0i:(0:Int)≤(i:Int):=by omega
  have hm64:mustK c i<64:=Nat.lt_of_lt_of_le (mustK_lt c i) (Nat.pow_le_pow_right (by omega) (by omega:i≤6))
  by_cases hlt:i<ng
  ·have hii:(i:Int)<(ng:Int):=by omega
   obtain ⟨q,hq⟩:∃ q,wo.heap.size=q:=⟨_,rfl⟩
   have HKB:Hid (Bk (wo.alloc (.cells zeroCg 54)) q 54 zeroCg):=Lib.hid (by rw [← hq];exact Bk.new _ _ _)
   have HCG:Hid (∀ j u,(cargoA (c.cargoN i))[j]?=some u→wo.cell? ⟨gb,go+i * 6+j,none⟩=some u):=Lib.hid ((HCV.out wo HB.out).2 i hlt)
   have HOR:=Lib.hid (orBit_one hm64 (by omega:i<6))
   gi_upto_region 7 with (first | (refine wpLoadAtW rfl 54 _ rfl gb (go+i * 6) rfl (cargoA (c.cargoN i)) _ HCG.out und_cargo rfl (info_cargoA _) ?_) | (refine wpStoreAtW rfl rfl 54 _ _ rfl q 0 rfl (cargoA (c.cargoN i)) rfl 54 _ HKB.out (by show 0+6≤6;omega) (cargoA_one _) (info_cargoA _) ?_;intro wf hkf hof))
   rw [splA_all zeroCg (cargoA (c.cargoN i)) rfl] at hkf
   have HBF:Hid (Below W0.heap.size W0 wf):=Lib.hid (HB.out.trans ((((Below.refl _ wo).alloc (Nat.le_refl _) _).trans (hof.below (by omega))).mono HB.out.size))
   obtain ⟨mu,hmu⟩:∃ b,(c.cargoN i).must=b:=⟨_,rfl⟩
   have k5:wf.cell? ⟨q,5,none⟩=some (.bool mu):=by rw [hkf.cell,← hmu];rfl
   have HMU:Hid (mustK c (i+1)=if mu=true then mustK c i ||| (1 <<< i) else mustK c i):=Lib.hid (by rw [mustK_succ,cargo_nat,hmu])
   clear hkf hof hmu HKB HCG hq
   cases mu with
   | true =>
    gi_wp2_with fail
    go_roundw
    case rel=>first | exact ⟨HBF,i+1,by omega,by go_num,by rw [HMU.out,if_pos rfl,HOR.out]⟩ | ((repeat apply Exists.intro);exact ⟨⟨HBF,i+1,by omega,by go_num,by rw [HMU.out,if_pos rfl,HOR.out]⟩,rfl⟩)
    case measure=>simp [intOf];omega
   | false =>
    gi_wp2_with fail
    go_roundw
    case rel=>first | exact ⟨HBF,i+1,by omega,by go_num,by rw [HMU.out,if_neg (by decide)]⟩ | ((repeat apply Exists.intro);exact ⟨⟨HBF,i+1,by omega,by go_num,by rw [HMU.out,if_neg (by decide)]⟩,rfl⟩)
    case measure=>simp [intOf];omega
  ·obtain rfl:i=ng:=by omega
   obtain ⟨ms,hms⟩:∃ m,mustK c i=m:=⟨_,rfl⟩
   have HMS:Hid (mustS c=ms):=Lib.hid (by rw [mustS_eq,HNG.out];exact hms)
   have hml:ms<2 ^ c.cargos.length:=by rw [← HMS.out];exact mustS_lt2 c
   rw [hms] at hm64 ⊢
   obtain ⟨cv,hcv⟩:∃ b,canB c ms=b:=⟨_,rfl⟩
   have hcan:=can_any wo V c (HCA.out.later HB.out) HCB.out ms hml
   rw [hcv] at hcan
   have HCAN:=Lib.hid hcan
   have HCVV:=Lib.hid hcv
   have HML:=Lib.hid hml
   have HLCO:=Lib.hid (HLC.out wo HB.out)
   have hmi:(0:Int)≤(ms:Int):=by omega
   clear hms hcv hcan hml k2
   gi_wp2_with (first | (refine wpLoadAtW rfl 26 _ rfl qb 0 rfl (campA V c) _ HLCO.out und_camp rfl (info_campA V c) ?_))
   refine ⟨trivial,?_⟩
   refine (callsIn_wide.2 HCAN.out).mono ?_
   rintro e W5 ⟨rfl,hb5⟩
   have HB5:=Lib.hid (HB.out.trans (hb5.mono HB.out.size))
   clear hb5
   cases cv with
   | true =>
    have HF:=Lib.hid (HFIN.out none [] 0 0 7 W5 (by unfold confB;rw [if_neg (by rw [HCB.out];decide),HMS.out,if_pos HCVV.out]) rfl (Nat.le_refl _) (Cl.nil _ _ _ _ _ _) (HB0.out.trans (HB5.out.mono HQS.out)))
    gi_wp2_with fail
    refine ⟨_,results_tmp2 rfl _ _ _,?_⟩
    exact HF.out
   | false =>
    obtain ⟨Bo,hBo⟩:∃ B,W5.heap.size=B:=⟨_,rfl⟩
    obtain ⟨W6,hW6⟩:∃ W6,(W5.alloc (.cells #[.slice none 0 0] 48)).alloc (.cells #[.int .u64 (ms:Int)] 94)=W6:=⟨_,rfl⟩
    have hb6:Below W5.heap.size W5 W6:=by rw [← hW6];exact ((Below.refl _ _).alloc (Nat.le_refl _) _).alloc (by simp) _
    have HKO:Hid (Bk W6 Bo 48 #[.slice none 0 0]):=Lib.hid (by rw [← hW6,← hBo];exact (Bk.new _ _ _).alloc _)
    have HKS:Hid (Bk W6 (Bo+1) 94 #[.int .u64 (ms:Int)]):=Lib.hid (by rw [← hW6,← hBo];exact Bk.newAt _ _ _ _ (by simp))
    have hsz6:W6.heap.size=Bo+2:=by rw [← hW6,← hBo];simp
    have HB6:Hid (Below W0.heap.size W0 W6):=Lib.hid (HB5.out.trans (hb6.mono HB5.out.size))
    have hqo:qb+1≤Bo:=by have:=HB5.out.size;omega
    have HSTOP:=Lib.hid (parts_stops (Bo+1) ms hm64 W6 (by omega) (HKS.out.cell 0))
    have HKB:Hid (∀ x,x ∈ [Bo+1]→x<W6.heap.size):=Lib.hid (by simp;omega)
    obtain ⟨I,hI⟩:∃ I:List (PartN ms)→World→Prop,(fun pre W=>Below Bo W6 W∧Bk W (Bo+1) 94 #[.int .u64 (ms:Int)]∧∃ v,Bk W Bo 48 #[v]∧((confF c (PartN.vals pre)=none∧v=.slice none 0 0) ∨ ∃ l A c',confF c (PartN.vals pre)=some l∧v=.slice (some A) l.length c'∧l.length≤c'∧IntsO W qb (some A) l))=I:=⟨_,rfl⟩
    have HI:Hid (∀ pre W,I pre W ↔ (Below Bo W6 W∧Bk W (Bo+1) 94 #[.int .u64 (ms:Int)]∧∃ v,Bk W Bo 48 #[v]∧((confF c (PartN.vals pre)=none∧v=.slice none 0 0) ∨ ∃ l A c',confF c (PartN.vals pre)=some l∧v=.slice (some A) l.length c'∧l.length≤c'∧IntsO W qb (some A) l))):=Lib.hid fun pre W=>by rw [← hI]
    have HOI:Hid (OwnFrom W6.heap.size I):=Lib.hid (by
     rw [← hI]
     refine OwnFrom.and (ownFrom_below (by omega) (by omega)) (OwnFrom.and (ownFrom_bk (f:=fun _=>_)) ?_)
     intro pre A B row hq hg hr
     obtain ⟨v,h1,h2⟩:=hq
     refine ⟨v,(hg.block _ h1.lt (fun e=>by obtain ⟨_,o,ho,hx⟩:=hr _ e.symm;rw [show A.heap[Bo]?=_ from h1] at ho;cases ho;cases hx)).trans h1,?_⟩
     rcases h2 with h2 | ⟨l,A',c',a1,a2,a3,a4⟩
     ·exact .inl h2
     ·exact .inr ⟨l,A',c',a1,a2,a3,a4.turn hg fun r e=>(hr r e).2⟩)
    have H0I:Hid (I [] W6):=Lib.hid ((HI.out _ _).2 ⟨Below.refl _ _,HKS.out,_,HKO.out,.inl ⟨rfl,rfl⟩⟩)
    clear hb6 hI
    gi_wp2_with fail
    refine ⟨trivial,?_⟩
    refine (parts_in _ _).mono ?_
    rintro e w' ⟨rfl,rfl⟩
    gi_wp2_with fail
    try rw [hW6]
    clear hW6 hBo
    refine wpIn_rangeFunc_ownF (n:=6) rfl (by decide) (gf:=100) rfl trivial (enters_of Tryz.func100 (by kernel_rfl) rfl) HSTOP.out KeepL.trans (keepL_b HKB.out) (Below.refl _ _) (fun _=>rfl)
     I (fun _ _ _=>False) HOI.out (fun _ _ _ _ _ hs _ _=>hs) H0I.out ?a1 ?assign ?body ?done ?stop
    case assign =>
     intro l x W K hK
     gi_wp2
     exact hK
    case stop=>exact fun D c pre W _ _ h _=>h.elim
    case body =>
     intro l pre x W hIW hpl
     obtain ⟨p,hpm⟩:=x
     obtain ⟨hb,hsk,v,hbv,hv⟩:=(HI.out _ _).1 hIW
     have hWq:qb≤W.heap.size:=by have:=hb.size;omega
     obtain ⟨out,hout⟩:∃ o,confF c (PartN.vals pre)=o:=⟨_,rfl⟩
     rw [hout] at hv
     obtain ⟨PB,hPB⟩:∃ Q,ownPostK (KeepL [Bo+1]) I (fun _ _ _=>False) (pre ++ [⟨p,hpm⟩]) W=Q:=⟨_,rfl⟩
     have HEND:Hid (∀ a W' v',KeepsOthers W W'→Below Bo W W'→Bk W' (Bo+1) 94 #[.int .u64 (ms:Int)]→Bk W' Bo 48 #[v']→((confS c out p=none∧v'=.slice none 0 0) ∨ ∃ l A c',confS c out p=some l∧v'=.slice (some A) l.length c'∧l.length≤c'∧IntsO W' qb (some A) l)→PB .normal a W'):=Lib.hid fun a W' v' h1 h2 h3 h4 h5=>by
      rw [← hPB]
      have e:confF c (PartN.vals (pre ++ [⟨p,hpm⟩]))=confS c out p:=by
       have e1:PartN.vals (pre ++ [⟨p,hpm⟩])=PartN.vals pre ++ [p]:=by simp [PartN.vals]
       rw [e1,← hout];unfold confF;rw [List.foldl_append];rfl
      exact ⟨h1,keepL_bk hsk h3,(HI.out _ _).2 ⟨hb.trans h2,h3,v',h4,by rw [e];exact h5⟩⟩
     rw [hPB]
     dsimp only
     have hp64:=(part_lt hpm).1
     have hple:p≤ms:=by have:=(part_lt hpm).2;rw [← this];exact Nat.and_le_right
     have hlist:=list_any p hp64 W
     have HLI:=Lib.hid hlist
     have HB:=Lib.hid hb
     have HSK:=Lib.hid hsk
     have HBV:=Lib.hid hbv
     have HV:=Lib.hid hv
     have hpi:(0:Int)≤(p:Int):=by omega
     clear hIW hpl hPB hout hlist hb hsk hbv hv
     gi_wp2_with fail
     refine ⟨trivial,?_⟩
     refine (CallsIn.inRound l (callsIn_wide.2 HLI.out)).mono ?_
     rintro e W2 ⟨A,n,rfl,hn,hi,hb2⟩
     have hpos:=bitsL_pos hp64 (by
      unfold partsS at hpm
      rw [List.mem_filter,Bool.and_eq_true,decide_eq_true_eq] at hpm
      exact hpm.2.1)
     obtain ⟨ga,cu,hA,_⟩:=hi.2 hpos
     subst hA
     obtain ⟨nb,hnb⟩:∃ nb,(bitsL p).length=nb:=⟨_,rfl⟩
     have HNB:=Lib.hid hnb
     rw [hnb] at hn ⊢
     obtain ⟨pv,hpv⟩:∃ b,canB c p=b:=⟨_,rfl⟩
     have HPV:=Lib.hid hpv
     have HI2:Hid (IntsO W2 qb (some ⟨ga,0,none⟩) (bitsL p)):=Lib.hid (hi.mono hWq)
     have HB2:=Lib.hid hb2
     have HBV2:=Lib.hid (HBV.out.below hb2 HBV.out.lt)
     have HSK2:=Lib.hid (HSK.out.below hb2 HSK.out.lt)
     have HKO2:=Lib.hid (KeepsOthers.below hb2)
     have HBB2:Hid (Below Bo W W2):=Lib.hid (hb2.mono (by have:=HBV.out.lt;omega))
     have HW62:Hid (Below W0.heap.size W0 W2):=Lib.hid (HB6.out.trans ((HB.out.trans HBB2.out).mono (by omega)))
     have hcan:=can_any W2 V c (HCA.out.later HW62.out) HCB.out p (Nat.lt_of_le_of_lt hple HML.out)
     rw [hpv] at hcan
     have HCAN2:=Lib.hid hcan
     have HLC2:=Lib.hid (HLC.out W2 HW62.out)
     have HN:=Lib.hid hn
     have kv:W2.cell? ⟨Bo,0,none⟩=some v:=HBV2.out.cell 0
     have KB2:=Lib.hid hb2
     clear hi hb2 hpv hcan hn hnb hpm
     rcases HV.out with ⟨ho,rfl⟩ | ⟨lo,Ao,co,ho,rfl,hco,hio⟩
     ·subst ho
      have hq:∀ (w:World),(binOp .eql 48 (.slice none 0 0) (.slice none 0 0)).run Tryz.prog w=.ok (.bool true) w:=fun w=>Lib.run_eql_slice_nil w _ _ none 0 0 0 0 Tryz.underlying48
      gi_wp2_with (first | (refine wpLoadGI rfl 26 (.tmp 1) rfl qb 0 rfl (campA V c) _ HLC2.out und_camp rfl (info_campA V c) ?_))
      case h_1.isTrue=>rename_i h1 h2;exact absurd h1 (by simp [undef])
      case h_1.isFalse=>rename_i h1 h2;exact absurd h1 (by simp [undef])
      case h_2 =>
       rename_i h9
       clear h9
       refine ⟨trivial,?_⟩
       gi_wp2_with (first | (refine wpLoadGI rfl 26 (.tmp 1) rfl qb 0 rfl (campA V c) _ HLC2.out und_camp rfl (info_campA V c) ?_))
       refine ⟨trivial,?_⟩
       refine (CallsIn.inRound l (callsIn_wide.2 HCAN2.out)).mono ?_
       rintro e W3 ⟨rfl,hb3⟩
       have HKO3:=Lib.hid (HKO2.out.trans (KeepsOthers.below hb3))
       have HBB3:Hid (Below Bo W W3):=Lib.hid (HBB2.out.trans (hb3.mono (by have:=HBV2.out.lt;omega)))
       have HBV3:=Lib.hid (HBV2.out.below hb3 HBV2.out.lt)
       have HSK3:=Lib.hid (HSK2.out.below hb3 HSK2.out.lt)
       have HI3:=Lib.hid (HI2.out.later hb3)
       have kv3:=HBV3.out.cell 0
       have kz3:=HBV3.out.free 0
       clear hb3 kv
       cases pv with
       | true =>
        gi_wp2_with fail
        exact HEND.out _ W3 _ HKO3.out HBB3.out HSK3.out HBV3.out (.inl ⟨by unfold confS;rw [HPV.out];simp,rfl⟩)
       | false =>
        gi_wp2_with fail
        exact HEND.out _ _ _ (HKO3.out.trans (KeepsOthers.setCell _ _ _)) (HBB3.out.setCell (p:=⟨Bo,0,none⟩) (Nat.le_refl _) _) ((HSK3.out.only (Only.setCell W3 Bo 0 _) (by omega))) (HBV3.out.set 0 _) (.inr ⟨bitsL p,_,n,by unfold confS;rw [HPV.out];rfl,by rw [HNB.out],by rw [HNB.out];exact HN.out,HI3.out.other HBV3.out (by decide) fun k _ hne=>(Only.setCell W3 Bo 0 _).block k hne⟩)
     ·subst ho
      have hq:∀ (w:World) (k:Nat),(binOp .eql 48 (.slice (some Ao) k co) (.slice none 0 0)).run Tryz.prog w=.ok (.bool false) w:=fun w k=>Lib.run_eql_slice_nil w _ _ (some Ao) k co 0 0 Tryz.underlying48
      obtain ⟨nlo,hnlo⟩:∃ k,lo.length=k:=⟨_,rfl⟩
      have HNLO:=Lib.hid hnlo
      have HCO:Hid (nlo≤co):=Lib.hid (by rw [← hnlo];exact hco)
      have HIO2:=Lib.hid (hio.later (KB2.out))
      have hcmp:=sliCmp_any W2 (some ⟨ga,0,none⟩) (some Ao) n co (bitsL p) lo HI2.out.at HIO2.out.at
      obtain ⟨cm,hcm⟩:∃ z,ordL (bitsL p) lo=z:=⟨_,rfl⟩
      rw [hcm,HNB.out,hnlo] at hcmp
      have HCP:Hid (Calls Tryz.prog 71 #[.slice (some ⟨ga,0,none⟩) nb n,.slice (some Ao) nlo co] W2 fun e w'=>e=.returned (.int .i64 cm)∧W2=w'):=Lib.hid (hcmp.mono fun e w' h=>⟨h.1,h.2.symm⟩)
      have HFB:Hid (fewerB (some lo) (bitsL p)=(decide (nb<nlo) || (decide (nb=nlo) && decide (cm<0)))):=Lib.hid (by unfold fewerB;dsimp only;rw [HNB.out,hnlo,hcm])
      rw [hnlo] at kv HBV2
      clear hco hio hcmp hcm hnlo
      rcases Nat.lt_trichotomy nb nlo with h1 | h1 | h1
      ·have h2:(nb:Int)<(nlo:Int):=by omega
       have HFW:Hid (fewerB (some lo) (bitsL p)=true):=Lib.hid (by rw [HFB.out,decide_eq_true h1];rfl)
       clear HFB
       gi_wp2_with fail
       case h_1.isTrue=>rename_i h1 h2;exact absurd h1 (by simp [undef])
       case h_1.isFalse=>rename_i h1 h2;exact absurd h1 (by simp [undef])
       case h_2 =>
        rename_i h9
        clear h9
        refine ⟨trivial,?_⟩
        gi_wp2_with (first | (refine wpLoadGI rfl 26 (.tmp 1) rfl qb 0 rfl (campA V c) _ HLC2.out und_camp rfl (info_campA V c) ?_))
        refine ⟨trivial,?_⟩
        refine (CallsIn.inRound l (callsIn_wide.2 HCAN2.out)).mono ?_
        rintro e W3 ⟨rfl,hb3⟩
        have HKO3:=Lib.hid (HKO2.out.trans (KeepsOthers.below hb3))
        have HBB3:Hid (Below Bo W W3):=Lib.hid (HBB2.out.trans (hb3.mono (by have:=HBV2.out.lt;omega)))
        have HBV3:=Lib.hid (HBV2.out.below hb3 HBV2.out.lt)
        have HSK3:=Lib.hid (HSK2.out.below hb3 HSK2.out.lt)
        have HI3:=Lib.hid (HI2.out.later hb3)
        have HIO3:=Lib.hid (HIO2.out.later hb3)
        have kv3:=HBV3.out.cell 0
        have kz3:=HBV3.out.free 0
        clear hb3 kv
        cases pv with
        | true =>
         gi_wp2_with fail
         exact HEND.out _ W3 _ HKO3.out HBB3.out HSK3.out HBV3.out (.inr ⟨lo,Ao,co,by unfold confS;rw [HPV.out];simp,by rw [HNLO.out],by rw [HNLO.out];exact HCO.out,HIO3.out⟩)
        | false =>
         gi_wp2_with fail
         exact HEND.out _ _ _ (HKO3.out.trans (KeepsOthers.setCell _ _ _)) (HBB3.out.setCell (p:=⟨Bo,0,none⟩) (Nat.le_refl _) _) ((HSK3.out.only (Only.setCell W3 Bo 0 _) (by omega))) (HBV3.out.set 0 _) (.inr ⟨bitsL p,_,n,by unfold confS;rw [HPV.out,HFW.out];rfl,by rw [HNB.out],by rw [HNB.out];exact HN.out,HI3.out.other HBV3.out (by decide) fun k _ hne=>(Only.setCell W3 Bo 0 _).block k hne⟩)
      ·subst h1
       by_cases hz:cm<0
       ·have hz1:decide (cm<(0:Int))=true:=decide_eq_true hz
        have HFW:Hid (fewerB (some lo) (bitsL p)=true):=Lib.hid (by rw [HFB.out,hz1];simp)
        clear HFB
        gi_wp2_with fail
        refine ⟨trivial,?_⟩
        refine (CallsIn.inRound l (callsIn_wide.2 HCP.out)).mono ?_
        rintro e _ ⟨rfl,rfl⟩
        gi_wp2_with (first | (refine wpLoadGI rfl 26 (.tmp 1) rfl qb 0 rfl (campA V c) _ HLC2.out und_camp rfl (info_campA V c) ?_))
        refine ⟨trivial,?_⟩
        refine (CallsIn.inRound l (callsIn_wide.2 HCAN2.out)).mono ?_
        rintro e W3 ⟨rfl,hb3⟩
        have HKO3:=Lib.hid (HKO2.out.trans (KeepsOthers.below hb3))
        have HBB3:Hid (Below Bo W W3):=Lib.hid (HBB2.out.trans (hb3.mono (by have:=HBV2.out.lt;omega)))
        have HBV3:=Lib.hid (HBV2.out.below hb3 HBV2.out.lt)
        have HSK3:=Lib.hid (HSK2.out.below hb3 HSK2.out.lt)
        have HI3:=Lib.hid (HI2.out.later hb3)
        have HIO3:=Lib.hid (HIO2.out.later hb3)
        have kv3:=HBV3.out.cell 0
        have kz3:=HBV3.out.free 0
        clear hb3 kv
        cases pv with
        | true =>
         gi_wp2_with fail
         exact HEND.out _ W3 _ HKO3.out HBB3.out HSK3.out HBV3.out (.inr ⟨lo,Ao,co,by unfold confS;rw [HPV.out];simp,by rw [HNLO.out],by rw [HNLO.out];exact HCO.out,HIO3.out⟩)
        | false =>
         gi_wp2_with fail
         exact HEND.out _ _ _ (HKO3.out.trans (KeepsOthers.setCell _ _ _)) (HBB3.out.setCell (p:=⟨Bo,0,none⟩) (Nat.le_refl _) _) ((HSK3.out.only (Only.setCell W3 Bo 0 _) (by omega))) (HBV3.out.set 0 _) (.inr ⟨bitsL p,_,n,by unfold confS;rw [HPV.out,HFW.out];rfl,by rw [HNB.out],by rw [HNB.out];exact HN.out,HI3.out.other HBV3.out (by decide) fun k _ hne=>(Only.setCell W3 Bo 0 _).block k hne⟩)
       ·have hz1:decide (cm<(0:Int))=false:=decide_eq_false hz
        have HNO:Hid (confS c (some lo) p=some lo):=Lib.hid (by unfold confS;rw [HFB.out,hz1];simp)
        clear HFB
        gi_wp2_with fail
        refine ⟨trivial,?_⟩
        refine (CallsIn.inRound l (callsIn_wide.2 HCP.out)).mono ?_
        rintro e _ ⟨rfl,rfl⟩
        gi_wp2_with fail
        refine ⟨trivial,?_⟩
        gi_wp2_with fail
        exact HEND.out _ W2 _ HKO2.out HBB2.out HSK2.out HBV2.out (.inr ⟨lo,Ao,co,HNO.out,by rw [HNLO.out],by rw [HNLO.out];exact HCO.out,HIO2.out⟩)
      ·have h2:¬ (nb:Int)<(nlo:Int):=by omega
       have h3:((nb:Int) == (nlo:Int))=false:=by rw [beq_eq_false_iff_ne];omega
       have h3':¬ (nb:Int)=(nlo:Int):=by omega
       have HNO:Hid (confS c (some lo) p=some lo):=Lib.hid (by unfold confS;rw [HFB.out,decide_eq_false (by omega:¬ nb<nlo),decide_eq_false (by omega:¬ nb=nlo)];rfl)
       clear HFB
       gi_wp2_with fail
       refine ⟨trivial,?_⟩
       gi_wp2_with fail
       refine ⟨trivial,?_⟩
       gi_wp2_with fail
       exact HEND.out _ W2 _ HKO2.out HBB2.out HSK2.out HBV2.out (.inr ⟨lo,Ao,co,HNO.out,by rw [HNLO.out],by rw [HNLO.out];exact HCO.out,HIO2.out⟩)
    case done =>
     intro D ys W hD hys hIW hK
     obtain ⟨hb,hsk,v,hbv,hv⟩:=(HI.out _ _).1 hIW
     rw [hys] at hv
     have HBW:Hid (Below qb w W):=Lib.hid (HB0.out.trans ((HB6.out.trans (hb.mono (by omega))).mono HQS.out))
     have HKD:=Lib.hid hK
     have HHD:=Lib.hid hD
     have kv:W.cell? ⟨Bo,0,none⟩=some v:=hbv.cell 0
     have hqW:qb≤W.heap.size:=by have:=hb.size;omega
     clear hIW hb hsk hbv hys hK hD
     have hg3:=grownBy_putObj' W D (.deferred none)
     rcases hv with ⟨hn,rfl⟩ | ⟨l,A,c',hn,rfl,hc',hint⟩
     ·have HF:=Lib.hid (HFIN.out none [] 0 0 0 (W.putObj D (.deferred none)) (by unfold confB;rw [if_neg (by rw [HCB.out];decide),HMS.out,if_neg (by rw [HCVV.out];decide),hn];rfl) rfl (Nat.le_refl _) (Cl.nil _ _ _ _ _ _) (HBW.out.grown hg3 hqW fun k e=>by cases e;have:=HHD.out;omega))
      clear hn hg3
      gi_wp2_with fail
      refine ⟨by simp,.inl ⟨_,_,rfl,run_takeDeferred HKD.out,?_⟩⟩
      refine ⟨_,results_tmp2 rfl _ _ _,?_⟩
      exact HF.out
     ·have HF:=Lib.hid (HFIN.out (some A) l l.length c' 0 (W.putObj D (.deferred none)) (by unfold confB;rw [if_neg (by rw [HCB.out];decide),HMS.out,if_neg (by rw [HCVV.out];decide),hn];rfl) rfl hc' (hint.turn hg3 fun r e=>by cases e;exact ⟨_,HKD.out,rfl⟩) (HBW.out.grown hg3 hqW fun k e=>by cases e;have:=HHD.out;omega))
      clear hn hg3 hint hc'
      gi_wp2_with fail
      refine ⟨by simp,.inl ⟨_,_,rfl,run_takeDeferred HKD.out,?_⟩⟩
      refine ⟨_,results_tmp2 rfl _ _ _,?_⟩
      exact HF.out
end Go.Proofs.YtcnjenlojnognaaGreat
/- What is proved: maps with whole numbers as keys, by their keys; what a range over one hands out. Conditions: those that each lemma states. -/
namespace Go.Proofs.YtcnjenlojnognaaGreat
open Go.RowKit Go.Maps
open Go.ChangeMaps (setBlock)

theorem intK:Keyed Tryz.prog 3:=int_keyed Tryz.underlying3
def keyOk (v:Int):Prop:=keyOf Tryz.prog 3 (.int .i64 v)=some (.int .i64 v)
theorem keyOk_of {v:Int} (h0:-9223372036854775808≤v) (h1:v≤9223372036854775807):keyOk v:=by
 refine keyOf_int_mk Tryz.underlying3 ?_
 have e1:IntKind.i64.min=-9223372036854775808:=by decide
 have e2:IntKind.i64.max=9223372036854775807:=by decide
 simp [Lit.wf,e1,e2]
 omega
/-- Block b is a map that holds F v at each v of ks. -/
structure IMap (w:World) (b:Nat) (ks:List Int) (F:Int→Value):Prop where
 nodup:ks.Nodup
 key:∀ v ∈ ks,keyOk v
 obj:∃ arr clock,w.heap[b]?=some (.map arr clock)∧arr.toList.map (fun e=>(e.key,e.val))=ks.map (fun v=>(Value.int .i64 v,F v))∧(arr.toList.map (·.born)).Nodup∧∀ e ∈ arr.toList,e.born<clock
theorem IMap.made (w:World) (F:Int→Value):IMap (w.alloc (.map #[] 0)) w.heap.size [] F:=⟨List.nodup_nil,(fun x h=>absurd h (by simp)),#[],0,by rw [heap_alloc_new],rfl,List.nodup_nil,fun e h=>absurd h (by simp)⟩
theorem IMap.keep {w w':World} {b:Nat} {ks:List Int} {F:Int→Value} (h:IMap w b ks F) (hk:w'.heap[b]?=w.heap[b]?):IMap w' b ks F:=by
 obtain ⟨h0,h1,arr,clock,h2,h3⟩:=h
 exact ⟨h0,h1,arr,clock,hk.trans h2,h3⟩
theorem IMap.lt {w:World} {b:Nat} {ks:List Int} {F:Int→Value} (h:IMap w b ks F):b<w.heap.size:=by
 obtain ⟨_,_,arr,clock,h1,_⟩:=h
 exact (Array.getElem?_eq_some_iff.1 h1).1
theorem IMap.below {w w':World} {b:Nat} {ks:List Int} {F:Int→Value} (h:IMap w b ks F) (hb:Below w.heap.size w w'):IMap w' b ks F:=h.keep (hb.block b h.lt)
theorem int_inj {a b:Int} (h:Value.int .i64 a=.int .i64 b):a=b:=by injection h
theorem entry_of {arr:List MapEntry} {ks:List Int} {F:Int→Value} (h:arr.map (fun e=>(e.key,e.val))=ks.map (fun v=>(Value.int .i64 v,F v))) {j:Nat} {e:MapEntry} (he:arr[j]?=some e):∃ v,ks[j]?=some v∧e.key=.int .i64 v∧e.val=F v:=by
 have h1:(arr.map (fun e=>(e.key,e.val)))[j]?=(ks.map (fun v=>(Value.int .i64 v,F v)))[j]?:=by rw [h]
 rw [List.getElem?_map,List.getElem?_map,he] at h1
 cases hk:ks[j]? with
 | none=>rw [hk] at h1;cases h1
 | some v =>
  rw [hk] at h1
  simp only [Option.map_some,Option.some.injEq,Prod.mk.injEq] at h1
  exact ⟨v,rfl,h1.1,h1.2⟩
theorem entry_mem {arr:List MapEntry} {ks:List Int} {F:Int→Value} (h:arr.map (fun e=>(e.key,e.val))=ks.map (fun v=>(Value.int .i64 v,F v))) {e:MapEntry} (he:e ∈ arr):∃ v ∈ ks,e.key=.int .i64 v∧e.val=F v:=by
 obtain ⟨j,hj⟩:=List.getElem?_of_mem he
 obtain ⟨v,a,b,d⟩:=entry_of h hj
 exact ⟨v,List.mem_of_getElem? a,b,d⟩
theorem IMap.find {w:World} {b:Nat} {ks:List Int} {F:Int→Value} (h:IMap w b ks F) {x:Int} (hx:keyOk x) :
  ∃ arr clock,w.heap[b]?=some (.map arr clock)∧arr.toList.map (fun e=>(e.key,e.val))=ks.map (fun v=>(Value.int .i64 v,F v))∧(arr.toList.map (·.born)).Nodup∧(∀ e ∈ arr.toList,e.born<clock) ∧
   (((Instr.findKey 3 (.int .i64 x) arr.toList).run Tryz.prog w=.ok none w∧x ∉ ks) ∨ ∃ j e,(Instr.findKey 3 (.int .i64 x) arr.toList).run Tryz.prog w=.ok (some (j,e.val)) w∧arr.toList[j]?=some e∧e.key=.int .i64 x∧ks[j]?=some x∧e.val=F x):=by
 obtain ⟨h0,hk,arr,clock,h1,h2,h3,h4⟩:=h
 refine ⟨arr,clock,h1,h2,h3,h4,?_⟩
 rcases intK.find w hx arr.toList (fun e he=>by
  obtain ⟨v,hv,e1,_⟩:=entry_mem h2 he
  exact ⟨_,by rw [e1];exact hk v hv⟩) with ⟨r1,r2⟩ | ⟨j,e,r1,r2,r3⟩
 ·refine Or.inl ⟨r1,fun hm=>?_⟩
  obtain ⟨j,hj⟩:=List.getElem?_of_mem hm
  have hg:(arr.toList.map (fun e=>(e.key,e.val)))[j]?=(ks.map (fun v=>(Value.int .i64 v,F v)))[j]?:=by rw [h2]
  rw [List.getElem?_map,List.getElem?_map,hj] at hg
  cases he:arr.toList[j]? with
  | none=>rw [he] at hg;cases hg
  | some e =>
   rw [he] at hg
   simp only [Option.map_some,Option.some.injEq,Prod.mk.injEq] at hg
   exact r2 e (List.mem_of_getElem? he) hg.1
 ·obtain ⟨v,a,b',d⟩:=entry_of h2 r2
  have e1:v=x:=int_inj (b'.symm.trans r3)
  subst e1
  exact Or.inr ⟨j,e,r1,r2,r3,a,d⟩
theorem IMap.look {E t:TypeId} {w:World} {b:Nat} {ks:List Int} {F:Int→Value} (h:IMap w b ks F) (ht:Tryz.prog.underlying t=some (.map 3 E)) {z:Value} (hz:(zeroValue E).run Tryz.prog w=.ok z w) {x:Int} (hx:keyOk x) :
  (Instr.lookup t (.map (some b)) (.int .i64 x) false).run Tryz.prog w=.ok (if x ∈ ks then F x else z) w:=by
 obtain ⟨arr,clock,h1,h2,_,_,h3⟩:=h.find hx
 have g:=run_getObj_map1 (P:=Tryz.prog) h1
 have hc:=fun em=>intK.check w em hx
 rcases h3 with ⟨h3,h4⟩ | ⟨j,e,h3,_,_,hj,h4⟩
 ·rw [if_neg h4]
  simp [Instr.lookup,run_underlying ht,g,hc,h3,hz]
 ·rw [if_pos (List.mem_of_getElem? hj)]
  simp [Instr.lookup,run_underlying ht,g,hc,h3,h4]
theorem nodup_idx {α:Type} {l:List α} (h:l.Nodup) {i j:Nat} {x:α} (hi:l[i]?=some x) (hj:l[j]?=some x):i=j:=by
 obtain ⟨h1,e1⟩:=List.getElem?_eq_some_iff.1 hi
 obtain ⟨h2,e2⟩:=List.getElem?_eq_some_iff.1 hj
 exact (List.getElem_inj h).1 (e1.trans e2.symm)
set_option maxRecDepth 4000 in
theorem IMap.put {E t:TypeId} {w:World} {b:Nat} {ks:List Int} {F:Int→Value} (h:IMap w b ks F) (ht:Tryz.prog.underlying t=some (.map 3 E)) {x:Int} (hx:keyOk x) (v:Value) :
  ∃ w',(Instr.mapUpdate t (.map (some b)) (.int .i64 x) v).run Tryz.prog w=.ok () w'∧IMap w' b (if x ∈ ks then ks else ks ++ [x]) (fun u=>if u=x then v else F u)∧Only b w w':=by
 have hlt:=h.lt
 have hnd:=h.nodup
 have hks:=h.key
 obtain ⟨arr,clock,h1,h2,hb1,hb2,h3⟩:=h.find hx
 have hc:=fun em=>intK.check w em hx
 have hst:=intK.stays w hx
 rcases h3 with ⟨h3,h4⟩ | ⟨j,e,h3,hj,hek,hkj,h4⟩
 ·refine ⟨{ w with heap:=w.heap.setIfInBounds b (.map (arr.push { key:=.int .i64 x,val:=v,born:=clock }) (clock+1)) },?_,?_,?_⟩
  ·simp [Instr.mapUpdate,run_underlying ht,hc,h3,run_getObj_map1 h1,run_setObj_map1 h1]
  ·rw [if_neg h4]
   refine ⟨?_,?_,arr.push { key:=.int .i64 x,val:=v,born:=clock },clock+1,by simp [hlt],?_,?_,?_⟩
   ·exact List.nodup_append.2 ⟨hnd,by simp,fun a ha b' hb'=>by rw [List.mem_singleton] at hb';subst hb';rintro rfl;exact h4 ha⟩
   ·intro u hu
    rcases List.mem_append.1 hu with hu | hu
    ·exact hks u hu
    ·rw [List.mem_singleton] at hu;subst hu;exact hx
   ·rw [Array.toList_push,List.map_append,List.map_append,h2]
    congr 1
    ·apply List.map_congr_left
     intro u hu
     have hne:¬ u=x:=fun e=>h4 (e ▸ hu)
     simp [hne]
    ·simp
   ·rw [Array.toList_push,List.map_append]
    refine List.nodup_append.2 ⟨hb1,by simp,fun a ha b' hb'=>?_⟩
    simp only [List.map_cons,List.map_nil,List.mem_singleton] at hb'
    subst hb'
    obtain ⟨e,he,rfl⟩:=List.mem_map.1 ha
    have:=hb2 e he
    omega
   ·intro e he
    rw [Array.toList_push] at he
    rcases List.mem_append.1 he with he | he
    ·have:=hb2 e he;omega
    ·rw [List.mem_singleton] at he;subst he;exact Nat.lt_succ_self _
  ·refine ⟨rfl,rfl,rfl,by simp,fun k hk=>?_⟩
   simp only [Array.getElem?_setIfInBounds]
   rw [if_neg (Ne.symm hk)]
 ·have hja:arr[j]?=some e:=by simpa using hj
  refine ⟨{ w with heap:=w.heap.setIfInBounds b (.map (arr.modify j fun e=>{ e with key:=.int .i64 x,val:=v }) clock) },?_,?_,?_⟩
  ·have hka:((arr[j]?).map (·.key)).getD (.int .i64 x)=.int .i64 x:=by rw [hja];exact hek
   simp [Instr.mapUpdate,run_underlying ht,hc,h3,run_getObj_map1 h1,run_setObj_map1 h1,hja,hek,hst]
  ·rw [if_pos (List.mem_of_getElem? hkj)]
   have hmt:∀ (β:Type) (g:MapEntry→β),(arr.modify j fun e=>{ e with key:=.int .i64 x,val:=v }).toList.map g=(arr.toList.map g).set j (g { e with key:=.int .i64 x,val:=v }):=by
    intro β g
    apply List.ext_getElem?
    intro i
    rw [List.getElem?_map,Array.getElem?_toList,Array.getElem?_modify,List.getElem?_set,List.getElem?_map,Array.getElem?_toList,List.length_map,Array.length_toList]
    by_cases hij:j=i
    ·subst hij
     rw [if_pos rfl,if_pos rfl,hja,if_pos (Array.getElem?_eq_some_iff.1 hja).1];rfl
    ·rw [if_neg hij,if_neg hij]
   refine ⟨hnd,hks,(arr.modify j fun e=>{ e with key:=.int .i64 x,val:=v }),clock,by simp [hlt],?_,?_,?_⟩
   ·rw [hmt,h2]
    apply List.ext_getElem?
    intro i
    rw [List.getElem?_set,List.getElem?_map,List.getElem?_map,List.length_map]
    by_cases hij:j=i
    ·subst hij
     rw [if_pos rfl,hkj,if_pos (List.getElem?_eq_some_iff.1 hkj).1]
     simp
    ·rw [if_neg hij]
     cases hki:ks[i]? with
     | none=>rfl
     | some u =>
      have:u ≠ x:=fun e=>hij (nodup_idx hnd hkj (by rw [hki,e]))
      simp [this]
   ·rw [hmt]
    have:(arr.toList.map (·.born)).set j e.born=arr.toList.map (·.born):=by
     apply List.ext_getElem?
     intro i
     rw [List.getElem?_set]
     by_cases hij:j=i
     ·subst hij
      rw [if_pos rfl,List.getElem?_map,hj,List.length_map,if_pos (List.getElem?_eq_some_iff.1 hj).1];rfl
     ·rw [if_neg hij]
    dsimp only
    rw [this];exact hb1
   ·intro a ha
    obtain ⟨i,hi⟩:=List.getElem?_of_mem ha
    rw [Array.getElem?_toList,Array.getElem?_modify] at hi
    by_cases hij:j=i
    ·subst hij
     rw [if_pos rfl,hja] at hi
     injection hi with hi
     subst hi
     exact hb2 e (List.mem_of_getElem? hj)
    ·rw [if_neg hij] at hi
     exact hb2 a (List.mem_of_getElem? (by rw [Array.getElem?_toList];exact hi))
  ·refine ⟨rfl,rfl,rfl,by simp,fun k hk=>?_⟩
   simp only [Array.getElem?_setIfInBounds]
   rw [if_neg (Ne.symm hk)]
/-- Block r is a range over it; left: the keys still to come, in any order. -/
structure IIter (w:World) (b r:Nat) (ks:List Int) (F:Int→Value) (left:List Int):Prop where
 obj:∃ arr clock since seen c0,w.heap[b]?=some (.map arr clock)∧arr.toList.map (fun e=>(e.key,e.val))=ks.map (fun v=>(Value.int .i64 v,F v))∧(arr.toList.map (·.born)).Nodup ∧
  w.heap[r]?=some (.mapIter (some b) since seen c0)∧(∀ e ∈ arr.toList,e.born<since)∧since≤c0∧since≤clock∧((leftOf arr seen).toList.map (·.key)).Perm (left.map (Value.int .i64))
theorem perm_out {α:Type} (f:α→Nat):∀ {l:List α},(l.map f).Nodup→∀ {e:α},e ∈ l→l.Perm (e :: l.filter fun x=>!(f x == f e))
 | [],_,_,h=>absurd h (by simp)
 | a :: l,hn,e,h=>by
  rw [List.map_cons,List.nodup_cons] at hn
  rcases List.mem_cons.1 h with rfl | h
  ·rw [List.filter_cons_of_neg (by simp)]
   refine List.Perm.cons _ ?_
   rw [List.filter_eq_self.2]
   intro x hx
   simp only [Bool.not_eq_true',beq_eq_false_iff_ne]
   exact fun e1=>hn.1 (e1 ▸ List.mem_map_of_mem hx)
  ·have hne:f a ≠ f e:=fun e1=>hn.1 (e1 ▸ List.mem_map_of_mem h)
   rw [List.filter_cons_of_pos (by simpa using hne)]
   exact ((perm_out f hn.2 h).cons a).trans (List.Perm.swap _ _ _)
theorem allocOld (w:World) (o:Obj) {b:Nat} (h:b<w.heap.size):(w.alloc o).heap[b]?=w.heap[b]?:=by
 show (w.heap.push o)[b]?=_
 rw [Array.getElem?_push_lt h,Array.getElem?_eq_getElem h]
theorem IMap.iter {E t:TypeId} {w:World} {b:Nat} {ks:List Int} {F:Int→Value} (h:IMap w b ks F) (ht:Tryz.prog.underlying t=some (.map 3 E)) :
  ∃ w',(Instr.range t (.map (some b))).run Tryz.prog w=.ok (.pointer (some ⟨w.heap.size,0,none⟩)) w'∧IIter w' b w.heap.size ks F ks∧IMap w' b ks F∧Below w.heap.size w w'∧w'.heap.size=w.heap.size+1:=by
 have hlt:=h.lt
 obtain ⟨arr,clock,h1,h2,h3,h4⟩:=h.obj
 refine ⟨_,run_range_map w t 3 E b arr clock ht h1,⟨arr,clock,clock,#[],clock,(allocOld w _ hlt).trans h1,h2,h3,heap_alloc_new w _,h4,Nat.le_refl _,Nat.le_refl _,?_⟩,h.keep (allocOld w _ hlt),(Below.refl _ w).alloc (Nat.le_refl _) _,by simp⟩
 have e1:leftOf arr #[]=arr:=by unfold leftOf;simp
 rw [e1]
 have e2:=congrArg (List.map Prod.fst) h2
 rw [List.map_map,List.map_map] at e2
 have e3:arr.toList.map (·.key)=ks.map (Value.int .i64):=e2
 rw [e3]
theorem IIter.next {w:World} {b r:Nat} {ks left:List Int} {F:Int→Value} (h:IIter w b r ks F left) (ty:TypeId) :
  (left=[]∧(Instr.next (.pointer (some ⟨r,0,none⟩)) false ty).run Tryz.prog w=.ok (.tuple #[.bool false]) w) ∨
  ∃ v left' w',left.Perm (v :: left')∧v ∈ ks∧(Instr.next (.pointer (some ⟨r,0,none⟩)) false ty).run Tryz.prog w=.ok (.tuple #[.bool true,.int .i64 v,F v]) w' ∧
   (Instr.entry (.pointer (some ⟨r,0,none⟩))).run Tryz.prog w'=.ok (.tuple #[.int .i64 v,F v]) w'∧IIter w' b r ks F left'∧w.grownBy w' (some r)∧w'.heap.size=w.heap.size:=by
 obtain ⟨arr,clock,since,seen,c0,h1,h2,h3,h4,h5,h6,h7,h8⟩:=h
 have hne:r ≠ b:=by rintro rfl;rw [h1] at h4;cases h4
 rcases run_next_at (P:=Tryz.prog) w ty r b since c0 seen arr clock h4 h1 h5 h6 with ⟨h0,hrun⟩ | ⟨e,he,w1,hal,hrun⟩
 ·refine Or.inl ⟨?_,hrun⟩
  have hl:=h8.length_eq
  rw [List.length_map,List.length_map,Array.length_toList,h0] at hl
  exact List.length_eq_zero_iff.1 hl.symm
 ·obtain ⟨hem,hes⟩:=mem_left he
  obtain ⟨v,hv,hk,hval⟩:=entry_mem h2 hem
  have hr1:w1.heap[r]?=some (.mapIter (some b) since seen c0):=by rcases hal with rfl | rfl <;> exact h4
  have hb1:w1.heap[b]?=some (.map arr clock):=by rcases hal with rfl | rfl <;> exact h1
  have hset:=MapKept.heap_set (o':=.mapIter (some b) since (seen.push e.born) clock) hr1
  have hb':(setBlock w1 r (.mapIter (some b) since (seen.push e.born) clock)).heap[b]?=some (.map arr clock):=(hset.2 b (fun e1=>hne e1.symm)).trans hb1
  have hsub:((leftOf arr seen).toList.map (·.born)).Nodup:=by
   unfold leftOf
   rw [Array.toList_filter]
   exact (List.filter_sublist.map _).nodup h3
  have hleft:(leftOf arr (seen.push e.born)).toList=(leftOf arr seen).toList.filter fun x=>!(x.born == e.born):=by
   unfold leftOf
   rw [Array.toList_filter,Array.toList_filter,List.filter_filter]
   apply List.filter_congr
   intro x _
   rw [contains_push]
   cases seen.contains x.born <;> cases (x.born == e.born) <;> rfl
  have hp:=(perm_out MapEntry.born hsub he).map (·.key)
  rw [List.map_cons,hk,← hleft] at hp
  have hvl:v ∈ left:=by
   have:=h8.mem_iff.1 (hp.mem_iff.2 (List.mem_cons_self))
   obtain ⟨u,hu,e2⟩:=List.mem_map.1 this
   rw [← int_inj e2];exact hu
  obtain ⟨left',hl'⟩:∃ l',left.Perm (v :: l'):=⟨left.erase v,List.perm_cons_erase hvl⟩
  have hq:((leftOf arr (seen.push e.born)).toList.map (·.key)).Perm (left'.map (Value.int .i64)):=by
   have e1:=hp.symm.trans (h8.trans (hl'.map (Value.int .i64)))
   rw [List.map_cons] at e1
   exact List.Perm.cons_inv e1
  refine Or.inr ⟨v,left',_,hl',hv,by rw [hk,hval] at hrun;exact hrun,?_,⟨arr,clock,since,seen.push e.born,clock,hb',h2,h3,hset.1,h5,h7,h7,hq⟩,?_,?_⟩
  ·rw [← hk,← hval];exact run_entry_at _ r b since seen arr clock e hset.1 hb' hem h3
  ·rcases hal with rfl | rfl <;> exact ⟨rfl,rfl,rfl,by simp [setBlock],fun i _ hi=>hset.2 i (fun e1=>hi (by rw [e1]))⟩
  ·rcases hal with rfl | rfl <;> simp [setBlock]
theorem IIter.keep {w w':World} {b r:Nat} {ks left:List Int} {F:Int→Value} (h:IIter w b r ks F left) (hb:w'.heap[b]?=w.heap[b]?) (hr:w'.heap[r]?=w.heap[r]?):IIter w' b r ks F left:=by
 obtain ⟨arr,clock,since,seen,c0,h1,h2,h3,h4,h5⟩:=h
 exact ⟨arr,clock,since,seen,c0,hb.trans h1,h2,h3,hr.trans h4,h5⟩
theorem IIter.lt {w:World} {b r:Nat} {ks left:List Int} {F:Int→Value} (h:IIter w b r ks F left):r<w.heap.size:=by
 obtain ⟨arr,clock,since,seen,c0,_,_,_,h4,_⟩:=h
 exact (Array.getElem?_eq_some_iff.1 h4).1
end Go.Proofs.YtcnjenlojnognaaGreat
/- What is proved: what the search for the best plan leans on: the sets by their worth, in a map; the order in which worths are looked at. Conditions: those that each lemma states. -/
namespace Go.Proofs.YtcnjenlojnognaaGreat
open Go.RowKit Go.Maps

def okS (c:CampD) (s:Nat):Bool:=decide (s &&& mustS c=mustS c)
def setsK (c:CampD) (k:Nat):List Nat:=(List.range k).filter (okS c)
def rowK (c:CampD) (k:Nat) (v:Int):List Nat:=(setsK c k).filter fun s=>decide (worthS c s=v)
theorem setsK_full (c:CampD):setsB c=setsK c (1 <<< c.cargos.length):=rfl
theorem setsK_yes {c:CampD} {k:Nat} (h:okS c k=true):setsK c (k+1)=setsK c k ++ [k]:=by unfold setsK;rw [List.range_succ,List.filter_append,List.filter_cons_of_pos h];rfl
theorem setsK_no {c:CampD} {k:Nat} (h:okS c k=false):setsK c (k+1)=setsK c k:=by unfold setsK;rw [List.range_succ,List.filter_append,List.filter_cons_of_neg (by rw [h];decide)];simp
theorem rowK_same {c:CampD} {k:Nat} (h:okS c k=true):rowK c (k+1) (worthS c k)=rowK c k (worthS c k) ++ [k]:=by unfold rowK;rw [setsK_yes h,List.filter_append];simp
theorem rowK_other {c:CampD} {k:Nat} (h:okS c k=true) {v:Int} (hv:v ≠ worthS c k):rowK c (k+1) v=rowK c k v:=by unfold rowK;rw [setsK_yes h,List.filter_append];simp [Ne.symm hv]
theorem rowK_no {c:CampD} {k:Nat} (h:okS c k=false) (v:Int):rowK c (k+1) v=rowK c k v:=by unfold rowK;rw [setsK_no h]
theorem rowK_nil {c:CampD} {k:Nat} {v:Int} (h:∀ s ∈ setsK c k,worthS c s ≠ v):rowK c k v=[]:=by unfold rowK;rw [List.filter_eq_nil_iff];intro s hs;simpa using h s hs
theorem rowK_lt {c:CampD} {k s:Nat} {v:Int} (h:s ∈ rowK c k v):s<k:=by unfold rowK setsK at h;simp only [List.mem_filter,List.mem_range] at h;exact h.1.1
theorem rowK_len (c:CampD) (k:Nat) (v:Int):(rowK c k v).length≤k:=by
 unfold rowK setsK
 exact Nat.le_trans (List.length_filter_le _ _) (Nat.le_trans (List.length_filter_le _ _) (by simp))
def rowU (l:List Nat):List Value:=l.map fun s=>Value.int .u64 (s:Nat)
theorem rowU_snoc (l:List Nat) (k:Nat):rowU (l ++ [k])=rowU l ++ [.int .u64 (k:Nat)]:=by unfold rowU;simp
theorem rowU_len (l:List Nat):(rowU l).length=l.length:=by unfold rowU;simp
theorem rowU_one (l:List Nat):∀ u ∈ rowU l,u.oneCell'=true:=by intro u hu;unfold rowU at hu;obtain ⟨s,_,rfl⟩:=List.mem_map.1 hu;rfl
/-- The map behind k sets. -/
structure ByR (w:World) (B b:Nat) (c:CampD) (k:Nat) (ks:List Int) (F:Int→Value):Prop where
 map:IMap w b ks F
 mem:∀ v,v ∈ ks ↔ ∃ s ∈ setsK c k,worthS c s=v
 row:∀ v ∈ ks,w.ownsRow B 94 1 (F v) (rowK c k v).length (rowU (rowK c k v))
 sep:∀ u ∈ ks,∀ v ∈ ks,u ≠ v→(F u).ownBlock=none ∨ (F u).ownBlock ≠ (F v).ownBlock
def nilS:Value:=.slice none 0 0
theorem row_block {w:World} {B:Nat} {v:Value} {n:Nat} {xs:List Value} (h:w.ownsRow B 94 1 v n xs) {g:Nat} (hg:v.ownBlock=some g):B≤g∧∃ cur,Bk w g 94 cur:=by
 rcases h.2 with ⟨rfl,_⟩ | ⟨b,cap,cur,rfl,hb,hgb,_⟩
 ·simp [Value.ownBlock] at hg
 ·have e:b=g:=by simpa [Value.ownBlock] using hg
  subst e;exact ⟨hb,cur,hgb⟩
theorem row_ne {w:World} {B b:Nat} {ks:List Int} {F:Int→Value} {v:Value} {n:Nat} {xs:List Value} (hm:IMap w b ks F) (h:w.ownsRow B 94 1 v n xs):v.ownBlock ≠ some b:=fun e=>by
 obtain ⟨_,cur,hk⟩:=row_block h e
 obtain ⟨_,_,arr,clock,h1,_⟩:=hm
 have:w.heap[b]?=_:=hk
 rw [h1] at this;cases this
theorem kept_or {a b:Option Nat} (h:a ≠ b ∨ a=none):a=none ∨ a ≠ b:=h.symm
theorem ByR.below {w w':World} {B b:Nat} {c:CampD} {k:Nat} {ks:List Int} {F:Int→Value} (h:ByR w B b c k ks F) (hb:Below w.heap.size w w'):ByR w' B b c k ks F :=
 ⟨h.map.below hb,h.mem,fun v hv=>(h.row v hv).kept (grown_below hb none) (by cases e:(F v).ownBlock with | none=>exact Or.inl rfl | some k=>exact Or.inr (by simp)),h.sep⟩
theorem ByR.made (w:World) (B:Nat) (c:CampD) (F:Int→Value):ByR (w.alloc (.map #[] 0)) B w.heap.size c 0 [] F :=
 ⟨IMap.made w F,(fun v=>by simp [setsK]),(fun v hv=>absurd hv (by simp)),(fun v hv=>absurd hv (by simp))⟩
theorem ByR.old {w:World} {B b:Nat} {c:CampD} {k:Nat} {ks:List Int} {F:Int→Value} (h:ByR w B b c k ks F) (v:Int):w.ownsRow B 94 1 (if v ∈ ks then F v else nilS) (rowK c k v).length (rowU (rowK c k v)):=by
 by_cases hv:v ∈ ks
 ·rw [if_pos hv];exact h.row v hv
 ·rw [if_neg hv,rowK_nil fun s hs e=>hv ((h.mem v).2 ⟨s,hs,e⟩)];exact World.ownsRow_nil _ _ _ _
theorem ByR.skip {w:World} {B b:Nat} {c:CampD} {k:Nat} {ks:List Int} {F:Int→Value} (h:ByR w B b c k ks F) (hk:okS c k=false):ByR w B b c (k+1) ks F :=
 ⟨h.map,fun v=>by rw [setsK_no hk];exact h.mem v,fun v hv=>by rw [rowK_no hk];exact h.row v hv,h.sep⟩
/-- Behind an append at the worth of k. -/
structure AppR (wa w:World) (B:Nat) (c:CampD) (k:Nat) (ks:List Int) (F:Int→Value) (v':Value):Prop where
 grown:wa.grownBy w (if worthS c k ∈ ks then F (worthS c k) else nilS).ownBlock
 own:w.ownsRow B 94 1 v' ((rowK c k (worthS c k)).length+1) (rowU (rowK c k (worthS c k)) ++ [.int .u64 (k:Nat)])
 lies:v'.ownBlock=(if worthS c k ∈ ks then F (worthS c k) else nilS).ownBlock ∨ ∃ g,v'.ownBlock=some g∧wa.heap.size≤g
theorem AppR.below {wa w w':World} {B:Nat} {c:CampD} {k:Nat} {ks:List Int} {F:Int→Value} {v':Value} (h:AppR wa w B c k ks F v') (hb:Below w.heap.size w w'):AppR wa w' B c k ks F v' :=
  ⟨⟨hb.os.trans h.grown.os,hb.tape.trans h.grown.tape,hb.output.trans h.grown.output,Nat.le_trans h.grown.size hb.size,fun i hi hne=>(hb.block i (Nat.lt_of_lt_of_le hi h.grown.size)).trans (h.grown.block i hi hne)⟩,
   h.own.kept (grown_below hb none) (by cases e:v'.ownBlock with | none=>exact Or.inl rfl | some k=>exact Or.inr (by simp)),h.lies⟩
theorem AppR.map {wa w:World} {B b:Nat} {c:CampD} {k:Nat} {ks:List Int} {F:Int→Value} {v':Value} (hr:ByR wa B b c k ks F) (h:AppR wa w B c k ks F v'):IMap w b ks F :=
 hr.map.keep (h.grown.block b hr.map.lt (fun e=>row_ne hr.map (hr.old (worthS c k)) e.symm))
/-- The store ends the round. -/
theorem AppR.put {E t:TypeId} {wa w:World} {B b:Nat} {c:CampD} {k:Nat} {ks:List Int} {F:Int→Value} {v':Value} (hr:ByR wa B b c k ks F) (h:AppR wa w B c k ks F v') (hk:okS c k=true) (hkey:keyOk (worthS c k)) (ht:Tryz.prog.underlying t=some (.map 3 E)) :
  ∃ w' ks',(Instr.mapUpdate t (.map (some b)) (.int .i64 (worthS c k)) v').run Tryz.prog w=.ok () w'∧ByR w' B b c (k+1) ks' (fun u=>if u=worthS c k then v' else F u)∧Only b w w':=by
 have hm:=h.map hr
 obtain ⟨w',hrun,hm',ho⟩:=hm.put ht hkey v'
 refine ⟨w',_,hrun,⟨hm',fun v=>?_,fun v hv=>?_,fun u hu v hv hne=>?_⟩,ho⟩
 ·rw [setsK_yes hk]
  constructor
  ·intro hv
   by_cases hx:worthS c k ∈ ks
   ·rw [if_pos hx] at hv
    obtain ⟨s,hs,e⟩:=(hr.mem v).1 hv
    exact ⟨s,List.mem_append_left _ hs,e⟩
   ·rw [if_neg hx] at hv
    rcases List.mem_append.1 hv with hv | hv
    ·obtain ⟨s,hs,e⟩:=(hr.mem v).1 hv
     exact ⟨s,List.mem_append_left _ hs,e⟩
    ·rw [List.mem_singleton] at hv
     exact ⟨k,by simp,hv.symm⟩
  ·rintro ⟨s,hs,e⟩
   have:v ∈ ks ∨ v=worthS c k:=by
    rcases List.mem_append.1 hs with hs | hs
    ·exact Or.inl ((hr.mem v).2 ⟨s,hs,e⟩)
    ·rw [List.mem_singleton] at hs;subst hs;exact Or.inr e.symm
   by_cases hx:worthS c k ∈ ks
   ·rw [if_pos hx]
    rcases this with h | h
    ·exact h
    ·rw [h];exact hx
   ·rw [if_neg hx]
    rcases this with h | h
    ·exact List.mem_append_left _ h
    ·rw [h];simp
 ·have hgo:w.grownBy w' (some b):=⟨ho.os,ho.tape,ho.output,Nat.le_of_eq ho.size.symm,fun i _ hne=>ho.block i fun e=>hne (by rw [e])⟩
  by_cases e:v=worthS c k
  ·subst e
   rw [if_pos rfl,rowK_same hk,List.length_append,List.length_singleton,rowU_snoc]
   exact h.own.kept hgo (.inr (row_ne hm h.own))
  ·rw [if_neg e,rowK_other hk e]
   have hvk:v ∈ ks:=by
    by_cases hx:worthS c k ∈ ks
    ·rw [if_pos hx] at hv;exact hv
    ·rw [if_neg hx] at hv
     rcases List.mem_append.1 hv with hv | hv
     ·exact hv
     ·rw [List.mem_singleton] at hv;exact absurd hv e
   have h1:=hr.row v hvk
   have h2:w.ownsRow B 94 1 (F v) (rowK c k v).length (rowU (rowK c k v)):=by
    refine h1.kept h.grown ?_
    by_cases hx:worthS c k ∈ ks
    ·rw [if_pos hx];exact hr.sep v hvk _ hx e
    ·rw [if_neg hx]
     cases e2:(F v).ownBlock with
     | none=>exact .inl rfl
     | some g=>exact .inr (by simp [nilS,Value.ownBlock])
   exact h2.kept hgo (.inr (row_ne hm h2))
 ·have hin:∀ x,x ∈ (if worthS c k ∈ ks then ks else ks ++ [worthS c k])→x ≠ worthS c k→x ∈ ks:=fun x hx e=>by
   by_cases hy:worthS c k ∈ ks
   ·rw [if_pos hy] at hx;exact hx
   ·rw [if_neg hy] at hx
    rcases List.mem_append.1 hx with hx | hx
    ·exact hx
    ·rw [List.mem_singleton] at hx;exact absurd hx e
  have key:∀ x ∈ ks,x ≠ worthS c k→∀ g,(F x).ownBlock=some g→v'.ownBlock ≠ some g:=fun x hx e g hg hv'=>by
   obtain ⟨_,cur,hbk⟩:=row_block (hr.row x hx) hg
   rcases h.lies with hl | ⟨g',hl,hge⟩
   ·by_cases hy:worthS c k ∈ ks
    ·rw [if_pos hy] at hl
     rcases hr.sep x hx _ hy e with h3 | h3
     ·rw [h3] at hg;cases hg
     ·exact h3 (hg.trans (hv'.symm.trans hl))
    ·rw [if_neg hy] at hl
     rw [hl] at hv';simp [nilS,Value.ownBlock] at hv'
   ·rw [hl] at hv'
    injection hv' with hv'
    subst hv'
    have:=hbk.lt;omega
  by_cases e1:u=worthS c k
  ·have e2:v ≠ worthS c k:=fun e=>hne (e1.trans e.symm)
   rw [if_pos e1,if_neg e2]
   have hvk:=hin v hv e2
   cases e3:v'.ownBlock with
   | none=>exact .inl rfl
   | some g=>exact .inr fun e4=>key v hvk e2 g e4.symm e3
  ·rw [if_neg e1]
   have huk:=hin u hu e1
   by_cases e2:v=worthS c k
   ·rw [if_pos e2]
    cases e3:(F u).ownBlock with
    | none=>exact .inl rfl
    | some g=>exact .inr fun e4=>key u huk e1 g e3 e4.symm
   ·rw [if_neg e2]
    exact hr.sep u huk v (hin v hv e2) hne
/-- An append, in a region. -/
theorem wpo_append_at {o:Oper} {a:Act} {w:World} {K:Act→World→Prop} {Q:Exit→Act→World→Prop} (s x:Operand) (t:TypeId)
  (ho:o.op=.call { callee:=.builtin .append,args:=#[s,x],argTypes:=#[t,t] })
  (base:Nat) (e:TypeId) (i:TypeInfo) (z:Value) (size bytes:Nat) (ht:Tryz.prog.underlying t=some (.slice e)) (hi:Tryz.prog.info? e=some i) (hz:i.zero=some z)
  (hsize:i.size=size) (hby:i.bytes=bytes) (hzs:z.cells.size=size) (hsz:0<size)
  (v:Value) (n:Nat) (xs:List Value) (hs:a.eval s=v) (hown:w.ownsRow base e size v n xs)
  (ad:Addr) (m c:Nat) (news:List Value) (hx:a.eval x=.slice (some ad) m c) (hl:news.length=m * size) (hnews:∀ j u,news[j]?=some u→w.cell? (ad.add j)=some u) (h1:∀ u ∈ news,u.oneCell'=true)
  (h63:n+m≤maxLen) (hbytes:(n+m) * bytes≤140737488355328) (hbase:base≤w.heap.size)
  (h:∀ v' w',w'.ownsRow base e size v' (n+m) (xs ++ news)→w.grownBy w' v.ownBlock→(v'.ownBlock=v.ownBlock ∨ v'.ownBlock=some w.heap.size)→K (a.put o.dst v') w') :
  o.wp Tryz.prog a w K Q:=by
 obtain ⟨v',w',hr,h2,h3,h4,h5⟩:=run_append_own_at (P:=Tryz.prog) w base t o.type e i z size bytes ht hi hz hsize hby hzs hsz v n xs hown ad m c news hl hnews h1 h63 hbytes hbase
 unfold Oper.wp execOp
 simp only [ho,resolve,invoke,builtin,Sem.run_bind,Sem.run_pure,Result.andThen_ok,List.map_toArray,List.map_cons,List.map_nil,hs,hx,hr]
 exact h v' w' h2 h3 h5
theorem wpo_lookup {o:Oper} {a:Act} {w:World} {K:Act→World→Prop} {Q:Exit→Act→World→Prop} (t:TypeId) (m x:Operand) (ho:o.op=.lookup t m x false) (mv xv v:Value) (hm:a.eval m=mv) (hx:a.eval x=xv)
  (hr:(Instr.lookup t mv xv false).run Tryz.prog w=.ok v w) (h:K (a.put o.dst v) w):o.wp Tryz.prog a w K Q:=by
 unfold Oper.wp
 simp [execOp,ho,hm,hx,hr,Result.andThen]
 exact h
theorem wpo_mapUpdate {o:Oper} {a:Act} {w w':World} {K:Act→World→Prop} {Q:Exit→Act→World→Prop} (t:TypeId) (m x v:Operand) (ho:o.op=.mapUpdate t m x v) (mv xv vv:Value) (hm:a.eval m=mv) (hx:a.eval x=xv) (hv:a.eval v=vv)
  (hr:(Instr.mapUpdate t mv xv vv).run Tryz.prog w=.ok () w') (h:K (a.put o.dst undef) w'):o.wp Tryz.prog a w K Q:=by
 unfold Oper.wp
 simp [execOp,ho,hm,hx,hv,hr,Result.andThen]
 exact h
/-- The best plan, told by the order in which worths are looked at. -/
def bestF (c:CampD) (v:Int):Option (List LaunchD):=firstB c (rowK c (1 <<< c.cargos.length) v)
theorem bestB_fold (c:CampD) {L:List Int} (hL:L=valsI ((setsB c).map (worthS c))):bestB c=(List.range L.length).reverse.findSome? fun i=>bestF c (numI L i):=by
 have e1:bestB c=L.reverse.findSome? (bestF c):=by rw [hL];rfl
 rw [e1]
 have e2:L.reverse=(List.range L.length).reverse.map (numI L):=by
  rw [List.map_reverse]
  congr 1
  apply List.ext_getElem?
  intro i
  rw [List.getElem?_map]
  by_cases h:i<L.length
  ·rw [List.getElem?_eq_getElem h,List.getElem?_range h];simp [h,numI,List.getD_eq_getElem?_getD]
  ·rw [List.getElem?_eq_none (by omega),List.getElem?_eq_none (by simp;omega)];rfl
 rw [e2,List.findSome?_map]
 rfl
theorem find_hit {β:Type} {f:Nat→Option β} {l pre:List Nat} {x:Nat} {y:β} (hp:pre ++ [x] <+: l) (h0:∀ u ∈ pre,f u=none) (hx:f x=some y):l.findSome? f=some y:=by
 obtain ⟨t,rfl⟩:=hp
 rw [List.findSome?_append,List.findSome?_append,List.findSome?_eq_none_iff.2 h0]
 simp [hx]
theorem find_all {β:Type} {f:Nat→Option β} {l:List Nat} (h0:∀ u ∈ l,f u=none):l.findSome? f=none:=List.findSome?_eq_none_iff.2 h0
end Go.Proofs.YtcnjenlojnognaaGreat
/- What is proved: what turns while best fills its map; a contract of slices.Sort at ints. Conditions: those that each lemma states. -/
namespace Go.Proofs.YtcnjenlojnognaaGreat
open Go.RowKit Go.Maps

theorem worthS_bd {c:CampD} (hc:campB c=true) (s:Nat):0≤worthS c s∧worthS c s≤6442450944:=by
 have h:=wrthK_bd hc (bitsL s) (bitsL s).length (Nat.le_refl _)
 have e:wrthK c (bitsL s) (bitsL s).length=worthS c s:=by unfold wrthK worthS;rw [List.take_of_length_le (Nat.le_refl _)]
 have hl:(bitsL s).length≤6:=by unfold bitsL;rw [List.length_map];exact Nat.le_trans (List.length_filter_le _ _) (by simp)
 rw [e] at h
 omega
theorem worthS_key {c:CampD} (hc:campB c=true) (s:Nat):keyOk (worthS c s):=by
 have:=worthS_bd hc s
 exact keyOk_of (by omega) (by omega)
/-- Blocks of other types lie as they lay. -/
def keepT (T:TypeId) (w w':World):Prop:=∀ b T' cs,T' ≠ T→Bk w b T' cs→Bk w' b T' cs
theorem keepT.refl (T:TypeId) (w:World):keepT T w w:=fun _ _ _ _ h=>h
theorem keepT.below {T:TypeId} {w w':World} (h:Below w.heap.size w w'):keepT T w w':=fun _ _ _ _ hk=>hk.below h hk.lt
theorem keepT.trans {T:TypeId} {a b c:World} (h:keepT T a b) (k:keepT T b c):keepT T a c:=fun x T' cs hT hk=>k x T' cs hT (h x T' cs hT hk)
/-- The state of the region in which k is put at its worth. -/
def BstJ (wr:World) (B bm:Nat) (c:CampD) (k:Nat) (ks:List Int) (F:Int→Value) (d1 d2 d3:Bool) (v1 v2:Value) (w1:World):Prop :=
 (d2=false→Below wr.heap.size wr w1∧(d1=true→∃ g,v1=.slice (some ⟨g,0,none⟩) 1 1∧Bk w1 g 94 #[.int .u64 (k:Nat)])) ∧
 (d2=true→d3=false→AppR wr w1 B c k ks F v2) ∧
 (d3=true→∃ ks' F',ByR w1 B bm c (k+1) ks' F'∧Below B wr w1∧keepT 94 wr w1)
theorem BstJ.start (wr:World) (B bm:Nat) (c:CampD) (k:Nat) (ks:List Int) (F:Int→Value) (v1 v2:Value):BstJ wr B bm c k ks F false false false v1 v2 wr.drew :=
 ⟨fun _=>⟨(Below.refl _ _).drew,fun h=>absurd h (by decide)⟩,fun h=>absurd h (by decide),fun h=>absurd h (by decide)⟩
section
variable {wr w1 w2:World} {B bm:Nat} {c:CampD} {k:Nat} {ks:List Int} {F:Int→Value} {d1 d2 d3:Bool} {v1 v2:Value}
theorem AppR.com (hr:ByR wr B bm c k ks F) (hB:B≤wr.heap.size) (h:AppR wr w1 B c k ks F v2):Below B wr w1∧keepT 94 wr w1:=by
 refine ⟨⟨h.grown.os,h.grown.tape,h.grown.output,h.grown.size,fun i hi=>h.grown.block i (by omega) fun e=>?_⟩,fun b T' cs hT hk=>(h.grown.block b hk.lt fun e=>?_).trans hk⟩
 ·have:=(row_block (hr.old (worthS c k)) e.symm).1;omega
 ·obtain ⟨_,cur,hb⟩:=row_block (hr.old (worthS c k)) e.symm
  exact hT (bk_ty hk hb)
theorem BstJ.com (hr:ByR wr B bm c k ks F) (hB:B≤wr.heap.size) (h:BstJ wr B bm c k ks F d1 d2 d3 v1 v2 w1) (h3:d3=false):Below B wr w1∧keepT 94 wr w1:=by
 cases d2 with
 | false=>exact ⟨(h.1 rfl).1.mono hB,keepT.below (h.1 rfl).1⟩
 | true=>exact (h.2.1 rfl h3).com hr hB
theorem BstJ.call (h:BstJ wr B bm c k ks F d1 d2 d3 v1 v2 w1) (h3:d3=false) (hb:Below w1.heap.size w1 w2):BstJ wr B bm c k ks F d1 d2 d3 v1 v2 w2 :=
 ⟨fun h2=>⟨(h.1 h2).1.trans (hb.mono (h.1 h2).1.size),fun h1=>by obtain ⟨g,e,hk⟩:=(h.1 h2).2 h1;exact ⟨g,e,hk.below hb hk.lt⟩⟩,fun h2 h4=>(h.2.1 h2 h4).below hb,(fun h4=>by rw [h3] at h4;cases h4)⟩
theorem BstJ.built (h:BstJ wr B bm c k ks F d1 d2 d3 v1 v2 w1) (h2:d2=false) (h3:d3=false):BstJ wr B bm c k ks F true d2 d3 (.slice (some ⟨w1.heap.size,0,none⟩) 1 1) v2 (w1.alloc (.cells #[.int .u64 (k:Nat)] 94)) :=
 ⟨fun h2=>⟨(h.1 h2).1.alloc (h.1 h2).1.size _,fun _=>⟨_,rfl,Bk.new _ _ _⟩⟩,(fun h4=>by rw [h2] at h4;cases h4),(fun h4=>by rw [h3] at h4;cases h4)⟩
theorem BstJ.app {d1:Bool} {v1:Value} (h:BstJ wr B bm c k ks F d1 false d3 v1 v2 w1) (h3:d3=false) {v':Value}
  (hown:w2.ownsRow B 94 1 v' ((rowK c k (worthS c k)).length+1) (rowU (rowK c k (worthS c k)) ++ [.int .u64 (k:Nat)]))
  (hg:w1.grownBy w2 (if worthS c k ∈ ks then F (worthS c k) else nilS).ownBlock) (hl:v'.ownBlock=(if worthS c k ∈ ks then F (worthS c k) else nilS).ownBlock ∨ v'.ownBlock=some w1.heap.size):BstJ wr B bm c k ks F d1 true d3 v1 v' w2:=by
 have hb:=(h.1 rfl).1
 refine ⟨(fun h4=>by cases h4),fun _ _=>⟨⟨hg.os.trans hb.os,hg.tape.trans hb.tape,hg.output.trans hb.output,Nat.le_trans hb.size hg.size,fun i hi hne=>(hg.block i (Nat.lt_of_lt_of_le hi hb.size) hne).trans (hb.block i hi)⟩,hown,?_⟩,(fun h4=>by rw [h3] at h4;cases h4)⟩
 rcases hl with hl | hl
 ·exact .inl hl
 ·exact .inr ⟨_,hl,hb.size⟩
theorem BstJ.put {E t:TypeId} (hr:ByR wr B bm c k ks F) (hB:B≤wr.heap.size) (hbm:B≤bm) (h:BstJ wr B bm c k ks F d1 d2 d3 v1 v2 w1) (h2:d2=true) (h3:d3=false) (hk:okS c k=true) (hkey:keyOk (worthS c k)) (ht:Tryz.prog.underlying t=some (.map 3 E)) :
  ∃ w',(Instr.mapUpdate t (.map (some bm)) (.int .i64 (worthS c k)) v2).run Tryz.prog w1=.ok () w'∧BstJ wr B bm c k ks F d1 d2 true v1 v2 w':=by
 have ha:=h.2.1 h2 h3
 obtain ⟨w',ks',h1,h5,ho⟩:=ha.put hr hk hkey ht
 obtain ⟨c1,c2⟩:=ha.com hr hB
 refine ⟨w',h1,(fun h4=>by rw [h2] at h4;cases h4),(fun _ h4=>by cases h4),fun _=>⟨ks',_,h5,c1.trans (ho.below hbm),c2.trans fun b T' cs _ hkb=>hkb.only ho fun e=>?_⟩⟩
 subst e
 obtain ⟨arr,clock,h5,_⟩:=(ha.map hr).obj
 have:w1.heap[b]?=_:=hkb
 rw [h5] at this;cases this
end
theorem IIter.left_eq {w:World} {b r:Nat} {ks left:List Int} {F:Int→Value} (h:IIter w b r ks F left):w.rangeLeft b r=left.length:=by
 obtain ⟨arr,clock,since,seen,c0,h1,_,_,h4,_,_,_,h8⟩:=h
 simp only [World.rangeLeft,h1,h4]
 have:=h8.length_eq
 rw [List.length_map,List.length_map,Array.length_toList] at this
 exact this
/-- Another block turns. -/
theorem ByR.turn {w w':World} {B b:Nat} {c:CampD} {k:Nat} {ks:List Int} {F:Int→Value} {row:Option Nat} (h:ByR w B b c k ks F) (hg:w.grownBy w' row) (hr:∀ g,row=some g→∃ o,w.heap[g]?=some o∧(∀ cs z,o ≠ .cells cs 94 z)∧∀ x y,o ≠ .map x y):ByR w' B b c k ks F:=by
 refine ⟨h.map.keep (hg.block b h.map.lt fun e=>?_),h.mem,fun v hv=>(h.row v hv).kept hg ?_,h.sep⟩
 ·obtain ⟨o,h1,_,h3⟩:=hr b e.symm
  obtain ⟨arr,clock,h5,_⟩:=h.map.obj
  rw [h5] at h1;injection h1 with h1
  exact h3 _ _ h1.symm
 ·cases e:(F v).ownBlock with
  | none=>exact .inl rfl
  | some g =>
   refine .inr fun e2=>?_
   obtain ⟨o,h1,h2,_⟩:=hr g e2.symm
   obtain ⟨_,cur,hb⟩:=row_block (h.row v hv) e
   rw [show w.heap[g]?=_ from hb] at h1;injection h1 with h1
   exact h2 _ _ h1.symm
def sortB (l:List Int):List Int:=l.mergeSort fun x y=>decide (x≤y)
theorem sortB_perm (l:List Int):(sortB l).Perm l:=List.mergeSort_perm _ _
theorem sortB_len (l:List Int):(sortB l).length=l.length:=(sortB_perm l).length_eq
theorem map_numI (l:List Int) (i:Nat) (hi:i<l.length):(l.map (Value.int .i64))[i]?=some (.int .i64 (numI l i)):=by
 unfold numI
 rw [List.getElem?_map,List.getElem?_eq_getElem hi,List.getD_eq_getElem?_getD,List.getElem?_eq_getElem hi];rfl
theorem sortI_any (w:World) (g c:Nat) (t:TypeId) (cur:Array Value) (l:List Int) (hb:Bk w g t cur) (hc:∀ i,i<l.length→cur[i]?=some (.int .i64 (numI l i))) (hn:l.length≤4096) :
  Calls Tryz.prog 96 #[.slice (some ⟨g,0,none⟩) l.length c] w fun e w'=>e=.returned (.tuple #[])∧(∃ cur',Bk w' g t cur'∧∀ i,i<l.length→cur'[i]?=some (.int .i64 (numI (sortB l) i)))∧w.grownBy w' (some g):=by
 have ht:cur.toList.take l.length=l.map (Value.int .i64):=by
  apply List.ext_getElem?
  intro j
  by_cases hj:j<l.length
  ·rw [List.getElem?_take_of_lt hj,Array.getElem?_toList,hc j hj,map_numI l j hj]
  ·rw [List.getElem?_take_eq_none (by omega),List.getElem?_eq_none (by simp;omega)]
 have hlen:l.length≤cur.size:=by
  rcases Nat.eq_zero_or_pos l.length with h | h
  ·omega
  ·have:=hc (l.length - 1) (by omega)
   have:=(Array.getElem?_eq_some_iff.1 this).1
   omega
 have h:=Tryz.slices_Sort_int g 0 c l w (holds_of_blockI hb ht) hb.lt (by omega)
 refine h.mono ?_
 rintro e w' ⟨rfl,n,os,rfl⟩
 refine ⟨rfl,⟨_,heap_sortedI _ hb,fun i hi=>?_⟩,grownBy_sortedI _⟩
 have hl:=sortB_len l
 have h2:=take_putCellsI cur (sortB l) (by omega)
 have h3:((Sort.putCells (Value.int .i64) 0 (sortB l).toArray cur).toList.take (sortB l).length)[i]?=((sortB l).map (Value.int .i64))[i]?:=by rw [h2]
 rw [List.getElem?_take_of_lt (by omega),Array.getElem?_toList,map_numI _ _ (by omega)] at h3
 exact h3
theorem sortB_vals {l M:List Int} (hn:l.Nodup) (hm:∀ v,v ∈ l ↔ v ∈ M):sortB l=valsI M:=by
 refine rise_unique ?_ (valsI_rise M) fun z=>by rw [(sortB_perm l).mem_iff,hm,valsI_mem]
 have h1:(sortB l).Pairwise (fun a b=>decide (a≤b)=true):=List.pairwise_mergeSort (fun a b c h k=>by simp at *;omega) (fun a b=>by simp;omega) l
 have h2:(sortB l).Nodup:=(sortB_perm l).nodup_iff.2 hn
 have h3:=h1.and h2
 refine h3.imp ?_
 rintro a b ⟨x,y⟩
 simp at x
 omega
theorem PlanO.turn {w w':World} {B:Nat} {A:Option Addr} {l:List LaunchD} {row:Option Nat} (h:PlanO w B A l) (hg:w.grownBy w' row) (hr:∀ r,row=some r→∃ o:Obj,w.heap[r]?=some o∧o.isCells=false):PlanO w' B A l :=
 ⟨h.short,fun h0=>by obtain ⟨g,cur,P,Q,e,h1⟩:=h.rows h0;exact ⟨g,cur,P,Q,e,h1.turn hg hr⟩⟩
theorem RowsO.other {w w':World} {B g x:Nat} {cur:Array Value} {l:List LaunchD} {P:Nat→Option Addr} {Q:Nat→Nat} {T:TypeId} {cs:Array Value} (h:RowsO w B g cur l P Q) (hx:Bk w x T cs) (h1:T ≠ 3) (h2:T ≠ 52) (ho:Only x w w'):RowsO w' B g cur l P Q :=
 ⟨h.lo,h.bk.only ho fun e=>by subst e;exact h2 (bk_ty hx h.bk),h.row,fun i hi=>(h.ints i hi).other hx h1 fun k _ hne=>ho.block k hne⟩
theorem PlanO.other {w w':World} {B x:Nat} {A:Option Addr} {l:List LaunchD} {T:TypeId} {cs:Array Value} (h:PlanO w B A l) (hx:Bk w x T cs) (h1:T ≠ 3) (h2:T ≠ 52) (ho:Only x w w'):PlanO w' B A l :=
 ⟨h.short,fun h0=>by obtain ⟨g,cur,P,Q,e,h3⟩:=h.rows h0;exact ⟨g,cur,P,Q,e,h3.other hx h1 h2 ho⟩⟩
theorem rowK_pos {w:World} {B b:Nat} {c:CampD} {k:Nat} {ks:List Int} {F:Int→Value} (h:ByR w B b c k ks F) {v:Int} (hv:v ∈ ks):0<(rowK c k v).length:=by
 obtain ⟨s,hs,e⟩:=(h.mem v).1 hv
 refine List.length_pos_of_mem (a:=s) ?_
 unfold rowK
 rw [List.mem_filter]
 exact ⟨hs,by simpa using e⟩
theorem worthK_of {w:World} {B b:Nat} {c:CampD} {k:Nat} {ks:List Int} {F:Int→Value} (h:ByR w B b c k ks F) {v:Int} (hv:v ∈ ks) (hc:campB c=true):keyOk v:=by
 obtain ⟨s,_,e⟩:=(h.mem v).1 hv
 rw [← e];exact worthS_key hc s
theorem nodup_sub_len:∀ {l m:List Int},l.Nodup→(∀ v ∈ l,v ∈ m)→l.length≤m.length
 | [],_,_,_=>Nat.zero_le _
 | a :: l,m,hn,hs=>by
  obtain ⟨h1,h2⟩:=List.nodup_cons.1 hn
  have ha:a ∈ m:=hs a (by simp)
  have h3:l.length≤(m.erase a).length:=nodup_sub_len h2 fun v hv=>(List.mem_erase_of_ne (show v ≠ a from fun e=>h1 (by rw [← e];exact hv))).2 (hs v (List.mem_cons_of_mem _ hv))
  rw [List.length_erase_of_mem ha] at h3
  have:=List.length_pos_of_mem ha
  rw [List.length_cons];omega
/-- What the search has found where it stops. -/
structure BestX (c:CampD) (L:List Int) (pre:List Nat) (w W:World) (qb:Nat):Prop where
 ex:∃ pre0 x p A n c',pre=pre0 ++ [x]∧(∀ i ∈ pre0,bestF c (numI L i)=none)∧bestF c (numI L x)=some p∧n=p.length∧n≤c'∧Bk W (qb+1) 27 #[.slice A n c']∧Bk W (qb+1+1) 4 #[.bool true]∧PlanO W qb A p∧Below qb w W
theorem bk_turn {w w':World} {b:Nat} {T:TypeId} {cs:Array Value} {row:Option Nat} (h:Bk w b T cs) (hg:w.grownBy w' row) (hr:∀ r,row=some r→∃ o:Obj,w.heap[r]?=some o∧o.isCells=false):Bk w' b T cs:=(hg.block b h.lt fun e=>by
 obtain ⟨o,ho,hc⟩:=hr b e.symm
 rw [show w.heap[b]?=_ from h] at ho
 cases ho;cases hc).trans h
theorem BestX.turn {c:CampD} {L:List Int} {pre:List Nat} {w W W':World} {qb n₀:Nat} {row:Option Nat} (h:BestX c L pre w W qb) (hg:W.grownBy W' row) (hq:qb≤n₀) (hr:∀ r,row=some r→n₀≤r∧∃ o:Obj,W.heap[r]?=some o∧o.isCells=false):BestX c L pre w W' qb:=by
 obtain ⟨pre0,x,p,A,n,c',h1,h2,h3,h4,h5,h6,h7,h8,h9⟩:=h
 have hr2:=fun r e=>(hr r e).2
 exact ⟨pre0,x,p,A,n,c',h1,h2,h3,h4,h5,bk_turn h6 hg hr2,bk_turn h7 hg hr2,h8.turn hg hr2,h9.grown hg (by have:=h6.lt;omega) fun g e=>by have:=(hr g e).1;omega⟩
theorem results_best (tmps:Array Value) (w:World) (g k:Nat) (x y:Value) (hp:tmps.getD 2 undef=.pointer (some ⟨g,0,none⟩)) (hq:tmps.getD 3 undef=.pointer (some ⟨k,0,none⟩))
  (h1:w.cell? ⟨g,0,none⟩=some x) (h2:w.cell? ⟨k,0,none⟩=some y):(results Tryz.f65 tmps).run Tryz.prog w=.ok (.tuple #[x,y]) w:=by
 have hp':tmps[2]?.getD undef=.pointer (some ⟨g,0,none⟩):=by simpa using hp
 have hq':tmps[3]?.getD undef=.pointer (some ⟨k,0,none⟩):=by simpa using hq
 simp [results,hp',hq',asAddr,go_sem,h1,h2]
theorem full_ok {c:CampD}:2 ^ c.cargos.length - 1 ∈ setsK c (1 <<< c.cargos.length):=by
 unfold setsK
 rw [List.mem_filter,List.mem_range,Nat.one_shiftLeft]
 have:=Nat.two_pow_pos c.cargos.length
 refine ⟨by omega,?_⟩
 unfold okS
 rw [decide_eq_true_eq,Nat.and_comm,Nat.and_two_pow_sub_one_eq_mod,Nat.mod_eq_of_lt (mustS_lt2 c)]
theorem andU_all:((List.range 64).all fun s=>(List.range 64).all fun m=>decide (bits .and .u64 (s:Int) (m:Int)=((s &&& m:Nat):Int)))=true:=by kernel_rfl
theorem andU {s m:Nat} (hs:s<64) (hm:m<64):bits .and .u64 (s:Int) (m:Int)=((s &&& m:Nat):Int):=by
 have h:=List.all_eq_true.1 andU_all s (List.mem_range.2 hs)
 exact of_decide_eq_true (List.all_eq_true.1 h m (List.mem_range.2 hm))
end Go.Proofs.YtcnjenlojnognaaGreat
