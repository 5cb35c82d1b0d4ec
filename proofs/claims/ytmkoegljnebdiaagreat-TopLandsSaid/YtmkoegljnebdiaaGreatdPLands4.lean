/- What is proved: the texts Wg Wh Fa Fb Fc Fd Fe Ff, one behind the other; each says at its head what it proves, and under which conditions. -/
import Derived.Laws.StructEq
import Derived.LoopN
import Derived.Laws.Cover3
import Derived.Test.YtmkoegljnebdiaaGreatdPLands3
namespace Go.Proofs.YtmkoegljnebdiaaGreat
open Go.RowKit Go.Shelf
set_option maxRecDepth 100000
set_option maxHeartbeats 16000000
attribute [local go_sem] Oper.semAt_some

theorem sqsB_ok {a:SpanD} {l:List SpanD} {s:SpanD} (h:(squareB a).2=0) (h2:(addB s (squareB a).1).2=0):sqsB (a :: l) s=sqsB l (addB s (squareB a).1).1:=by
 show (if (squareB a).2=0 then (if (addB s (squareB a).1).2=0 then _ else _) else _)=_
 rw [if_pos h,if_pos h2]
theorem sqsB_bad {a:SpanD} {l:List SpanD} {s:SpanD} (h:(squareB a).2=0) (h2:¬ (addB s (squareB a).1).2=0):sqsB (a :: l) s=(zeroS,(addB s (squareB a).1).2):=by
 show (if (squareB a).2=0 then (if (addB s (squareB a).1).2=0 then _ else _) else _)=_
 rw [if_pos h,if_neg h2]
theorem sqsB_bad2 {a:SpanD} {l:List SpanD} {s:SpanD} (h:¬ (squareB a).2=0):sqsB (a :: l) s=(zeroS,(squareB a).2):=by
 show (if (squareB a).2=0 then _ else _)=_
 rw [if_neg h]
theorem addB_bad {a b:SpanD} (h:¬ (addB a b).2=0):(addB a b).1=zeroS:=by
 unfold addB fitB at h ⊢
 split
 ·rename_i hc
  rw [if_pos hc] at h
  split
  ·rename_i hb
   rw [if_pos hb] at h
   exact absurd rfl h
  ·rfl
 ·rfl
/-- One more square. -/
def sqStep (r:SpanD × Int) (x:SpanD):SpanD × Int:=if r.2=0 then (if (squareB x).2=0 then addB r.1 (squareB x).1 else (zeroS,(squareB x).2)) else r
theorem sqsB_snoc (x:SpanD):∀ (l:List SpanD) (s:SpanD),sqsB (l ++ [x]) s=sqStep (sqsB l s) x
 | [],s=>by
  show sqsB [x] s=if (0:Int)=0 then _ else _
  rw [if_pos rfl]
  by_cases h:(squareB x).2=0
  ·rw [if_pos h]
   by_cases h2:(addB s (squareB x).1).2=0
   ·rw [sqsB_ok h h2];exact Prod.ext rfl h2.symm
   ·rw [sqsB_bad h h2];exact Prod.ext (addB_bad h2).symm rfl
  ·rw [if_neg h,sqsB_bad2 h]
 | a :: l,s=>by
  rw [List.cons_append]
  by_cases h:(squareB a).2=0
  ·by_cases h2:(addB s (squareB a).1).2=0
   ·rw [sqsB_ok h h2,sqsB_ok h h2,sqsB_snoc x l]
   ·rw [sqsB_bad h h2,sqsB_bad h h2];unfold sqStep;rw [if_neg h2]
  ·rw [sqsB_bad2 h,sqsB_bad2 h];unfold sqStep;rw [if_neg h]
theorem sqsB_prefix (s:SpanD):∀ (r l:List SpanD),¬ (sqsB l s).2=0→sqsB (l ++ r) s=sqsB l s
 | [],l,_=>by rw [List.append_nil]
 | x :: r,l,h=>by
  have e:sqsB (l ++ [x]) s=sqsB l s:=by rw [sqsB_snoc];unfold sqStep;rw [if_neg h]
  rw [show l ++ x :: r=(l ++ [x]) ++ r by simp,sqsB_prefix s r (l ++ [x]) (by rw [e];exact h),e]
theorem wd_sqs (l:List SpanD):WdS (sqsB l zeroS).1:=by
 have key:∀ (l:List SpanD) (s:SpanD),WdS s→WdS (sqsB l s).1:=by
  intro l
  induction l with
  | nil=>intro s hs;exact hs
  | cons a l ih =>
   intro s hs
   by_cases h:(squareB a).2=0
   ·by_cases h2:(addB s (squareB a).1).2=0
    ·rw [sqsB_ok h h2];exact ih _ (wd_add _ _)
    ·rw [sqsB_bad h h2];exact wd_zero
   ·rw [sqsB_bad2 h];exact wd_zero
 exact key l zeroS wd_zero
theorem results_sp2 {P:Program} {fn:Func} {p q:Tmp} {ty ty2:TypeId} (h:fn.results=#[.cell p ty,.cell q ty2]) (tmps:Array Value) (w:World) (g k:Nat) (t t':TypeId) (cs:Array Value) (u:Value) (d d2:TypeDesc)
  (hp:tmps.getD p undef=.pointer (some ⟨g,0,none⟩)) (hq:tmps.getD q undef=.pointer (some ⟨k,0,none⟩)) (hk:Bk w g t cs) (hk2:Bk w k t' #[u])
  (hu:P.underlying ty=some d) (hd:(match d with | .struct _ | .array _ _=>true | _=>false)=true) (hi:(P.info? ty).map (·.size)=some cs.size)
  (hu2:P.underlying ty2=some d2) (hd2:(match d2 with | .struct _ | .array _ _=>true | _=>false)=false) :
  (results fn tmps).run P w=.ok (.tuple #[.agg cs,u]) w:=by
 have hl:=run_loadVar_at (P:=P) w g 0 ty cs d (fun j v hj=>by rw [Nat.zero_add,hk.cell];exact hj) hu hd hi
 have hp':tmps[p]?.getD undef=.pointer (some ⟨g,0,none⟩):=by simpa using hp
 have hq':tmps[q]?.getD undef=.pointer (some ⟨k,0,none⟩):=by simpa using hq
 have hc:w.cell? ⟨k,0,none⟩=some u:=hk2.cell 0
 have hagg:(isAgg ty2).run P w=.ok false w:=by
  unfold isAgg
  rw [Sem.run_bind,run_underlying hu2 w]
  cases d2 <;> simp_all
 have hl2:(loadVar ty2 ⟨k,0,none⟩).run P w=.ok u w:=by
  simp [loadVar,Sem.run_bind,hagg,go_sem,hc]
 simp [results,h,hp',hq',asAddr,hl,hl2]
theorem und_41:Tryz.prog.underlying 41=some (match Tryz.prog.underlying 41 with | some d=>d | none=>.string):=by kernel_rfl
theorem fold_any (w:World) (Bs g off n c:Nat) (v:Nat→SpanD) (hbs:Bk w Bs 185 #[.slice (some ⟨g,off,none⟩) n c]) (hc:∀ i,i<n→w.cell? ⟨g,off+i * 2,none⟩=some (.int .i64 (v i).lo)∧w.cell? ⟨g,off+i * 2+1,none⟩=some (.int .i64 (v i).hi)) (hg:g<w.heap.size) (hw:∀ i,i<n→WdS (v i)) (hn:n≤64) :
  Calls Tryz.prog 161 #[.func (.func 187) #[] #[.pointer (some ⟨Bs,0,none⟩)],.func (.func 135) #[] #[]] w (SpPost (sqsB ((List.range n).map v) zeroS) w.heap.size w):=by
 obtain ⟨PQ,hPQ⟩:∃ Q,SpPost (sqsB ((List.range n).map v) zeroS) w.heap.size w=Q:=⟨_,rfl⟩
 have HFIN:Hid (∀ w' lo hi e,sqsB ((List.range n).map v) zeroS=(⟨lo,hi⟩,e)→Fr w [] [] w'→PQ (.returned (.tuple #[.agg #[.int .i64 lo,.int .i64 hi],.int .i64 e])) w'):=Lib.hid fun w' lo hi e he h=>by rw [← hPQ,he];exact ⟨rfl,h.toBelow⟩
 have HSQ:Hid (∀ i,i<n→∀ w,Calls Tryz.prog 135 #[spanV (v i)] w (SpPost (squareB (v i)) w.heap.size w)):=Lib.hid fun i hi w=>square_any (v i) (hw i hi) w
 have HBS:=Lib.hid hbs
 have HC:=Lib.hid hc
 rw [hPQ]
 clear hPQ
 refine (callsIn_wide (n:=6)).1 ?_
 refine callsIn_of_wp_marks Tryz.func161 rfl trivial ?_ rfl
 simp only [Tryz.ntmps161,List.size_toArray,List.length_cons,List.length_nil,Nat.reduceAdd,Nat.reduceSub,Array.replicate_succ,Array.replicate_zero,List.push_toArray,List.append_toArray,List.nil_append,List.cons_append]
 refine wpIn_wide.2 ?_
 obtain ⟨qb,hqb⟩:∃ qb,w.heap.size=qb:=⟨_,rfl⟩
 obtain ⟨W0,hW0⟩:∃ W0,(((w.alloc (.cells #[.func (.func 135) #[] #[]] 165)).alloc (.cells #[.int .i64 0,.int .i64 0] 31)).alloc (.cells #[.int .i64 0] 41)).alloc (.cells #[.int .i64 0,.int .i64 0] 31)=W0:=⟨_,rfl⟩
 have HF0:Hid (Fr w [] [(qb,165,#[.func (.func 135) #[] #[]]),(qb+1,31,iC [0,0]),(qb+1+1,41,iC [0]),(qb+1+1+1,31,iC [0,0])] W0):=Lib.hid (by rw [← hW0];exact ((((Fr.start w).alloc (by simp [← hqb]) 165 #[.func (.func 135) #[] #[]]).alloc (by simp [← hqb]) 31 #[.int .i64 0,.int .i64 0]).alloc (by simp [← hqb]) 41 #[.int .i64 0]).alloc (by simp [← hqb]) 31 #[.int .i64 0,.int .i64 0])
 have HQ:Hid (qb=w.heap.size):=Lib.hid hqb.symm
 have hs0:W0.heap.size=qb+1+1+1+1:=by rw [← hW0,← hqb];simp
 have HBS0:=Lib.hid (hbs.below HF0.out.toBelow hbs.lt)
 have HC0:Hid (∀ i,i<n→W0.cell? ⟨g,off+i * 2,none⟩=some (.int .i64 (v i).lo)∧W0.cell? ⟨g,off+i * 2+1,none⟩=some (.int .i64 (v i).hi)):=Lib.hid fun i hi=>⟨(HF0.out.toBelow.cell (p:=⟨g,off+i * 2,none⟩) hg).trans (hc i hi).1,(HF0.out.toBelow.cell (p:=⟨g,off+i * 2+1,none⟩) hg).trans (hc i hi).2⟩
 have HSTOP:=Lib.hid (all_stops Bs g off n c v (by omega) W0 HBS0.out.lt (by have:=hbs.lt;omega) (HBS0.out.cell 0) HC0.out)
 have HKB:Hid (∀ x,x ∈ [Bs,g]→x<W0.heap.size):=Lib.hid (by have:=HBS0.out.lt;simp;omega)
 have HKW:Hid (∀ x,x ∈ [Bs,g]→x<w.heap.size):=Lib.hid (by have:=hbs.lt;simp;omega)
 obtain ⟨S,hS⟩:∃ S:List (Fin n)→SpanD × Int,S=fun pre=>sqsB (pre.map fun x=>v x.val) zeroS:=⟨_,rfl⟩
 obtain ⟨I,hI⟩:∃ I:List (Fin n)→World→Prop,(fun pre W=>(S pre).2=0∧Fr w [] [(qb,165,#[.func (.func 135) #[] #[]]),(qb+1,31,#[.int .i64 0,.int .i64 0]),(qb+1+1,41,#[.int .i64 0]),(qb+1+1+1,31,#[.int .i64 (S pre).1.lo,.int .i64 (S pre).1.hi])] W)=I:=⟨_,rfl⟩
 have HI:Hid (∀ pre W,I pre W ↔ ((S pre).2=0∧Fr w [] [(qb,165,#[.func (.func 135) #[] #[]]),(qb+1,31,#[.int .i64 0,.int .i64 0]),(qb+1+1,41,#[.int .i64 0]),(qb+1+1+1,31,#[.int .i64 (S pre).1.lo,.int .i64 (S pre).1.hi])] W)):=Lib.hid fun pre W=>by rw [← hI]
 have HOI:Hid (OwnFrom W0.heap.size I):=Lib.hid (by
  rw [← hI]
  rintro pre A B row ⟨h1,h2⟩ hgr hr
  exact ⟨h1,h2.turned (by rw [hs0,hqb];omega) hgr hr⟩)
 obtain ⟨Ix,hIx⟩:∃ Ix:Code→List (Fin n)→World→Prop,(fun cd pre W=>cd=.ret∧(S pre).2 ≠ 0∧Fr w [] [(qb,165,#[.func (.func 135) #[] #[]]),(qb+1,31,#[.int .i64 (S pre).1.lo,.int .i64 (S pre).1.hi]),(qb+1+1,41,#[.int .i64 (S pre).2])] W)=Ix:=⟨_,rfl⟩
 have HIX:Hid (∀ cd pre W,Ix cd pre W ↔ (cd=.ret∧(S pre).2 ≠ 0∧Fr w [] [(qb,165,#[.func (.func 135) #[] #[]]),(qb+1,31,#[.int .i64 (S pre).1.lo,.int .i64 (S pre).1.hi]),(qb+1+1,41,#[.int .i64 (S pre).2])] W)):=Lib.hid fun cd pre W=>by rw [← hIx]
 have HOX:Hid (∀ cd,OwnFrom W0.heap.size (Ix cd)):=Lib.hid fun cd=>by
  rw [← hIx]
  rintro pre A B row ⟨h0,h1,h2⟩ hgr hr
  exact ⟨h0,h1,h2.turned (by rw [hs0,hqb];omega) hgr hr⟩
 have H0I:Hid (I [] W0):=Lib.hid ((HI.out _ _).2 (by rw [hS];exact ⟨rfl,HF0.out⟩))
 obtain ⟨Ax,hAx⟩:∃ Ax:Fin n→Act→World→Prop,(fun x a' W=>∃ gx,a'=⟨#[.func (.func 187) #[] #[.pointer (some ⟨Bs,0,none⟩)],.func (.func 135) #[] #[],undef,.pointer (some ⟨qb,0,none⟩),.pointer (some ⟨qb+1,0,none⟩),.pointer (some ⟨qb+1+1,0,none⟩),.pointer (some ⟨qb+1+1+1,0,none⟩),undef,.pointer (some ⟨gx,0,none⟩),undef,undef,.func (.func 187) #[] #[.pointer (some ⟨Bs,0,none⟩)],.int .i64 (x.val:Int),spanV (v x.val),undef,undef,undef,undef,undef,undef,undef,undef,undef,undef,undef,undef,undef,undef,undef,undef,undef,undef,undef],[]⟩∧Bk W gx 31 #[.int .i64 (v x.val).lo,.int .i64 (v x.val).hi])=Ax:=⟨_,rfl⟩
 have HAX:Hid (∀ x a' W,Ax x a' W ↔ ∃ gx,a'=⟨#[.func (.func 187) #[] #[.pointer (some ⟨Bs,0,none⟩)],.func (.func 135) #[] #[],undef,.pointer (some ⟨qb,0,none⟩),.pointer (some ⟨qb+1,0,none⟩),.pointer (some ⟨qb+1+1,0,none⟩),.pointer (some ⟨qb+1+1+1,0,none⟩),undef,.pointer (some ⟨gx,0,none⟩),undef,undef,.func (.func 187) #[] #[.pointer (some ⟨Bs,0,none⟩)],.int .i64 (x.val:Int),spanV (v x.val),undef,undef,undef,undef,undef,undef,undef,undef,undef,undef,undef,undef,undef,undef,undef,undef,undef,undef,undef],[]⟩∧Bk W gx 31 #[.int .i64 (v x.val).lo,.int .i64 (v x.val).hi]):=Lib.hid fun x a' W=>by rw [← hAx]
 have HOA:Hid (∀ x a',OwnFrom W0.heap.size (fun (_:Unit) W=>Ax x a' W)):=Lib.hid fun x a'=>by
  rw [← hAx]
  rintro _ A B row ⟨gx,h2,h3⟩ hgr hr
  exact ⟨gx,h2,h3.turned hgr fun r e=>(hr r e).2⟩
 have HS:=Lib.hid hS
 clear hI hIx hAx hS hbs hc hg hw hs0
 go_wp2_with fail
 try rw [hW0]
 clear hW0
 refine (wpIn_wide (n:=6)).1 ?_
 refine wpIn_rangeFunc_ownH (n:=6) rfl (by decide) (gf:=187) rfl trivial (enters_of Tryz.func187 (by kernel_rfl) rfl) HSTOP.out KeepL.trans (keepL_b HKB.out) (Below.refl _ _) (fun _=>rfl)
  I Ix HOI.out HOX.out H0I.out Ax HOA.out ?assign ?body ?done ?stop
 case assign =>
  intro l pre x W K hIW hK
  have HFW:Hid (Fr W [] [] W):=Lib.hid (Fr.start W)
  unfold spanV
  dsimp only
  obtain ⟨xl,hxl⟩:∃ z,(v x.val).lo=z:=⟨_,rfl⟩
  obtain ⟨xh,hxh⟩:∃ z,(v x.val).hi=z:=⟨_,rfl⟩
  rw [hxl,hxh]
  have HIW:=Lib.hid hIW
  have HXL:=Lib.hid hxl
  have HXH:=Lib.hid hxh
  have HK:=Lib.hid hK
  clear hIW hxl hxh hK
  obtain ⟨g101,hg101⟩:∃ g,W.heap.size=g:=⟨_,rfl⟩
  obtain ⟨w101,hw101⟩:∃ u,W.alloc (.cells #[.int .i64 0,.int .i64 0] 31)=u:=⟨_,rfl⟩
  have HF102:=Lib.hid (frE hw101 (HFW.out.alloc hg101.symm 31 #[.int .i64 0,.int .i64 0]))
  gi_wp2_with (refine wpStoreFI rfl rfl 31 _ _ rfl g101 0 rfl #[.int .i64 xl,.int .i64 xh] rfl _ _ (iC [xl,xh]) (HF102.out.get 0 rfl) rfl (by show 0+2≤2;omega) (one_all rfl) info_span ?_;intro w103 hk ho;clear hw101 hg101;have HF104:=Lib.hid (HF102.out.only 0 rfl ho hk);clear ho hk)
  have hb:=HF104.out.toBelow
  obtain ⟨hi1,hi2⟩:=(HI.out _ _).1 HIW.out
  have hqw:qb≤W.heap.size:=by rw [HQ.out];exact hi2.size
  refine HK.out _ _ ((HF104.out.keepsOthers (by simp)).from _) (HF104.out.keepL fun b hb=>⟨Nat.lt_of_lt_of_le (HKW.out b hb) hi2.size,by simp⟩) ((HI.out _ _).2 ⟨hi1,hi2.below hb⟩) ((HAX.out _ _ _).2 ⟨g101,?_,by rw [HXL.out,HXH.out];exact (HF104.out.get 0 rfl)⟩)
  unfold spanV;rw [HXL.out,HXH.out]
 case body =>
  intro l pre x a' W hDl hrec hIW hAx hpl
  obtain ⟨gx,rfl,hgx⟩:=(HAX.out _ _ _).1 hAx
  obtain ⟨h1,h2⟩:=(HI.out _ _).1 hIW
  obtain ⟨PB,hPB⟩:∃ Q,ownPostG W0.heap.size (KeepL [Bs,g]) I Ix (pre ++ [x]) W=Q:=⟨_,rfl⟩
  have hstep:S (pre ++ [x])=sqStep (S pre) (v x.val):=by rw [HS.out];dsimp only;rw [List.map_append];exact sqsB_snoc _ _ _
  have hkeys:∀ b ∈ [Bs,g],b<W.heap.size∧b ∉ [qb+1,qb+1+1,qb+1+1+1]:=fun b hb=>by
   have h3:=HKW.out b hb
   have h4:=h2.size
   have h5:=HQ.out
   refine ⟨by omega,?_⟩
   simp only [List.mem_cons,List.not_mem_nil,or_false]
   omega
  have HEN:Hid (∀ a W' lo hi,sqStep (S pre) (v x.val)=(⟨lo,hi⟩,0)→Fr W [(qb+1,31,#[.int .i64 0,.int .i64 0]),(qb+1+1,41,#[.int .i64 0]),(qb+1+1+1,31,#[.int .i64 lo,.int .i64 hi])] [] W'→PB .normal a W'):=Lib.hid fun a W' lo hi he hf=>by
   rw [← hPB]
   have h6:=h2.turns [false,true,true,true] hf ⟨rfl,rfl,rfl,trivial⟩
   refine ⟨(hf.keepsOthers ?_).from _,hf.keepL hkeys,(HI.out _ _).2 ?_⟩
   ·intro y hy
    simp only [List.mem_cons,List.not_mem_nil,or_false] at hy
    rcases hy with rfl | rfl | rfl
    ·exact ⟨_,_,h2.get 1 rfl⟩
    ·exact ⟨_,_,h2.get 2 rfl⟩
    ·exact ⟨_,_,h2.get 3 rfl⟩
   ·rw [hstep,he];exact ⟨rfl,h6⟩
  have HER:Hid (∀ a W' lo hi e,sqStep (S pre) (v x.val)=(⟨lo,hi⟩,e)→e ≠ 0→∀ s1 s2,Fr W [(qb+1,31,#[.int .i64 lo,.int .i64 hi]),(qb+1+1,41,#[.int .i64 e]),(qb+1+1+1,31,#[.int .i64 s1,.int .i64 s2])] [] W'→PB .ret a W'):=Lib.hid fun a W' lo hi e he hne s1 s2 hf=>by
   rw [← hPB]
   have h6:=h2.turns [false,true,true,true] hf ⟨rfl,rfl,rfl,trivial⟩
   refine ⟨(hf.keepsOthers ?_).from _,(HIX.out _ _ _).2 ?_⟩
   ·intro y hy
    simp only [List.mem_cons,List.not_mem_nil,or_false] at hy
    rcases hy with rfl | rfl | rfl
    ·exact ⟨_,_,h2.get 1 rfl⟩
    ·exact ⟨_,_,h2.get 2 rfl⟩
    ·exact ⟨_,_,h2.get 3 rfl⟩
   ·rw [hstep,he]
    exact ⟨rfl,hne,h6.sub (List.sublist_append_left [_,_,_] [_])⟩
  rw [hPB]
  obtain ⟨⟨⟨sl,sh⟩,se⟩,hsp⟩:∃ z,S pre=z:=⟨_,rfl⟩
  have hws:WdS (S pre).1:=by rw [HS.out];exact wd_sqs _
  rw [hsp] at h1 h2 hws HEN HER
  dsimp only at h1 h2 hws
  subst h1
  have HFB:Hid (Fr W [(qb+1,31,#[.int .i64 0,.int .i64 0]),(qb+1+1,41,#[.int .i64 0]),(qb+1+1+1,31,#[.int .i64 sl,.int .i64 sh])] [] W):=Lib.hid (Fr.startL (fun y hy=>by
   simp only [List.mem_cons,List.not_mem_nil,or_false] at hy
   rcases hy with rfl | rfl | rfl
   ·exact h2.get 1 rfl
   ·exact h2.get 2 rfl
   ·exact h2.get 3 rfl) (by simp))
  have HGX:=Lib.hid hgx
  have HGQ:=Lib.hid (h2.get 0 rfl)
  have HSQ1:=Lib.hid (HSQ.out x.val x.isLt)
  obtain ⟨⟨⟨ql,qh⟩,qe⟩,hq⟩:∃ z,squareB (v x.val)=z:=⟨_,rfl⟩
  have hwq:WdS (squareB (v x.val)).1:=wd_square _
  have HADD:=fun w=>add_any ⟨sl,sh⟩ (squareB (v x.val)).1 hws hwq w
  unfold sqStep at HEN HER
  rw [hq] at HSQ1 HADD HEN HER
  dsimp only at HADD HEN HER
  rw [if_pos rfl] at HEN HER
  obtain ⟨⟨⟨tl,th⟩,te⟩,ht⟩:∃ z,addB ⟨sl,sh⟩ ⟨ql,qh⟩=z:=⟨_,rfl⟩
  have HTE:Hid (¬ te=0→tl=0∧th=0):=Lib.hid fun h=>by
   have:=addB_bad (a:=⟨sl,sh⟩) (b:=⟨ql,qh⟩) (by rw [ht];exact h)
   rw [ht] at this
   unfold zeroS at this
   injection this with e1 e2
   exact ⟨e1,e2⟩
  rw [ht] at HADD HEN HER
  replace HADD:=Lib.hid HADD
  obtain ⟨xl,hxl⟩:∃ z,(v x.val).lo=z:=⟨_,rfl⟩
  obtain ⟨xh,hxh⟩:∃ z,(v x.val).hi=z:=⟨_,rfl⟩
  unfold SpPost spanV at HSQ1 HADD
  unfold spanV
  rw [hxl,hxh] at HSQ1 HGX ⊢
  dsimp only at HSQ1 HADD ⊢
  clear hIW hAx hpl hPB hstep hkeys hsp hws hwq hq ht hxl hxh hgx h2 hDl hrec
  have c101:W.cell? ⟨qb,0,none⟩=some (.func (.func 135) #[] #[]):=HGQ.out.cell 0
  gi_wp2_with (refine wpLoadFI rfl 31 _ rfl gx 0 rfl _ _ HGX.out #[.int .i64 xl,.int .i64 xh] rfl _ und_span rfl info_span ?_)
  clear c101
  refine ⟨trivial,?_⟩
  refine (CallsIn.inRound l (callsIn_wide.2 (HSQ1.out _))).mono ?_
  rintro e w102 ⟨rfl,hw⟩
  have HF103:=Lib.hid (HFB.out.below hw)
  clear hw
  by_cases hq0:qe=0
  ·subst hq0
   rw [if_pos rfl] at HEN HER
   obtain ⟨g104,hg104⟩:∃ g,w102.heap.size=g:=⟨_,rfl⟩
   obtain ⟨w104,hw104⟩:∃ u,w102.alloc (.cells #[.int .i64 0,.int .i64 0] 31)=u:=⟨_,rfl⟩
   have HF105:=Lib.hid (frE hw104 (HF103.out.alloc hg104.symm 31 #[.int .i64 0,.int .i64 0]))
   gi_wp2_with (first
     | (refine wpLoadFI rfl 31 _ rfl (qb+1+1+1) 0 rfl _ _ (HF107.out.getO 2 rfl) #[.int .i64 sl,.int .i64 sh] rfl _ und_span rfl info_span ?_)
     | (refine wpLoadFI rfl 31 _ rfl g104 0 rfl _ _ (HF107.out.get 0 rfl) #[.int .i64 ql,.int .i64 qh] rfl _ und_span rfl info_span ?_)
     | (refine wpStoreFI rfl rfl 31 _ _ rfl g104 0 rfl #[.int .i64 ql,.int .i64 qh] rfl _ _ (iC [ql,qh]) (HF105.out.get 0 rfl) rfl (by show 0+2≤2;omega) (one_all rfl) info_span ?_;intro w106 hk ho;clear hw104 hg104;have HF107:=Lib.hid (HF105.out.only 0 rfl ho hk);clear ho hk))
   refine ⟨trivial,?_⟩
   refine (CallsIn.inRound l (callsIn_wide.2 (HADD.out _))).mono ?_
   rintro e w108 ⟨rfl,hw⟩
   have HF109:=Lib.hid (HF107.out.below hw)
   clear hw
   by_cases ht0:te=0
   ·subst ht0
    gi_wp2_with (refine wpStoreFI rfl rfl 31 _ _ rfl (qb+1+1+1) 0 rfl #[.int .i64 tl,.int .i64 th] rfl _ _ (iC [tl,th]) (HF109.out.getO 2 rfl) rfl (by show 0+2≤2;omega) (one_all rfl) info_span ?_;intro w110 hk ho;have HF111:=Lib.hid (HF109.out.onlyO 2 rfl ho hk);clear ho hk)
    exact HEN.out _ _ _ _ rfl HF111.out.drop
   ·obtain ⟨rfl,rfl⟩:=HTE.out ht0
    have hb2:(te == 0)=false:=by simpa using ht0
    have HT0:=Lib.hid ht0
    clear ht0
    gi_wp2_with (first
      | (refine wpStoreFI rfl rfl 31 _ _ rfl (qb+1+1+1) 0 rfl #[.int .i64 0,.int .i64 0] rfl _ _ (iC [0,0]) (HF109.out.getO 2 rfl) rfl (by show 0+2≤2;omega) (one_all rfl) info_span ?_;intro w110 hk ho;have HF111:=Lib.hid (HF109.out.onlyO 2 rfl ho hk);clear ho hk)
      | (refine wpStoreFI rfl rfl 31 _ _ rfl (qb+1) 0 rfl #[.int .i64 0,.int .i64 0] rfl _ _ (iC [0,0]) (HF111.out.getO 0 rfl) rfl (by show 0+2≤2;omega) (one_all rfl) info_span ?_;intro w112 hk ho;have HF113:=Lib.hid (HF111.out.onlyO 0 rfl ho hk);clear ho hk)
      | (refine wpStoreCellI rfl rfl 41 _ _ rfl (qb+1+1) 0 rfl (.int .i64 te) rfl _ _ (HF113.out.getO 1 rfl) (by show 0<1;omega) rfl (by kernel_rfl) ?_;intro w114 hk ho;have HF115:=Lib.hid (HF113.out.onlyO 1 rfl ho hk);clear ho hk))
    exact HER.out _ _ _ _ _ rfl HT0.out _ _ HF115.out.drop
  ·rw [if_neg hq0] at HER
   clear HEN
   have hb2:(qe == 0)=false:=by simpa using hq0
   have HT0:=Lib.hid hq0
   clear hq0
   obtain ⟨g104,hg104⟩:∃ g,w102.heap.size=g:=⟨_,rfl⟩
   obtain ⟨w104,hw104⟩:∃ u,w102.alloc (.cells #[.int .i64 0,.int .i64 0] 31)=u:=⟨_,rfl⟩
   have HF105:=Lib.hid (frE hw104 (HF103.out.alloc hg104.symm 31 #[.int .i64 0,.int .i64 0]))
   gi_wp2_with (first
     | (refine wpStoreFI rfl rfl 31 _ _ rfl g104 0 rfl #[.int .i64 ql,.int .i64 qh] rfl _ _ (iC [ql,qh]) (HF105.out.get 0 rfl) rfl (by show 0+2≤2;omega) (one_all rfl) info_span ?_;intro w106 hk ho;clear hw104 hg104;have HF107:=Lib.hid (HF105.out.only 0 rfl ho hk);clear ho hk)
     | (refine wpStoreFI rfl rfl 31 _ _ rfl (qb+1) 0 rfl #[.int .i64 0,.int .i64 0] rfl _ _ (iC [0,0]) (HF107.out.getO 0 rfl) rfl (by show 0+2≤2;omega) (one_all rfl) info_span ?_;intro w108 hk ho;have HF109:=Lib.hid (HF107.out.onlyO 0 rfl ho hk);clear ho hk)
     | (refine wpStoreCellI rfl rfl 41 _ _ rfl (qb+1+1) 0 rfl (.int .i64 qe) rfl _ _ (HF109.out.getO 1 rfl) (by show 0<1;omega) rfl (by kernel_rfl) ?_;intro w110 hk ho;have HF111:=Lib.hid (HF109.out.onlyO 1 rfl ho hk);clear ho hk))
   exact HER.out _ _ _ _ _ rfl HT0.out _ _ HF111.out.drop
 case done =>
  intro D ys W hD hys hIW hK
  obtain ⟨h1,h2⟩:=(HI.out _ _).1 hIW
  have hL:S ys=sqsB ((List.range n).map v) zeroS:=by
   rw [HS.out];dsimp only;rw [← hys];unfold Fin.vals;rw [List.map_map];rfl
  obtain ⟨⟨⟨sl,sh⟩,se⟩,hsp⟩:∃ z,S ys=z:=⟨_,rfl⟩
  rw [hsp] at h1 h2
  rw [hsp] at hL
  dsimp only at h1 h2
  subst h1
  have hq:=h2.size
  have HFB:Hid (Fr W [(qb+1,31,#[.int .i64 0,.int .i64 0]),(qb+1+1,41,#[.int .i64 0]),(qb+1+1+1,31,#[.int .i64 sl,.int .i64 sh])] [] W):=Lib.hid (Fr.startL (fun y hy=>by
   simp only [List.mem_cons,List.not_mem_nil,or_false] at hy
   rcases hy with rfl | rfl | rfl
   ·exact h2.get 1 rfl
   ·exact h2.get 2 rfl
   ·exact h2.get 3 rfl) (by simp))
  have HEND:Hid (∀ W' s1 s2,Fr W [(qb+1,31,#[.int .i64 sl,.int .i64 sh]),(qb+1+1,41,#[.int .i64 0]),(qb+1+1+1,31,#[.int .i64 s1,.int .i64 s2])] [] W'→W'.heap[D]?=some (.deferred (some []))∧PQ (.returned (.tuple #[.agg #[.int .i64 sl,.int .i64 sh],.int .i64 0])) (W'.putObj D (.deferred none))∧Bk (W'.putObj D (.deferred none)) (qb+1) 31 #[.int .i64 sl,.int .i64 sh]∧Bk (W'.putObj D (.deferred none)) (qb+1+1) 41 #[.int .i64 0]):=Lib.hid fun W' s1 s2 hf=>by
   have hDK:W'.heap[D]?=some (.deferred (some [])):=(hf.keepsOthers (fun y hy=>by
    simp only [List.mem_cons,List.not_mem_nil,or_false] at hy
    rcases hy with rfl | rfl | rfl
    ·exact ⟨_,_,h2.get 1 rfl⟩
    ·exact ⟨_,_,h2.get 2 rfl⟩
    ·exact ⟨_,_,h2.get 3 rfl⟩)).same D _ hK rfl
   have h6:=(h2.turns [false,true,true,true] hf ⟨rfl,rfl,rfl,trivial⟩).putObj (.deferred none) (by have:=HF0.out.size;omega) hDK rfl
   exact ⟨hDK,HFIN.out _ _ _ _ hL.symm h6.drop,h6.get 1 rfl,h6.get 2 rfl⟩
  clear hD hys hIW hK hL hsp hq h2
  go_wp2_with (first
    | (refine wpLoadF rfl 31 _ rfl (qb+1+1+1) 0 rfl _ _ (HFB.out.getO 2 rfl) #[.int .i64 sl,.int .i64 sh] rfl _ und_span rfl info_span ?_)
    | (refine wpStoreF rfl rfl 31 _ _ rfl (qb+1) 0 rfl #[.int .i64 sl,.int .i64 sh] rfl _ _ (iC [sl,sh]) (HFB.out.getO 0 rfl) rfl (by show 0+2≤2;omega) (one_all rfl) info_span ?_;intro w101 hk ho;have HF102:=Lib.hid (HFB.out.onlyO 0 rfl ho hk);clear ho hk)
    | (refine wpStoreCell rfl rfl 41 _ _ rfl (qb+1+1) 0 rfl (.int .i64 0) rfl _ _ (HF102.out.getO 1 rfl) (by show 0<1;omega) rfl (by kernel_rfl) ?_;intro w103 hk ho;have HF104:=Lib.hid (HF102.out.onlyO 1 rfl ho hk);clear ho hk))
  obtain ⟨hd1,hd2,hd3,hd4⟩:=HEND.out _ _ _ HF104.out.drop
  refine ⟨by simp,.inl ⟨_,_,rfl,run_takeDeferred hd1,?_⟩⟩
  exact ⟨_,results_sp2 rfl _ _ (qb+1) (qb+1+1) 31 41 _ _ _ _ rfl rfl hd3 hd4 und_span rfl info_span und_41 rfl,hd2⟩
 case stop =>
  intro D cd pre W hD hSp hIx hK
  obtain ⟨rfl,h1,h2⟩:=(HIX.out _ _ _).1 hIx
  have hL:S pre=sqsB ((List.range n).map v) zeroS:=by
   obtain ⟨r,hr⟩:=hSp.1
   have e:sqsB (((Fin.vals pre) ++ r).map v) zeroS=sqsB ((Fin.vals pre).map v) zeroS:=by
    rw [List.map_append]
    refine sqsB_prefix zeroS _ _ ?_
    have e2:S pre=sqsB ((Fin.vals pre).map v) zeroS:=by rw [HS.out];dsimp only;unfold Fin.vals;rw [List.map_map];rfl
    rw [← e2];exact h1
   rw [← hr,e,HS.out];dsimp only;unfold Fin.vals;rw [List.map_map];rfl
  obtain ⟨⟨⟨sl,sh⟩,se⟩,hsp⟩:∃ z,S pre=z:=⟨_,rfl⟩
  rw [hsp] at h1 h2 hL
  dsimp only at h1 h2
  have h6:=h2.putObj (.deferred none) (by have:=HF0.out.size;omega) hK rfl
  have HKD:=Lib.hid hK
  have HH:=Lib.hid (And.intro (HFIN.out _ _ _ _ hL.symm h6.drop) (And.intro (h6.get 1 rfl) (h6.get 2 rfl)))
  clear hD hSp hIx hK h1 h2 hL hsp h6
  refine wpIn_wide.2 ?_
  go_wp2_with fail
  refine ⟨by simp,.inl ⟨_,_,rfl,run_takeDeferred HKD.out,?_⟩⟩
  exact ⟨_,results_sp2 rfl _ _ (qb+1) (qb+1+1) 31 41 _ _ _ _ rfl rfl HH.out.2.1 HH.out.2.2 und_span rfl info_span und_41 rfl,HH.out.1⟩
end Go.Proofs.YtmkoegljnebdiaaGreat
namespace Go.Proofs.YtmkoegljnebdiaaGreat
open Go.RowKit
set_option maxRecDepth 100000
set_option maxHeartbeats 16000000

theorem all_fr (A:Option Addr) (n c:Nat) (w:World) :
  Calls Tryz.prog 162 #[.slice A n c] w fun e w'=>∃ g,e=.returned (.func (.func 187) #[] #[.pointer (some ⟨g,0,none⟩)])∧Fr w [] [(g,185,#[.slice A n c])] w' :=
 (all_any A n c w).mono fun e w' ⟨he,hw⟩=>⟨_,he,by rw [hw];exact (Fr.start w).alloc rfl 185 _⟩
theorem all_chk (n:Nat) (v:Nat→SpanD):((List.range n).map v).all chkB=allN n fun i=>chkB (v i):=by unfold allN;rw [List.all_map];rfl
theorem SpansAt.later {w w':World} {B B' n:Nat} {A:Option Addr} {v:Nat→SpanD} (h:SpansAt w B A n v) (hb:Below B w w') (hB:B≤B'):SpansAt w' B' A n v:=(Sl.below h hb).mono hB
theorem SpansAt.cells {w:World} {B g off n:Nat} {v:Nat→SpanD} (h:SpansAt w B (some ⟨g,off,none⟩) n v) (hn:0<n):g<B∧∀ i,i<n→w.cell? ⟨g,off+i * 2,none⟩=some (.int .i64 (v i).lo)∧w.cell? ⟨g,off+i * 2+1,none⟩=some (.int .i64 (v i).hi):=by
 obtain ⟨b,o,e,hb,hc⟩:=h.2 hn
 injection e with e
 injection e with e1 e2
 subst e1 e2
 exact ⟨hb,fun i hi=>⟨hc i hi 0 (by omega),hc i hi 1 (by omega)⟩⟩
theorem norm_any (w:World) (ga off n c:Nat) (v:Nat→SpanD) (h:SpansAt w w.heap.size (some ⟨ga,off,none⟩) n v) (hn0:0<n) (hn:n≤64) (hw:∀ i,i<n→WdS (v i)) :
  Calls Tryz.prog 114 #[.slice (some ⟨ga,off,none⟩) n c] w (SpPost (normB ((List.range n).map v)) w.heap.size w):=by
 have HS:=Lib.hid h
 have HW:=Lib.hid hw
 have HN:=Lib.hid hn
 have HN0:=Lib.hid hn0
 obtain ⟨PQ,hPQ⟩:∃ Q,SpPost (normB ((List.range n).map v)) w.heap.size w=Q:=⟨_,rfl⟩
 have HFIN:Hid (∀ w' lo hi e,normB ((List.range n).map v)=(⟨lo,hi⟩,e)→Fr w [] [] w'→PQ (.returned (.tuple #[.agg #[.int .i64 lo,.int .i64 hi],.int .i64 e])) w'):=Lib.hid fun w' lo hi e he h=>by rw [← hPQ,he];exact ⟨rfl,h.toBelow⟩
 have hnb:normB ((List.range n).map v)=if (allN n fun i=>chkB (v i))=true then (if (sqsB ((List.range n).map v) zeroS).2=0 then rootB (sqsB ((List.range n).map v) zeroS).1 else (zeroS,(sqsB ((List.range n).map v) zeroS).2)) else (zeroS,2):=by
  unfold normB
  rw [if_neg (by simp;omega),all_chk]
 have hwq:=wd_sqs ((List.range n).map v)
 have HFEW:Hid (∀ (w':World) (gl:Nat) (t:TypeId),Below w.heap.size w w'→Bk w' gl t #[.slice (some ⟨ga,off,none⟩) n c]→Calls Tryz.prog 160 #[.slice (some ⟨gl,0,none⟩) 1 1] w' fun e w''=>e=.returned (.int .i64 (if (allN n fun i=>chkB (v i))=true then 0 else 2))∧Below w'.heap.size w' w''):=Lib.hid fun w' gl t hb hk=>few1_any w' gl t (some ⟨ga,off,none⟩) n c v hk (h.later hb hb.size) hn
 have HFOLD:Hid (∀ (w':World) (Bs:Nat),Below w.heap.size w w'→Bk w' Bs 185 #[.slice (some ⟨ga,off,none⟩) n c]→Calls Tryz.prog 161 #[.func (.func 187) #[] #[.pointer (some ⟨Bs,0,none⟩)],.func (.func 135) #[] #[]] w' (SpPost (sqsB ((List.range n).map v) zeroS) w'.heap.size w')):=Lib.hid fun w' Bs hb hk =>
  fold_any w' Bs ga off n c v hk (h.later hb hb.size |>.cells hn0).2 (h.later hb hb.size |>.cells hn0).1 hw hn
 rw [hnb] at HFIN
 rw [hPQ]
 clear hPQ h hn hn0 hw hnb
 cases hall:allN n fun i=>chkB (v i) with
 | false =>
  rw [hall] at HFEW HFIN
  rw [if_neg (by decide)] at HFEW HFIN
  clear hall hwq HFOLD
  obtain ⟨qb,hqb⟩:∃ qb,w.heap.size=qb:=⟨_,rfl⟩
  obtain ⟨W0,hW0⟩:∃ W0,w.alloc (.cells #[.int .i64 0,.int .i64 0] 31)=W0:=⟨_,rfl⟩
  have HF0:Hid (Fr w [] [(qb,31,iC [0,0])] W0):=Lib.hid (by rw [← hW0];exact (Fr.start w).alloc (by simp [← hqb]) 31 #[.int .i64 0,.int .i64 0])
  go_enter Tryz.func114,Tryz.ntmps114
  go_upto_region 1 with (fail)
  clear hW0 hqb
  obtain ⟨g1,hg1⟩:∃ g,W0.heap.size=g:=⟨_,rfl⟩
  obtain ⟨w1,hw1⟩:∃ u,W0.alloc (.cells #[.slice (some ⟨ga,off,none⟩) n c] 185)=u:=⟨_,rfl⟩
  have HF2:=Lib.hid (frE hw1 (HF0.out.alloc hg1.symm 185 #[.slice (some ⟨ga,off,none⟩) n c]))
  go_wp2_with fail
  clear hw1 hg1
  refine (HFEW.out _ g1 185 HF2.out.toBelow (HF2.out.get 1 rfl)).mono ?_
  rintro e w3 ⟨rfl,hw⟩
  have HF4:=Lib.hid (HF2.out.below hw)
  clear hw
  go_wp2_with (refine wpStoreF rfl rfl 31 _ _ rfl qb 0 rfl #[.int .i64 0,.int .i64 0] rfl _ _ (iC [0,0]) (HF4.out.get 0 rfl) rfl (by show 0+2≤2;omega) (one_all rfl) info_span ?_;intro w5 hk ho;have HF6:=Lib.hid (HF4.out.only 0 rfl ho hk);clear ho hk)
  refine ret_agg2 rfl rfl rfl (HF6.out.get 0 rfl) rfl und_span rfl info_span ?_
  exact HFIN.out _ _ _ _ rfl HF6.out.drop
 | true =>
  rw [hall] at HFEW HFIN
  rw [if_pos rfl] at HFEW HFIN
  have HROOT:=fun w=>rootS_any _ hwq w
  clear hall hwq
  obtain ⟨⟨⟨sl,sh⟩,se⟩,hs⟩:∃ z,sqsB ((List.range n).map v) zeroS=z:=⟨_,rfl⟩
  rw [hs] at HFOLD HFIN HROOT
  dsimp only at HROOT HFIN
  replace HROOT:=Lib.hid HROOT
  unfold SpPost spanV at HFOLD
  clear hs
  by_cases he:se=0
  ·subst he
   rw [if_pos rfl] at HFIN
   obtain ⟨⟨⟨rl,rh⟩,re⟩,hr⟩:∃ z,rootB ⟨sl,sh⟩=z:=⟨_,rfl⟩
   rw [hr] at HROOT HFIN
   unfold SpPost spanV at HROOT
   dsimp only at HROOT
   clear hr
   obtain ⟨qb,hqb⟩:∃ qb,w.heap.size=qb:=⟨_,rfl⟩
   obtain ⟨W0,hW0⟩:∃ W0,w.alloc (.cells #[.int .i64 0,.int .i64 0] 31)=W0:=⟨_,rfl⟩
   have HF0:Hid (Fr w [] [(qb,31,iC [0,0])] W0):=Lib.hid (by rw [← hW0];exact (Fr.start w).alloc (by simp [← hqb]) 31 #[.int .i64 0,.int .i64 0])
   go_enter Tryz.func114,Tryz.ntmps114
   go_upto_region 1 with (fail)
   clear hW0 hqb
   obtain ⟨g1,hg1⟩:∃ g,W0.heap.size=g:=⟨_,rfl⟩
   obtain ⟨w1,hw1⟩:∃ u,W0.alloc (.cells #[.slice (some ⟨ga,off,none⟩) n c] 185)=u:=⟨_,rfl⟩
   have HF2:=Lib.hid (frE hw1 (HF0.out.alloc hg1.symm 185 #[.slice (some ⟨ga,off,none⟩) n c]))
   go_wp2_with fail
   clear hw1 hg1
   refine (HFEW.out _ g1 185 HF2.out.toBelow (HF2.out.get 1 rfl)).mono ?_
   rintro e w3 ⟨rfl,hw⟩
   have HF4:=Lib.hid (HF2.out.below hw)
   clear hw
   go_wp2_with fail
   refine (all_fr (some ⟨ga,off,none⟩) n c _).mono ?_
   rintro e w5 ⟨gB,rfl,hw⟩
   have HF6:=Lib.hid (HF4.out.more hw)
   clear hw
   go_wp2_with fail
   refine (HFOLD.out _ gB HF6.out.toBelow (HF6.out.get 2 rfl)).mono ?_
   rintro e w7 ⟨rfl,hw⟩
   have HF8:=Lib.hid (HF6.out.below hw)
   clear hw
   obtain ⟨g9,hg9⟩:∃ g,w7.heap.size=g:=⟨_,rfl⟩
   obtain ⟨w9,hw9⟩:∃ u,w7.alloc (.cells #[.int .i64 0,.int .i64 0] 31)=u:=⟨_,rfl⟩
   have HF10:=Lib.hid (frE hw9 (HF8.out.alloc hg9.symm 31 #[.int .i64 0,.int .i64 0]))
   go_wp2_with (first
     | (refine wpLoadF rfl 31 _ rfl g9 0 rfl _ _ (HF12.out.get 3 rfl) #[.int .i64 sl,.int .i64 sh] rfl _ und_span rfl info_span ?_)
     | (refine wpStoreF rfl rfl 31 _ _ rfl g9 0 rfl #[.int .i64 sl,.int .i64 sh] rfl _ _ (iC [sl,sh]) (HF10.out.get 3 rfl) rfl (by show 0+2≤2;omega) (one_all rfl) info_span ?_;intro w11 hk ho;clear hw9 hg9;have HF12:=Lib.hid (HF10.out.only 3 rfl ho hk);clear ho hk))
   refine (HROOT.out _).mono ?_
   rintro e w13 ⟨rfl,hw⟩
   have HF14:=Lib.hid (HF12.out.below hw)
   clear hw
   go_wp2_with (refine wpStoreF rfl rfl 31 _ _ rfl qb 0 rfl #[.int .i64 rl,.int .i64 rh] rfl _ _ (iC [rl,rh]) (HF14.out.get 0 rfl) rfl (by show 0+2≤2;omega) (one_all rfl) info_span ?_;intro w15 hk ho;have HF16:=Lib.hid (HF14.out.only 0 rfl ho hk);clear ho hk)
   refine ret_agg2 rfl rfl rfl (HF16.out.get 0 rfl) rfl und_span rfl info_span ?_
   exact HFIN.out _ _ _ _ rfl HF16.out.drop
  ·rw [if_neg he] at HFIN
   have hb2:(se == 0)=false:=by simpa using he
   clear he HROOT
   obtain ⟨qb,hqb⟩:∃ qb,w.heap.size=qb:=⟨_,rfl⟩
   obtain ⟨W0,hW0⟩:∃ W0,w.alloc (.cells #[.int .i64 0,.int .i64 0] 31)=W0:=⟨_,rfl⟩
   have HF0:Hid (Fr w [] [(qb,31,iC [0,0])] W0):=Lib.hid (by rw [← hW0];exact (Fr.start w).alloc (by simp [← hqb]) 31 #[.int .i64 0,.int .i64 0])
   go_enter Tryz.func114,Tryz.ntmps114
   go_upto_region 1 with (fail)
   clear hW0 hqb
   obtain ⟨g1,hg1⟩:∃ g,W0.heap.size=g:=⟨_,rfl⟩
   obtain ⟨w1,hw1⟩:∃ u,W0.alloc (.cells #[.slice (some ⟨ga,off,none⟩) n c] 185)=u:=⟨_,rfl⟩
   have HF2:=Lib.hid (frE hw1 (HF0.out.alloc hg1.symm 185 #[.slice (some ⟨ga,off,none⟩) n c]))
   go_wp2_with fail
   clear hw1 hg1
   refine (HFEW.out _ g1 185 HF2.out.toBelow (HF2.out.get 1 rfl)).mono ?_
   rintro e w3 ⟨rfl,hw⟩
   have HF4:=Lib.hid (HF2.out.below hw)
   clear hw
   go_wp2_with fail
   refine (all_fr (some ⟨ga,off,none⟩) n c _).mono ?_
   rintro e w5 ⟨gB,rfl,hw⟩
   have HF6:=Lib.hid (HF4.out.more hw)
   clear hw
   go_wp2_with fail
   refine (HFOLD.out _ gB HF6.out.toBelow (HF6.out.get 2 rfl)).mono ?_
   rintro e w7 ⟨rfl,hw⟩
   have HF8:=Lib.hid (HF6.out.below hw)
   clear hw
   obtain ⟨g9,hg9⟩:∃ g,w7.heap.size=g:=⟨_,rfl⟩
   obtain ⟨w9,hw9⟩:∃ u,w7.alloc (.cells #[.int .i64 0,.int .i64 0] 31)=u:=⟨_,rfl⟩
   have HF10:=Lib.hid (frE hw9 (HF8.out.alloc hg9.symm 31 #[.int .i64 0,.int .i64 0]))
   go_wp2_with (first
     | (refine wpStoreF rfl rfl 31 _ _ rfl g9 0 rfl #[.int .i64 sl,.int .i64 sh] rfl _ _ (iC [sl,sh]) (HF10.out.get 3 rfl) rfl (by show 0+2≤2;omega) (one_all rfl) info_span ?_;intro w11 hk ho;clear hw9 hg9;have HF12:=Lib.hid (HF10.out.only 3 rfl ho hk);clear ho hk)
     | (refine wpStoreF rfl rfl 31 _ _ rfl qb 0 rfl #[.int .i64 0,.int .i64 0] rfl _ _ (iC [0,0]) (HF12.out.get 0 rfl) rfl (by show 0+2≤2;omega) (one_all rfl) info_span ?_;intro w13 hk ho;have HF14:=Lib.hid (HF12.out.only 0 rfl ho hk);clear ho hk))
   refine ret_agg2 rfl rfl rfl (HF14.out.get 0 rfl) rfl und_span rfl info_span ?_
   exact HFIN.out _ _ _ _ rfl HF14.out.drop

theorem und_34:Tryz.prog.underlying 34=some (.array (match Tryz.prog.underlying 34 with | some (.array n _)=>n | _=>0) (match Tryz.prog.underlying 34 with | some (.array _ e)=>e | _=>0)):=by kernel_rfl
theorem info_34:(Tryz.prog.info? 34).map (·.size)=some 6:=by kernel_rfl
theorem und_208:Tryz.prog.underlying 208=some (.array (match Tryz.prog.underlying 208 with | some (.array n _)=>n | _=>0) (match Tryz.prog.underlying 208 with | some (.array _ e)=>e | _=>0)):=by kernel_rfl
theorem info_208:(Tryz.prog.info? 208).map (·.size)=some 12:=by kernel_rfl
theorem und_36:Tryz.prog.underlying 36=some (.struct (match Tryz.prog.underlying 36 with | some (.struct f)=>f | _=>#[])):=by kernel_rfl
theorem info_36:(Tryz.prog.info? 36).map (·.size)=some 14:=by kernel_rfl
theorem und_46:Tryz.prog.underlying 46=some (.struct (match Tryz.prog.underlying 46 with | some (.struct f)=>f | _=>#[])):=by kernel_rfl
theorem info_46:(Tryz.prog.info? 46).map (·.size)=some 15:=by kernel_rfl
theorem und_160:Tryz.prog.underlying 160=some (.struct (match Tryz.prog.underlying 160 with | some (.struct f)=>f | _=>#[])):=by kernel_rfl
theorem info_160:(Tryz.prog.info? 160).map (·.size)=some 29:=by kernel_rfl
theorem und_38:Tryz.prog.underlying 38=some (.struct (match Tryz.prog.underlying 38 with | some (.struct f)=>f | _=>#[])):=by kernel_rfl
theorem info_38:(Tryz.prog.info? 38).map (·.size)=some 15:=by kernel_rfl
theorem und_58:Tryz.prog.underlying 58=some (.struct (match Tryz.prog.underlying 58 with | some (.struct f)=>f | _=>#[])):=by kernel_rfl
theorem info_58:(Tryz.prog.info? 58).map (·.size)=some 16:=by kernel_rfl
def boxV (b:BoxD):Value:=.agg #[.int .i64 b.x.lo,.int .i64 b.x.hi,.int .i64 b.y.lo,.int .i64 b.y.hi,.int .i64 b.z.lo,.int .i64 b.z.hi]
def sixV (x:SixD):Value:=.agg #[.int .i64 x.p.x.lo,.int .i64 x.p.x.hi,.int .i64 x.p.y.lo,.int .i64 x.p.y.hi,.int .i64 x.p.z.lo,.int .i64 x.p.z.hi,.int .i64 x.v.x.lo,.int .i64 x.v.x.hi,.int .i64 x.v.y.lo,.int .i64 x.v.y.hi,.int .i64 x.v.z.lo,.int .i64 x.v.z.hi]
def planetV (p:PlanetD):Value:=.agg #[.int .i64 p.mu.lo,.int .i64 p.mu.hi,.int .i64 p.radius.lo,.int .i64 p.radius.hi,.int .i64 p.oblate.lo,.int .i64 p.oblate.hi,.int .i64 p.spin.lo,.int .i64 p.spin.hi,.int .i64 p.pull.x.lo,.int .i64 p.pull.x.hi,.int .i64 p.pull.y.lo,.int .i64 p.pull.y.hi,.int .i64 p.pull.z.lo,.int .i64 p.pull.z.hi]
def stateV (s:StateD):Value:=.agg #[.int .i64 s.t,.int .i64 s.p.x.lo,.int .i64 s.p.x.hi,.int .i64 s.p.y.lo,.int .i64 s.p.y.hi,.int .i64 s.p.z.lo,.int .i64 s.p.z.hi,.int .i64 s.v.x.lo,.int .i64 s.v.x.hi,.int .i64 s.v.y.lo,.int .i64 s.v.y.hi,.int .i64 s.v.z.lo,.int .i64 s.v.z.hi,.int .i64 s.m.lo,.int .i64 s.m.hi]
def tubeV (s:TubeD):Value:=.agg #[.int .i64 s.frm,.int .i64 s.to,.int .i64 s.p.x.lo,.int .i64 s.p.x.hi,.int .i64 s.p.y.lo,.int .i64 s.p.y.hi,.int .i64 s.p.z.lo,.int .i64 s.p.z.hi,.int .i64 s.v.x.lo,.int .i64 s.v.x.hi,.int .i64 s.v.y.lo,.int .i64 s.v.y.hi,.int .i64 s.v.z.lo,.int .i64 s.v.z.hi,.int .i64 s.m.lo,.int .i64 s.m.hi]
/-- An arc's cells, its table of drag at the address A. -/
def arcV (a:ArcD) (A:Option Addr) (n c:Nat):Value:=.agg #[.int .i64 a.time,.int .i64 a.step,.int .i64 a.thrust.lo,.int .i64 a.thrust.hi,.int .i64 a.flow.lo,.int .i64 a.flow.hi,.int .i64 a.dir.x.lo,.int .i64 a.dir.x.hi,.int .i64 a.dir.y.lo,.int .i64 a.dir.y.hi,.int .i64 a.dir.z.lo,.int .i64 a.dir.z.hi,.slice A n c,.int .i64 a.drop.lo,.int .i64 a.drop.hi]
def WdB (b:BoxD):Prop:=WdS b.x∧WdS b.y∧WdS b.z
def WdX (x:SixD):Prop:=WdB x.p∧WdB x.v
/-- A call of a method that is a value. -/
theorem wpo_callM {P:Program} {o:Oper} {a:Act} {w:World} {K:Act→World→Prop} {Q:Exit→Act→World→Prop} (f:Nat) (first:Array Value) (x:Operand) (xs:Array Operand) (ts:Array TypeId) (ho:o.op=.call { callee:=.value x,args:=xs,argTypes:=ts }) (hv:a.eval x=.func (.func f) first #[]) (vs:Array Value) (hx:xs.map a.eval=vs)
  (eg:∀ args w,(callFunc f args).run P w=.ok (.enter f args) w) (h:Calls P f (first ++ vs) w fun e w'=>∃ v,e=.returned v∧K (a.put o.dst v) w'):o.wp P a w K Q:=by
 unfold Oper.wp execOp
 simp only [ho,resolve,hx,hv,Deferred.ofValue,Sem.run_bind,Sem.run_pure,Result.andThen_ok,invoke]
 simp [eg,Oper.upon]
 refine h.mono ?_
 rintro e w' ⟨v,rfl,hk⟩
 exact hk
/-- What a calculation answers. -/
def CkPost (cb:Nat) (r:SpanD × Int) (w:World) (e:Ending) (w':World):Prop:=e=.returned (spanV r.1)∧Fr w [(cb,153,#[.int .i64 r.2])] [] w'
def CkBox (cb:Nat) (r:BoxD × Int) (w:World) (e:Ending) (w':World):Prop:=e=.returned (boxV r.1)∧Fr w [(cb,153,#[.int .i64 r.2])] [] w'
def CkSix (cb:Nat) (r:SixD × Int) (w:World) (e:Ending) (w':World):Prop:=e=.returned (sixV r.1)∧Fr w [(cb,153,#[.int .i64 r.2])] [] w'
theorem wd_do {f:SpanD→SpanD→SpanD × Int} (hf:∀ a b,WdS (f a b).1) (a b:SpanD) (e:Int):WdS (doM f a b e).1:=by
 unfold doM;split
 ·exact hf a b
 ·exact wd_zero
theorem wd_keep {r:SpanD × Int} (h:WdS r.1) (e:Int):WdS (keepM r e).1:=by
 unfold keepM;split
 ·exact h
 ·exact wd_zero
theorem wd_root (a:SpanD) (ha:WdS a):WdS (rootB a).1:=by
 unfold rootB
 split
 ·split
  ·exact wd_zero
  ·have h1:=rootN_lt (n:=(max a.lo 0).toNat) (by unfold WdS at ha;omega)
   have h2:=rootN_lt (n:=a.hi.toNat) (by unfold WdS at ha;omega)
   unfold WdS;dsimp only
   split <;> omega
 ·exact wd_zero
theorem wd_norm (l:List SpanD):WdS (normB l).1:=by
 unfold normB
 split
 ·exact wd_zero
 ·split
  ·split
   ·exact wd_root _ (wd_sqs l)
   ·exact wd_zero
  ·exact wd_zero
def normM (b:BoxD):CM SpanD:=keepM (normB [b.x,b.y,b.z])
/-- The struct 'zero' beside a span. -/
theorem eql_span (lo hi:Int) (w:World):(binOp .eql 31 (.agg #[.int .i64 lo,.int .i64 hi]) (.agg #[.int .i64 0,.int .i64 0])).run Tryz.prog w=.ok (.bool ((lo == 0) && (hi == 0))) w:=by
 rw [run_eql_struct,run_equalIn_struct w 9999 _ _ _ (by kernel_rfl) (by kernel_rfl)]
 go_simp
 by_cases h1:lo=0 <;> by_cases h2:hi=0 <;> simp [h1,h2]
theorem zeroS_any (a:SpanD) (w:World):Calls Tryz.prog 165 #[spanV a] w fun e w'=>e=.returned (.bool (decide (a=zeroS)))∧Below w.heap.size w w':=by
 obtain ⟨lo,hi⟩:=a
 have hd:decide ((⟨lo,hi⟩:SpanD)=zeroS)=((lo == 0) && (hi == 0)):=by
  unfold zeroS
  rw [Bool.eq_iff_iff]
  simp
 rw [hd]
 have he:=fun w=>eql_span lo hi w
 unfold spanV
 dsimp only
 go_enter Tryz.func165,Tryz.ntmps165
 go_wp2_with fail
 go_ret
 exact ⟨rfl,(Below.refl _ w).alloc (Nat.le_refl _) _⟩
theorem fvalid_any (n:Int) (w:World):Calls Tryz.prog 61 #[.int .i64 n] w fun e w'=>e=.returned (.bool (numB n))∧w'=w:=by
 have HR:Hid (numB n=decide (-9223372036854775807≤n)):=Lib.hid rfl
 go_enter Tryz.func61,Tryz.ntmps61
 go_wp2_with fail
 go_ret
 exact ⟨ret_bool HR.out.symm,rfl⟩
theorem point_any (n:Int) (w:World):Calls Tryz.prog 117 #[.int .i64 n] w fun e w'=>e=.returned (.agg #[.int .i64 n,.int .i64 n])∧Below w.heap.size w w':=by
 go_enter Tryz.func117,Tryz.ntmps117
 go_wp2_with fail
 exact ret_agg rfl rfl rfl (Bk.new _ _ _) und_span rfl info_span ⟨rfl,(Below.refl _ w).alloc (Nat.le_refl _) _⟩
theorem whole_any (n:Int) (hn:-2147483648≤n∧n≤2147483647) (w:World):Calls Tryz.prog 123 #[.int .i64 n] w fun e w'=>e=.returned (.agg #[.int .i64 (n * 4294967296),.int .i64 (n * 4294967296)])∧Below w.heap.size w w':=by
 have m1:IntKind.i64.wrap (n * 4294967296)=n * 4294967296:=IntWalk.i64_in _ (by omega)
 have m2:wrap64 (n * 4294967296)=n * 4294967296:=w64_in (by omega) (by omega)
 obtain ⟨q,hq⟩:∃ q,n * 4294967296=q:=⟨_,rfl⟩
 rw [hq] at m1 m2 ⊢
 have H1:=Lib.hid (fun w=>point_any q w)
 obtain ⟨qb,hqb⟩:∃ qb,w.heap.size=qb:=⟨_,rfl⟩
 obtain ⟨W0,hW0⟩:∃ W0,w.alloc (.cells #[.int .i64 0,.int .i64 0] 31)=W0:=⟨_,rfl⟩
 have HF0:Hid (Fr w [] [(qb,31,#[.int .i64 0,.int .i64 0])] W0):=Lib.hid (by rw [← hW0];exact (Fr.start w).alloc (by simp [← hqb]) 31 #[.int .i64 0,.int .i64 0])
 have HFIN:Hid (∀ w',Fr w [] [] w'→Below w.heap.size w w'):=Lib.hid fun w' h=>h.toBelow
 clear hn
 go_enter Tryz.func123,Tryz.ntmps123
 go_upto_region 1 with (fail)
 clear hW0 hqb
 go_wp2_with fail
 refine (H1.out _).mono ?_
 rintro e w1 ⟨rfl,hw⟩
 have HF1:=Lib.hid (HF0.out.below hw)
 clear hw
 go_wp2_with (refine wpStoreAt rfl rfl 31 _ _ rfl qb 0 rfl #[.int .i64 q,.int .i64 q] rfl 31 #[.int .i64 0,.int .i64 0] (HF1.out.get 0 rfl) (by show 0+2≤2;omega) (one_all rfl) info_span ?_;intro w2 hk ho;have HF2:=Lib.hid (HF1.out.only 0 rfl ho hk))
 exact ret_agg rfl rfl rfl (HF2.out.get 0 rfl) und_span rfl info_span ⟨rfl,HFIN.out _ HF2.out.drop⟩

theorem cdo_any (cb:Nat) (e:Int) (fid:Nat) (op:SpanD→SpanD→SpanD × Int) (hop:∀ a b w,WdS a→WdS b→Calls Tryz.prog fid #[spanV a,spanV b] w (SpPost (op a b) w.heap.size w)) (hen:∀ args w,(callFunc fid args).run Tryz.prog w=.ok (.enter fid args) w)
  (a b:SpanD) (ha:WdS a) (hb:WdS b) (w:World) (hk:Bk w cb 153 #[.int .i64 e]):Calls Tryz.prog 112 #[.pointer (some ⟨cb,0,none⟩),.func (.func fid) #[] #[],spanV a,spanV b] w (CkPost cb (doM op a b e) w):=by
 have HOP:=Lib.hid (fun w=>hop a b w ha hb)
 have HFIN:Hid (∀ w',Fr w [(cb,153,#[.int .i64 (doM op a b e).2])] [] w'→CkPost cb (doM op a b e) w (.returned (.agg #[.int .i64 (doM op a b e).1.lo,.int .i64 (doM op a b e).1.hi])) w'):=Lib.hid fun w' h=>⟨rfl,h⟩
 have HKC:=Lib.hid hk
 by_cases he:e=0
 ·subst he
  have hs:doM op a b 0=op a b:=if_pos rfl
  rw [hs] at HFIN ⊢
  obtain ⟨⟨⟨rl,rh⟩,re⟩,hr⟩:∃ z,op a b=z:=⟨_,rfl⟩
  rw [hr] at HOP HFIN ⊢
  obtain ⟨al,ah⟩:=a
  obtain ⟨bl,bh⟩:=b
  clear hs hr ha hb hop
  unfold SpPost spanV at HOP
  unfold spanV
  dsimp only at HOP HFIN ⊢
  obtain ⟨qb,hqb⟩:∃ qb,w.heap.size=qb:=⟨_,rfl⟩
  obtain ⟨W0,hW0⟩:∃ W0,((w.alloc (.cells #[.int .i64 al,.int .i64 ah] 31)).alloc (.cells #[.int .i64 bl,.int .i64 bh] 31)).alloc (.cells #[.int .i64 0,.int .i64 0] 31)=W0:=⟨_,rfl⟩
  have HF0:Hid (Fr w [(cb,153,iC [0])] [(qb,31,iC [al,ah]),(qb+1,31,iC [bl,bh]),(qb+1+1,31,iC [0,0])] W0):=Lib.hid (by rw [← hW0];exact (((Fr.start1 HKC.out).alloc (by simp [← hqb]) 31 #[.int .i64 al,.int .i64 ah]).alloc (by simp [← hqb]) 31 #[.int .i64 bl,.int .i64 bh]).alloc (by simp [← hqb]) 31 #[.int .i64 0,.int .i64 0])
  clear hk
  go_enter Tryz.func112,Tryz.ntmps112
  go_upto_region 1 with (fail)
  clear hW0 hqb
  have c1:W0.cell? ⟨cb,0,none⟩=some (.int .i64 0):=(HF0.out.getO 0 rfl).cell 0
  obtain ⟨g2,hg2⟩:∃ g,W0.heap.size=g:=⟨_,rfl⟩
  obtain ⟨w2,hw2⟩:∃ u,W0.alloc (.cells #[.int .i64 0,.int .i64 0] 31)=u:=⟨_,rfl⟩
  have HF3:=Lib.hid (frE hw2 (HF0.out.alloc hg2.symm 31 #[.int .i64 0,.int .i64 0]))
  go_wp2_with (first
    | (refine wpLoadF rfl 31 _ rfl qb 0 rfl _ _ (HF3.out.get 0 rfl) #[.int .i64 al,.int .i64 ah] rfl _ und_span rfl info_span ?_)
    | (refine wpLoadF rfl 31 _ rfl (qb+1) 0 rfl _ _ (HF3.out.get 1 rfl) #[.int .i64 bl,.int .i64 bh] rfl _ und_span rfl info_span ?_)
    | (refine wpCallV rfl fid  _ _ _ rfl rfl #[.agg #[.int .i64 al,.int .i64 ah],.agg #[.int .i64 bl,.int .i64 bh]] rfl hen ?_))
  clear c1 hw2 hg2
  refine (HOP.out _).mono ?_
  rintro e w4 ⟨rfl,hw⟩
  have HF5:=Lib.hid (HF3.out.below hw)
  clear hw
  go_wp2_with (first
    | (refine wpStoreF rfl rfl 31 _ _ rfl g2 0 rfl #[.int .i64 rl,.int .i64 rh] rfl _ _ (iC [rl,rh]) (HF5.out.get 3 rfl) rfl (by show 0+2≤2;omega) (one_all rfl) info_span ?_;intro w6 hk ho;have HF7:=Lib.hid (HF5.out.only 3 rfl ho hk);clear ho hk)
    | (refine wpLoadF rfl 31 _ rfl g2 0 rfl _ _ (HF9.out.get 3 rfl) #[.int .i64 rl,.int .i64 rh] rfl _ und_span rfl info_span ?_)
    | (refine wpStoreCell rfl rfl 41 _ _ rfl cb 0 rfl (.int .i64 re) rfl _ _ (HF7.out.getO 0 rfl) (by show 0<1;omega) rfl (by kernel_rfl) ?_;intro w8 hk ho;have HF9:=Lib.hid (HF7.out.onlyO 0 rfl ho hk);clear ho hk)
    | (refine wpStoreF rfl rfl 31 _ _ rfl (qb+1+1) 0 rfl #[.int .i64 rl,.int .i64 rh] rfl _ _ (iC [rl,rh]) (HF9.out.get 2 rfl) rfl (by show 0+2≤2;omega) (one_all rfl) info_span ?_;intro w10 hk ho;have HF11:=Lib.hid (HF9.out.only 2 rfl ho hk);clear ho hk))
  refine ret_agg rfl rfl rfl (HF11.out.get 2 rfl) und_span rfl info_span ?_
  exact HFIN.out _ HF11.out.drop
 ·have hs:doM op a b e=(zeroS,e):=if_neg he
  rw [hs] at HFIN ⊢
  have hb2:(e == 0)=false:=by simpa using he
  obtain ⟨al,ah⟩:=a
  obtain ⟨bl,bh⟩:=b
  clear hs ha hb hop he HOP
  unfold spanV
  dsimp only [zeroS] at HFIN ⊢
  obtain ⟨qb,hqb⟩:∃ qb,w.heap.size=qb:=⟨_,rfl⟩
  obtain ⟨W0,hW0⟩:∃ W0,((w.alloc (.cells #[.int .i64 al,.int .i64 ah] 31)).alloc (.cells #[.int .i64 bl,.int .i64 bh] 31)).alloc (.cells #[.int .i64 0,.int .i64 0] 31)=W0:=⟨_,rfl⟩
  have HF0:Hid (Fr w [(cb,153,iC [e])] [(qb,31,iC [al,ah]),(qb+1,31,iC [bl,bh]),(qb+1+1,31,iC [0,0])] W0):=Lib.hid (by rw [← hW0];exact (((Fr.start1 HKC.out).alloc (by simp [← hqb]) 31 #[.int .i64 al,.int .i64 ah]).alloc (by simp [← hqb]) 31 #[.int .i64 bl,.int .i64 bh]).alloc (by simp [← hqb]) 31 #[.int .i64 0,.int .i64 0])
  clear hk
  go_enter Tryz.func112,Tryz.ntmps112
  go_upto_region 1 with (fail)
  clear hW0 hqb
  have c1:W0.cell? ⟨cb,0,none⟩=some (.int .i64 e):=(HF0.out.getO 0 rfl).cell 0
  go_wp2_with (refine wpStoreF rfl rfl 31 _ _ rfl (qb+1+1) 0 rfl #[.int .i64 0,.int .i64 0] rfl _ _ (iC [0,0]) (HF0.out.get 2 rfl) rfl (by show 0+2≤2;omega) (one_all rfl) info_span ?_;intro w2 hk ho;clear c1;have HF3:=Lib.hid (HF0.out.only 2 rfl ho hk);clear ho hk)
  refine ret_agg rfl rfl rfl (HF3.out.get 2 rfl) und_span rfl info_span ?_
  exact HFIN.out _ HF3.out.drop
theorem ckeep_any (cb:Nat) (e:Int) (r:SpanD × Int) (w:World) (hk:Bk w cb 153 #[.int .i64 e]):Calls Tryz.prog 113 #[.pointer (some ⟨cb,0,none⟩),spanV r.1,.int .i64 r.2] w (CkPost cb (keepM r e) w):=by
 have HFIN:Hid (∀ w',Fr w [(cb,153,#[.int .i64 (keepM r e).2])] [] w'→CkPost cb (keepM r e) w (.returned (.agg #[.int .i64 (keepM r e).1.lo,.int .i64 (keepM r e).1.hi])) w'):=Lib.hid fun w' h=>⟨rfl,h⟩
 have HKC:=Lib.hid hk
 obtain ⟨⟨rl,rh⟩,re⟩:=r
 by_cases he:e=0
 ·subst he
  have hs:keepM (⟨rl,rh⟩,re) 0=(⟨rl,rh⟩,re):=if_pos rfl
  rw [hs] at HFIN ⊢
  clear hs
  unfold spanV
  dsimp only at HFIN ⊢
  obtain ⟨qb,hqb⟩:∃ qb,w.heap.size=qb:=⟨_,rfl⟩
  obtain ⟨W0,hW0⟩:∃ W0,(w.alloc (.cells #[.int .i64 rl,.int .i64 rh] 31)).alloc (.cells #[.int .i64 0,.int .i64 0] 31)=W0:=⟨_,rfl⟩
  have HF0:Hid (Fr w [(cb,153,iC [0])] [(qb,31,iC [rl,rh]),(qb+1,31,iC [0,0])] W0):=Lib.hid (by rw [← hW0];exact ((Fr.start1 HKC.out).alloc (by simp [← hqb]) 31 #[.int .i64 rl,.int .i64 rh]).alloc (by simp [← hqb]) 31 #[.int .i64 0,.int .i64 0])
  clear hk
  go_enter Tryz.func113,Tryz.ntmps113
  go_upto_region 1 with (fail)
  clear hW0 hqb
  have c1:W0.cell? ⟨cb,0,none⟩=some (.int .i64 0):=(HF0.out.getO 0 rfl).cell 0
  go_wp2_with (first
    | (refine wpLoadF rfl 31 _ rfl qb 0 rfl _ _ (HF3.out.get 0 rfl) #[.int .i64 rl,.int .i64 rh] rfl _ und_span rfl info_span ?_)
    | (refine wpStoreCell rfl rfl 41 _ _ rfl cb 0 rfl (.int .i64 re) rfl _ _ (HF0.out.getO 0 rfl) (by show 0<1;omega) rfl (by kernel_rfl) ?_;intro w2 hk ho;clear c1;have HF3:=Lib.hid (HF0.out.onlyO 0 rfl ho hk);clear ho hk)
    | (refine wpStoreF rfl rfl 31 _ _ rfl (qb+1) 0 rfl #[.int .i64 rl,.int .i64 rh] rfl _ _ (iC [rl,rh]) (HF3.out.get 1 rfl) rfl (by show 0+2≤2;omega) (one_all rfl) info_span ?_;intro w4 hk ho;have HF5:=Lib.hid (HF3.out.only 1 rfl ho hk);clear ho hk))
  refine ret_agg rfl rfl rfl (HF5.out.get 1 rfl) und_span rfl info_span ?_
  exact HFIN.out _ HF5.out.drop
 ·have hs:keepM (⟨rl,rh⟩,re) e=(zeroS,e):=if_neg he
  rw [hs] at HFIN ⊢
  have hb2:(e == 0)=false:=by simpa using he
  clear hs he
  unfold spanV
  dsimp only [zeroS] at HFIN ⊢
  obtain ⟨qb,hqb⟩:∃ qb,w.heap.size=qb:=⟨_,rfl⟩
  obtain ⟨W0,hW0⟩:∃ W0,(w.alloc (.cells #[.int .i64 rl,.int .i64 rh] 31)).alloc (.cells #[.int .i64 0,.int .i64 0] 31)=W0:=⟨_,rfl⟩
  have HF0:Hid (Fr w [(cb,153,iC [e])] [(qb,31,iC [rl,rh]),(qb+1,31,iC [0,0])] W0):=Lib.hid (by rw [← hW0];exact ((Fr.start1 HKC.out).alloc (by simp [← hqb]) 31 #[.int .i64 rl,.int .i64 rh]).alloc (by simp [← hqb]) 31 #[.int .i64 0,.int .i64 0])
  clear hk
  go_enter Tryz.func113,Tryz.ntmps113
  go_upto_region 1 with (fail)
  clear hW0 hqb
  have c1:W0.cell? ⟨cb,0,none⟩=some (.int .i64 e):=(HF0.out.getO 0 rfl).cell 0
  go_wp2_with (refine wpStoreF rfl rfl 31 _ _ rfl (qb+1) 0 rfl #[.int .i64 0,.int .i64 0] rfl _ _ (iC [0,0]) (HF0.out.get 1 rfl) rfl (by show 0+2≤2;omega) (one_all rfl) info_span ?_;intro w2 hk ho;clear c1;have HF3:=Lib.hid (HF0.out.only 1 rfl ho hk);clear ho hk)
  refine ret_agg rfl rfl rfl (HF3.out.get 1 rfl) und_span rfl info_span ?_
  exact HFIN.out _ HF3.out.drop
theorem cadd_any (cb:Nat) (e:Int) (a b:SpanD) (ha:WdS a) (hb:WdS b) (w:World) (hk:Bk w cb 153 #[.int .i64 e]):Calls Tryz.prog 116 #[.pointer (some ⟨cb,0,none⟩),spanV a,spanV b] w (CkPost cb (addM a b e) w):=by
 have HDO:Hid (∀ w,Bk w cb 153 #[.int .i64 e]→Calls Tryz.prog 112 #[.pointer (some ⟨cb,0,none⟩),.func (.func 65) #[] #[],spanV a,spanV b] w (CkPost cb (addM a b e) w)):=Lib.hid fun w hk=>cdo_any cb e 65 _ (fun a b w ha hb=>add_any a b ha hb w) (fun args w=>by kernel_rfl) a b ha hb w hk
 have HFIN:Hid (∀ w',Fr w [(cb,153,#[.int .i64 (addM a b e).2])] [] w'→CkPost cb (addM a b e) w (.returned (.agg #[.int .i64 (addM a b e).1.lo,.int .i64 (addM a b e).1.hi])) w'):=Lib.hid fun w' h=>⟨rfl,h⟩
 have HKC:=Lib.hid hk
 obtain ⟨⟨⟨rl,rh⟩,re⟩,hr⟩:∃ z,addM a b e=z:=⟨_,rfl⟩
 rw [hr] at HDO HFIN ⊢
 obtain ⟨al,ah⟩:=a
 obtain ⟨bl,bh⟩:=b
 clear hr ha hb
 unfold CkPost spanV at HDO
 unfold spanV
 dsimp only at HDO HFIN ⊢
 obtain ⟨qb,hqb⟩:∃ qb,w.heap.size=qb:=⟨_,rfl⟩
 obtain ⟨W0,hW0⟩:∃ W0,((w.alloc (.cells #[.int .i64 al,.int .i64 ah] 31)).alloc (.cells #[.int .i64 bl,.int .i64 bh] 31)).alloc (.cells #[.int .i64 0,.int .i64 0] 31)=W0:=⟨_,rfl⟩
 have HF0:Hid (Fr w [(cb,153,iC [e])] [(qb,31,iC [al,ah]),(qb+1,31,iC [bl,bh]),(qb+1+1,31,iC [0,0])] W0):=Lib.hid (by rw [← hW0];exact (((Fr.start1 HKC.out).alloc (by simp [← hqb]) 31 #[.int .i64 al,.int .i64 ah]).alloc (by simp [← hqb]) 31 #[.int .i64 bl,.int .i64 bh]).alloc (by simp [← hqb]) 31 #[.int .i64 0,.int .i64 0])
 clear hk
 go_enter Tryz.func116,Tryz.ntmps116
 go_upto_region 1 with (fail)
 clear hW0 hqb
 go_wp2_with (first
   | (refine wpLoadF rfl 31 _ rfl qb 0 rfl _ _ (HF0.out.get 0 rfl) #[.int .i64 al,.int .i64 ah] rfl _ und_span rfl info_span ?_)
   | (refine wpLoadF rfl 31 _ rfl (qb+1) 0 rfl _ _ (HF0.out.get 1 rfl) #[.int .i64 bl,.int .i64 bh] rfl _ und_span rfl info_span ?_))
 refine (HDO.out _ (HF0.out.getO 0 rfl)).mono ?_
 rintro e w1 ⟨rfl,hw⟩
 have HF2:=Lib.hid (HF0.out.turnO 0 rfl hw)
 clear hw
 go_wp2_with (refine wpStoreF rfl rfl 31 _ _ rfl (qb+1+1) 0 rfl #[.int .i64 rl,.int .i64 rh] rfl _ _ (iC [rl,rh]) (HF2.out.get 2 rfl) rfl (by show 0+2≤2;omega) (one_all rfl) info_span ?_;intro w3 hk ho;have HF4:=Lib.hid (HF2.out.only 2 rfl ho hk);clear ho hk)
 refine ret_agg rfl rfl rfl (HF4.out.get 2 rfl) und_span rfl info_span ?_
 exact HFIN.out _ HF4.out.drop
theorem csub_any (cb:Nat) (e:Int) (a b:SpanD) (ha:WdS a) (hb:WdS b) (w:World) (hk:Bk w cb 153 #[.int .i64 e]):Calls Tryz.prog 57 #[.pointer (some ⟨cb,0,none⟩),spanV a,spanV b] w (CkPost cb (subM a b e) w):=by
 have HDO:Hid (∀ w,Bk w cb 153 #[.int .i64 e]→Calls Tryz.prog 112 #[.pointer (some ⟨cb,0,none⟩),.func (.func 24) #[] #[],spanV a,spanV b] w (CkPost cb (subM a b e) w)):=Lib.hid fun w hk=>cdo_any cb e 24 _ (fun a b w ha hb=>sub_any a b ha hb w) (fun args w=>by kernel_rfl) a b ha hb w hk
 have HFIN:Hid (∀ w',Fr w [(cb,153,#[.int .i64 (subM a b e).2])] [] w'→CkPost cb (subM a b e) w (.returned (.agg #[.int .i64 (subM a b e).1.lo,.int .i64 (subM a b e).1.hi])) w'):=Lib.hid fun w' h=>⟨rfl,h⟩
 have HKC:=Lib.hid hk
 obtain ⟨⟨⟨rl,rh⟩,re⟩,hr⟩:∃ z,subM a b e=z:=⟨_,rfl⟩
 rw [hr] at HDO HFIN ⊢
 obtain ⟨al,ah⟩:=a
 obtain ⟨bl,bh⟩:=b
 clear hr ha hb
 unfold CkPost spanV at HDO
 unfold spanV
 dsimp only at HDO HFIN ⊢
 obtain ⟨qb,hqb⟩:∃ qb,w.heap.size=qb:=⟨_,rfl⟩
 obtain ⟨W0,hW0⟩:∃ W0,((w.alloc (.cells #[.int .i64 al,.int .i64 ah] 31)).alloc (.cells #[.int .i64 bl,.int .i64 bh] 31)).alloc (.cells #[.int .i64 0,.int .i64 0] 31)=W0:=⟨_,rfl⟩
 have HF0:Hid (Fr w [(cb,153,iC [e])] [(qb,31,iC [al,ah]),(qb+1,31,iC [bl,bh]),(qb+1+1,31,iC [0,0])] W0):=Lib.hid (by rw [← hW0];exact (((Fr.start1 HKC.out).alloc (by simp [← hqb]) 31 #[.int .i64 al,.int .i64 ah]).alloc (by simp [← hqb]) 31 #[.int .i64 bl,.int .i64 bh]).alloc (by simp [← hqb]) 31 #[.int .i64 0,.int .i64 0])
 clear hk
 go_enter Tryz.func57,Tryz.ntmps57
 go_upto_region 1 with (fail)
 clear hW0 hqb
 go_wp2_with (first
   | (refine wpLoadF rfl 31 _ rfl qb 0 rfl _ _ (HF0.out.get 0 rfl) #[.int .i64 al,.int .i64 ah] rfl _ und_span rfl info_span ?_)
   | (refine wpLoadF rfl 31 _ rfl (qb+1) 0 rfl _ _ (HF0.out.get 1 rfl) #[.int .i64 bl,.int .i64 bh] rfl _ und_span rfl info_span ?_))
 refine (HDO.out _ (HF0.out.getO 0 rfl)).mono ?_
 rintro e w1 ⟨rfl,hw⟩
 have HF2:=Lib.hid (HF0.out.turnO 0 rfl hw)
 clear hw
 go_wp2_with (refine wpStoreF rfl rfl 31 _ _ rfl (qb+1+1) 0 rfl #[.int .i64 rl,.int .i64 rh] rfl _ _ (iC [rl,rh]) (HF2.out.get 2 rfl) rfl (by show 0+2≤2;omega) (one_all rfl) info_span ?_;intro w3 hk ho;have HF4:=Lib.hid (HF2.out.only 2 rfl ho hk);clear ho hk)
 refine ret_agg rfl rfl rfl (HF4.out.get 2 rfl) und_span rfl info_span ?_
 exact HFIN.out _ HF4.out.drop
theorem cmul_any (cb:Nat) (e:Int) (a b:SpanD) (ha:WdS a) (hb:WdS b) (w:World) (hk:Bk w cb 153 #[.int .i64 e]):Calls Tryz.prog 118 #[.pointer (some ⟨cb,0,none⟩),spanV a,spanV b] w (CkPost cb (mulM a b e) w):=by
 have HDO:Hid (∀ w,Bk w cb 153 #[.int .i64 e]→Calls Tryz.prog 112 #[.pointer (some ⟨cb,0,none⟩),.func (.func 74) #[] #[],spanV a,spanV b] w (CkPost cb (mulM a b e) w)):=Lib.hid fun w hk=>cdo_any cb e 74 _ (fun a b w ha hb=>mul_any a b ha hb w) (fun args w=>by kernel_rfl) a b ha hb w hk
 have HFIN:Hid (∀ w',Fr w [(cb,153,#[.int .i64 (mulM a b e).2])] [] w'→CkPost cb (mulM a b e) w (.returned (.agg #[.int .i64 (mulM a b e).1.lo,.int .i64 (mulM a b e).1.hi])) w'):=Lib.hid fun w' h=>⟨rfl,h⟩
 have HKC:=Lib.hid hk
 obtain ⟨⟨⟨rl,rh⟩,re⟩,hr⟩:∃ z,mulM a b e=z:=⟨_,rfl⟩
 rw [hr] at HDO HFIN ⊢
 obtain ⟨al,ah⟩:=a
 obtain ⟨bl,bh⟩:=b
 clear hr ha hb
 unfold CkPost spanV at HDO
 unfold spanV
 dsimp only at HDO HFIN ⊢
 obtain ⟨qb,hqb⟩:∃ qb,w.heap.size=qb:=⟨_,rfl⟩
 obtain ⟨W0,hW0⟩:∃ W0,((w.alloc (.cells #[.int .i64 al,.int .i64 ah] 31)).alloc (.cells #[.int .i64 bl,.int .i64 bh] 31)).alloc (.cells #[.int .i64 0,.int .i64 0] 31)=W0:=⟨_,rfl⟩
 have HF0:Hid (Fr w [(cb,153,iC [e])] [(qb,31,iC [al,ah]),(qb+1,31,iC [bl,bh]),(qb+1+1,31,iC [0,0])] W0):=Lib.hid (by rw [← hW0];exact (((Fr.start1 HKC.out).alloc (by simp [← hqb]) 31 #[.int .i64 al,.int .i64 ah]).alloc (by simp [← hqb]) 31 #[.int .i64 bl,.int .i64 bh]).alloc (by simp [← hqb]) 31 #[.int .i64 0,.int .i64 0])
 clear hk
 go_enter Tryz.func118,Tryz.ntmps118
 go_upto_region 1 with (fail)
 clear hW0 hqb
 go_wp2_with (first
   | (refine wpLoadF rfl 31 _ rfl qb 0 rfl _ _ (HF0.out.get 0 rfl) #[.int .i64 al,.int .i64 ah] rfl _ und_span rfl info_span ?_)
   | (refine wpLoadF rfl 31 _ rfl (qb+1) 0 rfl _ _ (HF0.out.get 1 rfl) #[.int .i64 bl,.int .i64 bh] rfl _ und_span rfl info_span ?_))
 refine (HDO.out _ (HF0.out.getO 0 rfl)).mono ?_
 rintro e w1 ⟨rfl,hw⟩
 have HF2:=Lib.hid (HF0.out.turnO 0 rfl hw)
 clear hw
 go_wp2_with (refine wpStoreF rfl rfl 31 _ _ rfl (qb+1+1) 0 rfl #[.int .i64 rl,.int .i64 rh] rfl _ _ (iC [rl,rh]) (HF2.out.get 2 rfl) rfl (by show 0+2≤2;omega) (one_all rfl) info_span ?_;intro w3 hk ho;have HF4:=Lib.hid (HF2.out.only 2 rfl ho hk);clear ho hk)
 refine ret_agg rfl rfl rfl (HF4.out.get 2 rfl) und_span rfl info_span ?_
 exact HFIN.out _ HF4.out.drop
theorem cdiv_any (cb:Nat) (e:Int) (a b:SpanD) (ha:WdS a) (hb:WdS b) (w:World) (hk:Bk w cb 153 #[.int .i64 e]):Calls Tryz.prog 122 #[.pointer (some ⟨cb,0,none⟩),spanV a,spanV b] w (CkPost cb (divM a b e) w):=by
 have HDO:Hid (∀ w,Bk w cb 153 #[.int .i64 e]→Calls Tryz.prog 112 #[.pointer (some ⟨cb,0,none⟩),.func (.func 110) #[] #[],spanV a,spanV b] w (CkPost cb (divM a b e) w)):=Lib.hid fun w hk=>cdo_any cb e 110 _ (fun a b w ha hb=>div_any a b ha hb w) (fun args w=>by kernel_rfl) a b ha hb w hk
 have HFIN:Hid (∀ w',Fr w [(cb,153,#[.int .i64 (divM a b e).2])] [] w'→CkPost cb (divM a b e) w (.returned (.agg #[.int .i64 (divM a b e).1.lo,.int .i64 (divM a b e).1.hi])) w'):=Lib.hid fun w' h=>⟨rfl,h⟩
 have HKC:=Lib.hid hk
 obtain ⟨⟨⟨rl,rh⟩,re⟩,hr⟩:∃ z,divM a b e=z:=⟨_,rfl⟩
 rw [hr] at HDO HFIN ⊢
 obtain ⟨al,ah⟩:=a
 obtain ⟨bl,bh⟩:=b
 clear hr ha hb
 unfold CkPost spanV at HDO
 unfold spanV
 dsimp only at HDO HFIN ⊢
 obtain ⟨qb,hqb⟩:∃ qb,w.heap.size=qb:=⟨_,rfl⟩
 obtain ⟨W0,hW0⟩:∃ W0,((w.alloc (.cells #[.int .i64 al,.int .i64 ah] 31)).alloc (.cells #[.int .i64 bl,.int .i64 bh] 31)).alloc (.cells #[.int .i64 0,.int .i64 0] 31)=W0:=⟨_,rfl⟩
 have HF0:Hid (Fr w [(cb,153,iC [e])] [(qb,31,iC [al,ah]),(qb+1,31,iC [bl,bh]),(qb+1+1,31,iC [0,0])] W0):=Lib.hid (by rw [← hW0];exact (((Fr.start1 HKC.out).alloc (by simp [← hqb]) 31 #[.int .i64 al,.int .i64 ah]).alloc (by simp [← hqb]) 31 #[.int .i64 bl,.int .i64 bh]).alloc (by simp [← hqb]) 31 #[.int .i64 0,.int .i64 0])
 clear hk
 go_enter Tryz.func122,Tryz.ntmps122
 go_upto_region 1 with (fail)
 clear hW0 hqb
 go_wp2_with (first
   | (refine wpLoadF rfl 31 _ rfl qb 0 rfl _ _ (HF0.out.get 0 rfl) #[.int .i64 al,.int .i64 ah] rfl _ und_span rfl info_span ?_)
   | (refine wpLoadF rfl 31 _ rfl (qb+1) 0 rfl _ _ (HF0.out.get 1 rfl) #[.int .i64 bl,.int .i64 bh] rfl _ und_span rfl info_span ?_))
 refine (HDO.out _ (HF0.out.getO 0 rfl)).mono ?_
 rintro e w1 ⟨rfl,hw⟩
 have HF2:=Lib.hid (HF0.out.turnO 0 rfl hw)
 clear hw
 go_wp2_with (refine wpStoreF rfl rfl 31 _ _ rfl (qb+1+1) 0 rfl #[.int .i64 rl,.int .i64 rh] rfl _ _ (iC [rl,rh]) (HF2.out.get 2 rfl) rfl (by show 0+2≤2;omega) (one_all rfl) info_span ?_;intro w3 hk ho;have HF4:=Lib.hid (HF2.out.only 2 rfl ho hk);clear ho hk)
 refine ret_agg rfl rfl rfl (HF4.out.get 2 rfl) und_span rfl info_span ?_
 exact HFIN.out _ HF4.out.drop
/-- Norm of a box that lies in memory. -/
theorem normBox_any (b:BoxD) (hb:WdB b) (w:World) (g:Nat) (t:TypeId) (hk:Bk w g t #[.int .i64 b.x.lo,.int .i64 b.x.hi,.int .i64 b.y.lo,.int .i64 b.y.hi,.int .i64 b.z.lo,.int .i64 b.z.hi]) :
  Calls Tryz.prog 114 #[.slice (some ⟨g,0,none⟩) 3 3] w (SpPost (normB [b.x,b.y,b.z]) w.heap.size w) :=
 norm_any w g 0 3 3 (fun i=>match i with | 0=>b.x | 1=>b.y | _=>b.z) ⟨by omega,fun _=>⟨g,0,rfl,hk.lt,fun i hi j hj=>by
  match i,j,hi,hj with
  | 0,0,_,_=>exact hk.cell 0
  | 0,1,_,_=>exact hk.cell 1
  | 1,0,_,_=>exact hk.cell 2
  | 1,1,_,_=>exact hk.cell 3
  | 2,0,_,_=>exact hk.cell 4
  | 2,1,_,_=>exact hk.cell 5⟩⟩ (by omega) (by omega) (fun i hi=>by
  match i,hi with
  | 0,_=>exact hb.1
  | 1,_=>exact hb.2.1
  | 2,_=>exact hb.2.2)
theorem cnorm_any (cb:Nat) (e:Int) (b:BoxD) (hb:WdB b) (w:World) (hk:Bk w cb 153 #[.int .i64 e]):Calls Tryz.prog 58 #[.pointer (some ⟨cb,0,none⟩),boxV b] w (CkPost cb (normM b e) w):=by
 have H1:=Lib.hid (fun w g hk=>normBox_any b hb w g 34 hk)
 obtain ⟨r1,hr1⟩:∃ r,normB [b.x,b.y,b.z]=r:=⟨_,rfl⟩
 have HKP:Hid (∀ w,Bk w cb 153 #[.int .i64 e]→Calls Tryz.prog 113 #[.pointer (some ⟨cb,0,none⟩),spanV r1.1,.int .i64 r1.2] w (CkPost cb (keepM r1 e) w)):=Lib.hid fun w hk=>ckeep_any cb e r1 w hk
 have hs:normM b e=keepM r1 e:=by rw [← hr1];rfl
 rw [hs]
 rw [hr1] at H1
 have HFIN:Hid (∀ w',Fr w [(cb,153,#[.int .i64 (keepM r1 e).2])] [] w'→CkPost cb (keepM r1 e) w (.returned (.agg #[.int .i64 (keepM r1 e).1.lo,.int .i64 (keepM r1 e).1.hi])) w'):=Lib.hid fun w' h=>⟨rfl,h⟩
 have HKC:=Lib.hid hk
 obtain ⟨⟨⟨rl,rh⟩,re⟩,hr⟩:∃ z,keepM r1 e=z:=⟨_,rfl⟩
 rw [hr] at HKP HFIN ⊢
 obtain ⟨⟨ul,uh⟩,ue⟩:=r1
 obtain ⟨⟨xl,xh⟩,⟨yl,yh⟩,⟨zl,zh⟩⟩:=b
 clear hr hr1 hs hb
 unfold SpPost spanV at H1
 unfold CkPost spanV at HKP
 unfold boxV
 dsimp only at H1 HKP HFIN ⊢
 obtain ⟨qb,hqb⟩:∃ qb,w.heap.size=qb:=⟨_,rfl⟩
 obtain ⟨W0,hW0⟩:∃ W0,(w.alloc (.cells #[.int .i64 xl,.int .i64 xh,.int .i64 yl,.int .i64 yh,.int .i64 zl,.int .i64 zh] 34)).alloc (.cells #[.int .i64 0,.int .i64 0] 31)=W0:=⟨_,rfl⟩
 have HF0:Hid (Fr w [(cb,153,iC [e])] [(qb,34,iC [xl,xh,yl,yh,zl,zh]),(qb+1,31,iC [0,0])] W0):=Lib.hid (by rw [← hW0];exact ((Fr.start1 HKC.out).alloc (by simp [← hqb]) 34 #[.int .i64 xl,.int .i64 xh,.int .i64 yl,.int .i64 yh,.int .i64 zl,.int .i64 zh]).alloc (by simp [← hqb]) 31 #[.int .i64 0,.int .i64 0])
 clear hk
 go_enter Tryz.func58,Tryz.ntmps58
 go_upto_region 1 with (fail)
 clear hW0 hqb
 go_wp2_with fail
 refine (H1.out _ qb (HF0.out.get 0 rfl)).mono ?_
 rintro e w1 ⟨rfl,hw⟩
 have HF2:=Lib.hid (HF0.out.below hw)
 clear hw
 go_wp2_with fail
 refine (HKP.out _ (HF2.out.getO 0 rfl)).mono ?_
 rintro e w3 ⟨rfl,hw⟩
 have HF4:=Lib.hid (HF2.out.turnO 0 rfl hw)
 clear hw
 go_wp2_with (refine wpStoreF rfl rfl 31 _ _ rfl (qb+1) 0 rfl #[.int .i64 rl,.int .i64 rh] rfl _ _ (iC [rl,rh]) (HF4.out.get 1 rfl) rfl (by show 0+2≤2;omega) (one_all rfl) info_span ?_;intro w5 hk ho;have HF6:=Lib.hid (HF4.out.only 1 rfl ho hk);clear ho hk)
 refine ret_agg rfl rfl rfl (HF6.out.get 1 rfl) und_span rfl info_span ?_
 exact HFIN.out _ HF6.out.drop

theorem place_any (x:SixD) (w:World):Calls Tryz.prog 124 #[sixV x] w fun e w'=>e=.returned (boxV x.p)∧Below w.heap.size w w':=by
 obtain ⟨⟨⟨axl,axh⟩,⟨ayl,ayh⟩,⟨azl,azh⟩⟩,⟨⟨bxl,bxh⟩,⟨byl,byh⟩,⟨bzl,bzh⟩⟩⟩:=x
 unfold sixV boxV
 dsimp only
 have HFIN:Hid (∀ w',Fr w [] [] w'→Below w.heap.size w w'):=Lib.hid fun w' h=>h.toBelow
 obtain ⟨qb,hqb⟩:∃ qb,w.heap.size=qb:=⟨_,rfl⟩
 obtain ⟨W0,hW0⟩:∃ W0,(w.alloc (.cells #[.int .i64 axl,.int .i64 axh,.int .i64 ayl,.int .i64 ayh,.int .i64 azl,.int .i64 azh,.int .i64 bxl,.int .i64 bxh,.int .i64 byl,.int .i64 byh,.int .i64 bzl,.int .i64 bzh] 208)).alloc (.cells #[.int .i64 0,.int .i64 0,.int .i64 0,.int .i64 0,.int .i64 0,.int .i64 0] 34)=W0:=⟨_,rfl⟩
 have HF0:Hid (Fr w [] [(qb,208,iC [axl,axh,ayl,ayh,azl,azh,bxl,bxh,byl,byh,bzl,bzh]),(qb+1,34,iC [0,0,0,0,0,0])] W0):=Lib.hid (by rw [← hW0];exact ((Fr.start w).alloc (by simp [← hqb]) 208 #[.int .i64 axl,.int .i64 axh,.int .i64 ayl,.int .i64 ayh,.int .i64 azl,.int .i64 azh,.int .i64 bxl,.int .i64 bxh,.int .i64 byl,.int .i64 byh,.int .i64 bzl,.int .i64 bzh]).alloc (by simp [← hqb]) 34 #[.int .i64 0,.int .i64 0,.int .i64 0,.int .i64 0,.int .i64 0,.int .i64 0])
 have HARR:∀ (a:Option Addr) (c:Nat) (w:World),(Instr.arrayAt 34 (.slice a 3 c)).run Tryz.prog w=.ok (.pointer a) w:=fun a c w=>run_arrayAt w 34 31 3 a 3 c (by kernel_rfl) (by decide)
 go_enter Tryz.func124,Tryz.ntmps124
 go_upto_region 1 with (fail)
 clear hW0 hqb
 go_wp2_with (first
   | (refine wpLoadF rfl 34 _ rfl qb 0 rfl _ _ (HF0.out.get 0 rfl) #[.int .i64 axl,.int .i64 axh,.int .i64 ayl,.int .i64 ayh,.int .i64 azl,.int .i64 azh] rfl _ und_34 rfl info_34 ?_)
   | (refine wpStoreF rfl rfl 34 _ _ rfl (qb+1) 0 rfl #[.int .i64 axl,.int .i64 axh,.int .i64 ayl,.int .i64 ayh,.int .i64 azl,.int .i64 azh] rfl _ _ (iC [axl,axh,ayl,ayh,azl,azh]) (HF0.out.get 1 rfl) rfl (by show 0+6≤6;omega) (one_all rfl) info_34 ?_;intro w1 hk ho;have HF2:=Lib.hid (HF0.out.only 1 rfl ho hk);clear ho hk))
 refine ret_agg rfl rfl rfl (HF2.out.get 1 rfl) und_34 rfl info_34 ?_
 exact ⟨rfl,HFIN.out _ HF2.out.drop⟩
theorem speed_any (x:SixD) (w:World):Calls Tryz.prog 125 #[sixV x] w fun e w'=>e=.returned (boxV x.v)∧Below w.heap.size w w':=by
 obtain ⟨⟨⟨axl,axh⟩,⟨ayl,ayh⟩,⟨azl,azh⟩⟩,⟨⟨bxl,bxh⟩,⟨byl,byh⟩,⟨bzl,bzh⟩⟩⟩:=x
 unfold sixV boxV
 dsimp only
 have HFIN:Hid (∀ w',Fr w [] [] w'→Below w.heap.size w w'):=Lib.hid fun w' h=>h.toBelow
 obtain ⟨qb,hqb⟩:∃ qb,w.heap.size=qb:=⟨_,rfl⟩
 obtain ⟨W0,hW0⟩:∃ W0,(w.alloc (.cells #[.int .i64 axl,.int .i64 axh,.int .i64 ayl,.int .i64 ayh,.int .i64 azl,.int .i64 azh,.int .i64 bxl,.int .i64 bxh,.int .i64 byl,.int .i64 byh,.int .i64 bzl,.int .i64 bzh] 208)).alloc (.cells #[.int .i64 0,.int .i64 0,.int .i64 0,.int .i64 0,.int .i64 0,.int .i64 0] 34)=W0:=⟨_,rfl⟩
 have HF0:Hid (Fr w [] [(qb,208,iC [axl,axh,ayl,ayh,azl,azh,bxl,bxh,byl,byh,bzl,bzh]),(qb+1,34,iC [0,0,0,0,0,0])] W0):=Lib.hid (by rw [← hW0];exact ((Fr.start w).alloc (by simp [← hqb]) 208 #[.int .i64 axl,.int .i64 axh,.int .i64 ayl,.int .i64 ayh,.int .i64 azl,.int .i64 azh,.int .i64 bxl,.int .i64 bxh,.int .i64 byl,.int .i64 byh,.int .i64 bzl,.int .i64 bzh]).alloc (by simp [← hqb]) 34 #[.int .i64 0,.int .i64 0,.int .i64 0,.int .i64 0,.int .i64 0,.int .i64 0])
 have HARR:∀ (a:Option Addr) (c:Nat) (w:World),(Instr.arrayAt 34 (.slice a 3 c)).run Tryz.prog w=.ok (.pointer a) w:=fun a c w=>run_arrayAt w 34 31 3 a 3 c (by kernel_rfl) (by decide)
 go_enter Tryz.func125,Tryz.ntmps125
 go_upto_region 1 with (fail)
 clear hW0 hqb
 go_wp2_with (first
   | (refine wpLoadF rfl 34 _ rfl qb 6 rfl _ _ (HF0.out.get 0 rfl) #[.int .i64 bxl,.int .i64 bxh,.int .i64 byl,.int .i64 byh,.int .i64 bzl,.int .i64 bzh] rfl _ und_34 rfl info_34 ?_)
   | (refine wpStoreF rfl rfl 34 _ _ rfl (qb+1) 0 rfl #[.int .i64 bxl,.int .i64 bxh,.int .i64 byl,.int .i64 byh,.int .i64 bzl,.int .i64 bzh] rfl _ _ (iC [bxl,bxh,byl,byh,bzl,bzh]) (HF0.out.get 1 rfl) rfl (by show 0+6≤6;omega) (one_all rfl) info_34 ?_;intro w1 hk ho;have HF2:=Lib.hid (HF0.out.only 1 rfl ho hk);clear ho hk))
 refine ret_agg rfl rfl rfl (HF2.out.get 1 rfl) und_34 rfl info_34 ?_
 exact ⟨rfl,HFIN.out _ HF2.out.drop⟩
theorem fof_any (p v:BoxD) (w:World):Calls Tryz.prog 119 #[boxV p,boxV v] w fun e w'=>e=.returned (sixV ⟨p,v⟩)∧Below w.heap.size w w':=by
 obtain ⟨⟨axl,axh⟩,⟨ayl,ayh⟩,⟨azl,azh⟩⟩:=p
 obtain ⟨⟨bxl,bxh⟩,⟨byl,byh⟩,⟨bzl,bzh⟩⟩:=v
 unfold sixV boxV
 dsimp only
 have HFIN:Hid (∀ w',Fr w [] [] w'→Below w.heap.size w w'):=Lib.hid fun w' h=>h.toBelow
 obtain ⟨qb,hqb⟩:∃ qb,w.heap.size=qb:=⟨_,rfl⟩
 obtain ⟨W0,hW0⟩:∃ W0,((w.alloc (.cells #[.int .i64 axl,.int .i64 axh,.int .i64 ayl,.int .i64 ayh,.int .i64 azl,.int .i64 azh] 34)).alloc (.cells #[.int .i64 bxl,.int .i64 bxh,.int .i64 byl,.int .i64 byh,.int .i64 bzl,.int .i64 bzh] 34)).alloc (.cells #[.int .i64 0,.int .i64 0,.int .i64 0,.int .i64 0,.int .i64 0,.int .i64 0,.int .i64 0,.int .i64 0,.int .i64 0,.int .i64 0,.int .i64 0,.int .i64 0] 208)=W0:=⟨_,rfl⟩
 have HF0:Hid (Fr w [] [(qb,34,iC [axl,axh,ayl,ayh,azl,azh]),(qb+1,34,iC [bxl,bxh,byl,byh,bzl,bzh]),(qb+1+1,208,iC [0,0,0,0,0,0,0,0,0,0,0,0])] W0):=Lib.hid (by rw [← hW0];exact (((Fr.start w).alloc (by simp [← hqb]) 34 #[.int .i64 axl,.int .i64 axh,.int .i64 ayl,.int .i64 ayh,.int .i64 azl,.int .i64 azh]).alloc (by simp [← hqb]) 34 #[.int .i64 bxl,.int .i64 bxh,.int .i64 byl,.int .i64 byh,.int .i64 bzl,.int .i64 bzh]).alloc (by simp [← hqb]) 208 #[.int .i64 0,.int .i64 0,.int .i64 0,.int .i64 0,.int .i64 0,.int .i64 0,.int .i64 0,.int .i64 0,.int .i64 0,.int .i64 0,.int .i64 0,.int .i64 0])
 go_enter Tryz.func119,Tryz.ntmps119
 go_upto_region 1 with (fail)
 clear hW0 hqb
 go_wp2_with (first
   | (refine wpLoadF rfl 31 _ rfl qb 0 rfl _ _ (HF0.out.get 0 rfl) #[.int .i64 axl,.int .i64 axh] rfl _ und_span rfl info_span ?_)
   | (refine wpLoadF rfl 31 _ rfl qb 2 rfl _ _ (HF0.out.get 0 rfl) #[.int .i64 ayl,.int .i64 ayh] rfl _ und_span rfl info_span ?_)
   | (refine wpLoadF rfl 31 _ rfl qb 4 rfl _ _ (HF0.out.get 0 rfl) #[.int .i64 azl,.int .i64 azh] rfl _ und_span rfl info_span ?_)
   | (refine wpLoadF rfl 31 _ rfl (qb+1) 0 rfl _ _ (HF0.out.get 1 rfl) #[.int .i64 bxl,.int .i64 bxh] rfl _ und_span rfl info_span ?_)
   | (refine wpLoadF rfl 31 _ rfl (qb+1) 2 rfl _ _ (HF0.out.get 1 rfl) #[.int .i64 byl,.int .i64 byh] rfl _ und_span rfl info_span ?_)
   | (refine wpLoadF rfl 31 _ rfl (qb+1) 4 rfl _ _ (HF0.out.get 1 rfl) #[.int .i64 bzl,.int .i64 bzh] rfl _ und_span rfl info_span ?_)
   | (refine wpStoreF rfl rfl 208 _ _ rfl (qb+1+1) 0 rfl #[.int .i64 axl,.int .i64 axh,.int .i64 ayl,.int .i64 ayh,.int .i64 azl,.int .i64 azh,.int .i64 bxl,.int .i64 bxh,.int .i64 byl,.int .i64 byh,.int .i64 bzl,.int .i64 bzh] rfl _ _ (iC [axl,axh,ayl,ayh,azl,azh,bxl,bxh,byl,byh,bzl,bzh]) (HF0.out.get 2 rfl) rfl (by show 0+12≤12;omega) (one_all rfl) info_208 ?_;intro w1 hk ho;have HF2:=Lib.hid (HF0.out.only 2 rfl ho hk);clear ho hk))
 refine ret_agg rfl rfl rfl (HF2.out.get 2 rfl) und_208 rfl info_208 ?_
 exact ⟨rfl,HFIN.out _ HF2.out.drop⟩
theorem ceach_any (cb:Nat) (e:Int) (fid:Nat) (op:SpanD→SpanD→CM SpanD) (hop:∀ e a b w,WdS a→WdS b→Bk w cb 153 #[.int .i64 e]→Calls Tryz.prog fid #[.pointer (some ⟨cb,0,none⟩),spanV a,spanV b] w (CkPost cb (op a b e) w)) (hen:∀ args w,(callFunc fid args).run Tryz.prog w=.ok (.enter fid args) w)
  (a b:BoxD) (ha:WdB a) (hb:WdB b) (w:World) (hk:Bk w cb 153 #[.int .i64 e]):Calls Tryz.prog 166 #[.pointer (some ⟨cb,0,none⟩),.func (.func fid) #[.pointer (some ⟨cb,0,none⟩)] #[],boxV a,boxV b] w (CkBox cb (eachM op a b e) w):=by
 have HKC:=Lib.hid hk
 have H1:=fun w hk=>hop e a.x b.x w ha.1 hb.1 hk
 obtain ⟨⟨⟨r1l,r1h⟩,e1⟩,h1⟩:∃ z:SpanD × Int,op a.x b.x e=z:=⟨_,rfl⟩
 have H2:=fun w hk=>hop e1 a.y b.y w ha.2.1 hb.2.1 hk
 obtain ⟨⟨⟨r2l,r2h⟩,e2⟩,h2⟩:∃ z:SpanD × Int,op a.y b.y e1=z:=⟨_,rfl⟩
 have H3:=fun w hk=>hop e2 a.z b.z w ha.2.2 hb.2.2 hk
 obtain ⟨⟨⟨r3l,r3h⟩,e3⟩,h3⟩:∃ z:SpanD × Int,op a.z b.z e2=z:=⟨_,rfl⟩
 have hr:eachM op a b e=(⟨⟨r1l,r1h⟩,⟨r2l,r2h⟩,⟨r3l,r3h⟩⟩,e3):=by
  unfold eachM CM.bnd CM.ret
  simp only [h1,h2,h3]
 rw [h1] at H1
 rw [h2] at H2
 rw [h3] at H3
 rw [hr]
 have HFIN:Hid (∀ w',Fr w [(cb,153,#[.int .i64 e3])] [] w'→CkBox cb (⟨⟨r1l,r1h⟩,⟨r2l,r2h⟩,⟨r3l,r3h⟩⟩,e3) w (.returned (.agg #[.int .i64 r1l,.int .i64 r1h,.int .i64 r2l,.int .i64 r2h,.int .i64 r3l,.int .i64 r3h])) w'):=Lib.hid fun w' h=>⟨rfl,h⟩
 obtain ⟨⟨axl,axh⟩,⟨ayl,ayh⟩,⟨azl,azh⟩⟩:=a
 obtain ⟨⟨bxl,bxh⟩,⟨byl,byh⟩,⟨bzl,bzh⟩⟩:=b
 clear hop ha hb h1 h2 h3 hr
 unfold CkPost spanV at H1 H2 H3
 unfold boxV
 dsimp only at H1 H2 H3 ⊢
 replace H1:=Lib.hid H1
 replace H2:=Lib.hid H2
 replace H3:=Lib.hid H3
 obtain ⟨qb,hqb⟩:∃ qb,w.heap.size=qb:=⟨_,rfl⟩
 obtain ⟨W0,hW0⟩:∃ W0,((w.alloc (.cells #[.int .i64 axl,.int .i64 axh,.int .i64 ayl,.int .i64 ayh,.int .i64 azl,.int .i64 azh] 34)).alloc (.cells #[.int .i64 bxl,.int .i64 bxh,.int .i64 byl,.int .i64 byh,.int .i64 bzl,.int .i64 bzh] 34)).alloc (.cells #[.int .i64 0,.int .i64 0,.int .i64 0,.int .i64 0,.int .i64 0,.int .i64 0] 34)=W0:=⟨_,rfl⟩
 have HF0:Hid (Fr w [(cb,153,iC [e])] [(qb,34,iC [axl,axh,ayl,ayh,azl,azh]),(qb+1,34,iC [bxl,bxh,byl,byh,bzl,bzh]),(qb+1+1,34,iC [0,0,0,0,0,0])] W0):=Lib.hid (by rw [← hW0];exact (((Fr.start1 HKC.out).alloc (by simp [← hqb]) 34 #[.int .i64 axl,.int .i64 axh,.int .i64 ayl,.int .i64 ayh,.int .i64 azl,.int .i64 azh]).alloc (by simp [← hqb]) 34 #[.int .i64 bxl,.int .i64 bxh,.int .i64 byl,.int .i64 byh,.int .i64 bzl,.int .i64 bzh]).alloc (by simp [← hqb]) 34 #[.int .i64 0,.int .i64 0,.int .i64 0,.int .i64 0,.int .i64 0,.int .i64 0])
 clear hk
 go_enter Tryz.func166,Tryz.ntmps166
 go_upto_region 1 with (fail)
 clear hW0 hqb
 obtain ⟨g1,hg1⟩:∃ g,W0.heap.size=g:=⟨_,rfl⟩
 obtain ⟨w1,hw1⟩:∃ u,W0.alloc (.cells #[.int .i64 0,.int .i64 0,.int .i64 0,.int .i64 0,.int .i64 0,.int .i64 0] 34)=u:=⟨_,rfl⟩
 have HF2:=Lib.hid (frE hw1 (HF0.out.alloc hg1.symm 34 #[.int .i64 0,.int .i64 0,.int .i64 0,.int .i64 0,.int .i64 0,.int .i64 0]))
 go_wp2_with fail
 clear hw1 hg1
 refine wp_loop_rounds 4 ?_
 rw [rounds_succ]
 go_upto_region 5 with (fail)
 refine wp_region_fr [Kind.p,Kind.p,Kind.p,Kind.p,Kind.p,Kind.p,Kind.p,Kind.p,Kind.c 0,Kind.p,Kind.c 1] [8,10] [] w (fun k=>[(cb,153,(if k≤0 then iC [e] else iC [e1]))]) (fun k=>[(qb,34,iC [axl,axh,ayl,ayh,azl,azh]),(qb+1,34,iC [bxl,bxh,byl,byh,bzl,bzh]),(qb+1+1,34,iC [0,0,0,0,0,0]),(g1,34,(if k≤1 then iC [0,0,0,0,0,0] else iC [r1l,r1h,0,0,0,0]))])
    (fun ix u _=>match ix with
     | 0=>u=.int .i64 0
     | 1=>u=.func (.func fid) #[.pointer (some ⟨cb,0,none⟩)] #[]
     | 2=>u=.int .i64 0
     | 3=>u=.pointer (some ⟨qb,0,none⟩)
     | 4=>u=.agg #[.int .i64 axl,.int .i64 axh]
     | 5=>u=.int .i64 0
     | 6=>u=.pointer (some ⟨qb+1,0,none⟩)
     | 7=>u=.agg #[.int .i64 bxl,.int .i64 bxh]
     | 8=>u=.agg #[.int .i64 r1l,.int .i64 r1h]
     | 9=>u=.pointer (some ⟨g1,0,none⟩)
     | _=>True)
    (by kernel_rfl) (by kernel_rfl) (by kernel_rfl) [] rfl (by decide) (by kernel_rfl) (by kernel_rfl) HF2.out ?_ ?_
 ·refine ⟨?_,?_,?_,?_,?_,?_,?_,?_,?_,?_,?_,trivial⟩
  all_goals intro a w1 vs dn k K S hpre KE DE kk
  ·have e10:=KE 10 (by decide)
   go_simp;exact kk _ _ (by simp) bR rfl
  ·have e1:=KE 1 (by decide)
   go_simp;exact kk _ _ (by simp) bR rfl
  ·have e10:=KE 10 (by decide)
   go_simp;exact kk _ _ (by simp) bR rfl
  ·have e6:=KE 6 (by decide)
   have e16:=dep (DE 2 _ 16 rfl rfl rfl)
   go_simp;exact kk _ _ (by simp) bR rfl
  ·have e17:=dep (DE 3 _ 17 rfl rfl rfl)
   exact wpo_loadF 31 (.tmp 17) rfl qb 0 (by simpa [Act.eval] using e17) _ _ (S.fr.left.get 0 rfl) #[.int .i64 axl,.int .i64 axh] rfl _ und_span rfl info_span (kk _ _ (by simp) bR rfl)
  ·have e10:=KE 10 (by decide)
   go_simp;exact kk _ _ (by simp) bR rfl
  ·have e7:=KE 7 (by decide)
   have e19:=dep (DE 5 _ 19 rfl rfl rfl)
   go_simp;exact kk _ _ (by simp) bR rfl
  ·have e20:=dep (DE 6 _ 20 rfl rfl rfl)
   exact wpo_loadF 31 (.tmp 20) rfl (qb+1) 0 (by simpa [Act.eval] using e20) _ _ (S.fr.left.get 1 rfl) #[.int .i64 bxl,.int .i64 bxh] rfl _ und_span rfl info_span (kk _ _ (by simp) bR rfl)
  ·subst hpre
   have e15:=dep (DE 1 _ 15 rfl rfl rfl)
   have e18:=dep (DE 4 _ 18 rfl rfl rfl)
   have e21:=dep (DE 7 _ 21 rfl rfl rfl)
   exact wpo_callM fid #[.pointer (some ⟨cb,0,none⟩)] (.tmp 15) _ _ rfl (by simpa [Act.eval] using e15) #[.agg #[.int .i64 axl,.int .i64 axh],.agg #[.int .i64 bxl,.int .i64 bxh]] (by simp [Act.eval,e18,e21]) hen
    ((H1.out w1 (S.fr.getO 0 rfl)).mono fun e w' ⟨he,hb⟩=>⟨_,he,kk _ _ (by simp) (Fr.stage (S.fr.turnO 0 rfl hb) (by exact trivial)) rfl⟩)
  ·have e9:=KE 9 (by decide)
   have e14:=dep (DE 0 _ 14 rfl rfl rfl)
   go_simp;exact kk _ _ (by simp) bR rfl
  ·subst hpre
   have e23:=dep (DE 9 _ 23 rfl rfl rfl)
   have e22:=dep (DE 8 _ 22 rfl rfl rfl)
   exact wpo_storeF 31 (.tmp 23) (.tmp 22) rfl rfl g1 0 (by simpa [Act.eval] using e23) #[.int .i64 r1l,.int .i64 r1h] (by simpa [Act.eval] using e22) _ _ (iC [r1l,r1h,0,0,0,0]) (by have:=S.fr.left.get 3 rfl;rw [if_pos (S.hi 1 10 rfl rfl)] at this;exact this) rfl (by show 0+2≤6;omega) (one_all rfl) info_span fun w' hk ho=>kk _ _ (by simp) (Fr.stage (S.fr.only 3 rfl ho hk) (by exact trivial)) trivial
 ·intro vs wf HFr HR
  have HFr':Fr w [(cb,153,iC [e1])] [(qb,34,iC [axl,axh,ayl,ayh,azl,azh]),(qb+1,34,iC [bxl,bxh,byl,byh,bzl,bzh]),(qb+1+1,34,iC [0,0,0,0,0,0]),(g1,34,iC [r1l,r1h,0,0,0,0])] wf:=HFr
  clear HFr HR
  have HF3:=Lib.hid HFr'
  clear HFr'
  simp only [putAll,Act.put,List.setIfInBounds_toArray,List.set_cons_zero,List.set_cons_succ]
  obtain ⟨w3,rfl⟩:∃ u:World,u=wf:=⟨_,rfl⟩
  go_wp2_with fail
  rw [rounds_succ]
  go_upto_region 5 with (fail)
  refine wp_region_fr [Kind.p,Kind.p,Kind.p,Kind.p,Kind.p,Kind.p,Kind.p,Kind.p,Kind.c 0,Kind.p,Kind.c 1] [8,10] [] w (fun k=>[(cb,153,(if k≤0 then iC [e1] else iC [e2]))]) (fun k=>[(qb,34,iC [axl,axh,ayl,ayh,azl,azh]),(qb+1,34,iC [bxl,bxh,byl,byh,bzl,bzh]),(qb+1+1,34,iC [0,0,0,0,0,0]),(g1,34,(if k≤1 then iC [r1l,r1h,0,0,0,0] else iC [r1l,r1h,r2l,r2h,0,0]))])
     (fun ix u _=>match ix with
      | 0=>u=.int .i64 1
      | 1=>u=.func (.func fid) #[.pointer (some ⟨cb,0,none⟩)] #[]
      | 2=>u=.int .i64 1
      | 3=>u=.pointer (some ⟨qb,2,none⟩)
      | 4=>u=.agg #[.int .i64 ayl,.int .i64 ayh]
      | 5=>u=.int .i64 1
      | 6=>u=.pointer (some ⟨qb+1,2,none⟩)
      | 7=>u=.agg #[.int .i64 byl,.int .i64 byh]
      | 8=>u=.agg #[.int .i64 r2l,.int .i64 r2h]
      | 9=>u=.pointer (some ⟨g1,2,none⟩)
      | _=>True)
     (by kernel_rfl) (by kernel_rfl) (by kernel_rfl) [] rfl (by decide) (by kernel_rfl) (by kernel_rfl) HF3.out ?_ ?_
  ·refine ⟨?_,?_,?_,?_,?_,?_,?_,?_,?_,?_,?_,trivial⟩
   all_goals intro a w1 vs dn k K S hpre KE DE kk
   ·have e10:=KE 10 (by decide)
    go_simp;exact kk _ _ (by simp) bR rfl
   ·have e1:=KE 1 (by decide)
    go_simp;exact kk _ _ (by simp) bR rfl
   ·have e10:=KE 10 (by decide)
    go_simp;exact kk _ _ (by simp) bR rfl
   ·have e6:=KE 6 (by decide)
    have e16:=dep (DE 2 _ 16 rfl rfl rfl)
    go_simp;exact kk _ _ (by simp) bR rfl
   ·have e17:=dep (DE 3 _ 17 rfl rfl rfl)
    exact wpo_loadF 31 (.tmp 17) rfl qb 2 (by simpa [Act.eval] using e17) _ _ (S.fr.left.get 0 rfl) #[.int .i64 ayl,.int .i64 ayh] rfl _ und_span rfl info_span (kk _ _ (by simp) bR rfl)
   ·have e10:=KE 10 (by decide)
    go_simp;exact kk _ _ (by simp) bR rfl
   ·have e7:=KE 7 (by decide)
    have e19:=dep (DE 5 _ 19 rfl rfl rfl)
    go_simp;exact kk _ _ (by simp) bR rfl
   ·have e20:=dep (DE 6 _ 20 rfl rfl rfl)
    exact wpo_loadF 31 (.tmp 20) rfl (qb+1) 2 (by simpa [Act.eval] using e20) _ _ (S.fr.left.get 1 rfl) #[.int .i64 byl,.int .i64 byh] rfl _ und_span rfl info_span (kk _ _ (by simp) bR rfl)
   ·subst hpre
    have e15:=dep (DE 1 _ 15 rfl rfl rfl)
    have e18:=dep (DE 4 _ 18 rfl rfl rfl)
    have e21:=dep (DE 7 _ 21 rfl rfl rfl)
    exact wpo_callM fid #[.pointer (some ⟨cb,0,none⟩)] (.tmp 15) _ _ rfl (by simpa [Act.eval] using e15) #[.agg #[.int .i64 ayl,.int .i64 ayh],.agg #[.int .i64 byl,.int .i64 byh]] (by simp [Act.eval,e18,e21]) hen
     ((H2.out w1 (S.fr.getO 0 rfl)).mono fun e w' ⟨he,hb⟩=>⟨_,he,kk _ _ (by simp) (Fr.stage (S.fr.turnO 0 rfl hb) (by exact trivial)) rfl⟩)
   ·have e9:=KE 9 (by decide)
    have e14:=dep (DE 0 _ 14 rfl rfl rfl)
    go_simp;exact kk _ _ (by simp) bR rfl
   ·subst hpre
    have e23:=dep (DE 9 _ 23 rfl rfl rfl)
    have e22:=dep (DE 8 _ 22 rfl rfl rfl)
    exact wpo_storeF 31 (.tmp 23) (.tmp 22) rfl rfl g1 2 (by simpa [Act.eval] using e23) #[.int .i64 r2l,.int .i64 r2h] (by simpa [Act.eval] using e22) _ _ (iC [r1l,r1h,r2l,r2h,0,0]) (by have:=S.fr.left.get 3 rfl;rw [if_pos (S.hi 1 10 rfl rfl)] at this;exact this) rfl (by show 2+2≤6;omega) (one_all rfl) info_span fun w' hk ho=>kk _ _ (by simp) (Fr.stage (S.fr.only 3 rfl ho hk) (by exact trivial)) trivial
  ·intro vs wf HFr HR
   have HFr':Fr w [(cb,153,iC [e2])] [(qb,34,iC [axl,axh,ayl,ayh,azl,azh]),(qb+1,34,iC [bxl,bxh,byl,byh,bzl,bzh]),(qb+1+1,34,iC [0,0,0,0,0,0]),(g1,34,iC [r1l,r1h,r2l,r2h,0,0])] wf:=HFr
   clear HFr HR
   have HF4:=Lib.hid HFr'
   clear HFr'
   simp only [putAll,Act.put,List.setIfInBounds_toArray,List.set_cons_zero,List.set_cons_succ]
   obtain ⟨w4,rfl⟩:∃ u:World,u=wf:=⟨_,rfl⟩
   go_wp2_with fail
   rw [rounds_succ]
   go_upto_region 5 with (fail)
   refine wp_region_fr [Kind.p,Kind.p,Kind.p,Kind.p,Kind.p,Kind.p,Kind.p,Kind.p,Kind.c 0,Kind.p,Kind.c 1] [8,10] [] w (fun k=>[(cb,153,(if k≤0 then iC [e2] else iC [e3]))]) (fun k=>[(qb,34,iC [axl,axh,ayl,ayh,azl,azh]),(qb+1,34,iC [bxl,bxh,byl,byh,bzl,bzh]),(qb+1+1,34,iC [0,0,0,0,0,0]),(g1,34,(if k≤1 then iC [r1l,r1h,r2l,r2h,0,0] else iC [r1l,r1h,r2l,r2h,r3l,r3h]))])
      (fun ix u _=>match ix with
       | 0=>u=.int .i64 2
       | 1=>u=.func (.func fid) #[.pointer (some ⟨cb,0,none⟩)] #[]
       | 2=>u=.int .i64 2
       | 3=>u=.pointer (some ⟨qb,4,none⟩)
       | 4=>u=.agg #[.int .i64 azl,.int .i64 azh]
       | 5=>u=.int .i64 2
       | 6=>u=.pointer (some ⟨qb+1,4,none⟩)
       | 7=>u=.agg #[.int .i64 bzl,.int .i64 bzh]
       | 8=>u=.agg #[.int .i64 r3l,.int .i64 r3h]
       | 9=>u=.pointer (some ⟨g1,4,none⟩)
       | _=>True)
      (by kernel_rfl) (by kernel_rfl) (by kernel_rfl) [] rfl (by decide) (by kernel_rfl) (by kernel_rfl) HF4.out ?_ ?_
   ·refine ⟨?_,?_,?_,?_,?_,?_,?_,?_,?_,?_,?_,trivial⟩
    all_goals intro a w1 vs dn k K S hpre KE DE kk
    ·have e10:=KE 10 (by decide)
     go_simp;exact kk _ _ (by simp) bR rfl
    ·have e1:=KE 1 (by decide)
     go_simp;exact kk _ _ (by simp) bR rfl
    ·have e10:=KE 10 (by decide)
     go_simp;exact kk _ _ (by simp) bR rfl
    ·have e6:=KE 6 (by decide)
     have e16:=dep (DE 2 _ 16 rfl rfl rfl)
     go_simp;exact kk _ _ (by simp) bR rfl
    ·have e17:=dep (DE 3 _ 17 rfl rfl rfl)
     exact wpo_loadF 31 (.tmp 17) rfl qb 4 (by simpa [Act.eval] using e17) _ _ (S.fr.left.get 0 rfl) #[.int .i64 azl,.int .i64 azh] rfl _ und_span rfl info_span (kk _ _ (by simp) bR rfl)
    ·have e10:=KE 10 (by decide)
     go_simp;exact kk _ _ (by simp) bR rfl
    ·have e7:=KE 7 (by decide)
     have e19:=dep (DE 5 _ 19 rfl rfl rfl)
     go_simp;exact kk _ _ (by simp) bR rfl
    ·have e20:=dep (DE 6 _ 20 rfl rfl rfl)
     exact wpo_loadF 31 (.tmp 20) rfl (qb+1) 4 (by simpa [Act.eval] using e20) _ _ (S.fr.left.get 1 rfl) #[.int .i64 bzl,.int .i64 bzh] rfl _ und_span rfl info_span (kk _ _ (by simp) bR rfl)
    ·subst hpre
     have e15:=dep (DE 1 _ 15 rfl rfl rfl)
     have e18:=dep (DE 4 _ 18 rfl rfl rfl)
     have e21:=dep (DE 7 _ 21 rfl rfl rfl)
     exact wpo_callM fid #[.pointer (some ⟨cb,0,none⟩)] (.tmp 15) _ _ rfl (by simpa [Act.eval] using e15) #[.agg #[.int .i64 azl,.int .i64 azh],.agg #[.int .i64 bzl,.int .i64 bzh]] (by simp [Act.eval,e18,e21]) hen
      ((H3.out w1 (S.fr.getO 0 rfl)).mono fun e w' ⟨he,hb⟩=>⟨_,he,kk _ _ (by simp) (Fr.stage (S.fr.turnO 0 rfl hb) (by exact trivial)) rfl⟩)
    ·have e9:=KE 9 (by decide)
     have e14:=dep (DE 0 _ 14 rfl rfl rfl)
     go_simp;exact kk _ _ (by simp) bR rfl
    ·subst hpre
     have e23:=dep (DE 9 _ 23 rfl rfl rfl)
     have e22:=dep (DE 8 _ 22 rfl rfl rfl)
     exact wpo_storeF 31 (.tmp 23) (.tmp 22) rfl rfl g1 4 (by simpa [Act.eval] using e23) #[.int .i64 r3l,.int .i64 r3h] (by simpa [Act.eval] using e22) _ _ (iC [r1l,r1h,r2l,r2h,r3l,r3h]) (by have:=S.fr.left.get 3 rfl;rw [if_pos (S.hi 1 10 rfl rfl)] at this;exact this) rfl (by show 4+2≤6;omega) (one_all rfl) info_span fun w' hk ho=>kk _ _ (by simp) (Fr.stage (S.fr.only 3 rfl ho hk) (by exact trivial)) trivial
   ·intro vs wf HFr HR
    have HFr':Fr w [(cb,153,iC [e3])] [(qb,34,iC [axl,axh,ayl,ayh,azl,azh]),(qb+1,34,iC [bxl,bxh,byl,byh,bzl,bzh]),(qb+1+1,34,iC [0,0,0,0,0,0]),(g1,34,iC [r1l,r1h,r2l,r2h,r3l,r3h])] wf:=HFr
    clear HFr HR
    have HF5:=Lib.hid HFr'
    clear HFr'
    simp only [putAll,Act.put,List.setIfInBounds_toArray,List.set_cons_zero,List.set_cons_succ]
    obtain ⟨w5,rfl⟩:∃ u:World,u=wf:=⟨_,rfl⟩
    go_wp2_with fail
    rw [rounds_succ]
    go_wp2_with (first
      | (refine wpLoadF rfl 34 _ rfl g1 0 rfl _ _ (HF5.out.get 3 rfl) #[.int .i64 r1l,.int .i64 r1h,.int .i64 r2l,.int .i64 r2h,.int .i64 r3l,.int .i64 r3h] rfl _ und_34 rfl info_34 ?_)
      | (refine wpStoreF rfl rfl 34 _ _ rfl (qb+1+1) 0 rfl #[.int .i64 r1l,.int .i64 r1h,.int .i64 r2l,.int .i64 r2h,.int .i64 r3l,.int .i64 r3h] rfl _ _ (iC [r1l,r1h,r2l,r2h,r3l,r3h]) (HF5.out.get 2 rfl) rfl (by show 0+6≤6;omega) (one_all rfl) info_34 ?_;intro w6 hk ho;have HF7:=Lib.hid (HF5.out.only 2 rfl ho hk);clear ho hk))
    refine ret_agg rfl rfl rfl (HF7.out.get 2 rfl) und_34 rfl info_34 ?_
    exact HFIN.out _ HF7.out.drop
theorem cby_any (cb:Nat) (e:Int) (fid:Nat) (op:SpanD→SpanD→CM SpanD) (hop:∀ e a b w,WdS a→WdS b→Bk w cb 153 #[.int .i64 e]→Calls Tryz.prog fid #[.pointer (some ⟨cb,0,none⟩),spanV a,spanV b] w (CkPost cb (op a b e) w)) (hen:∀ args w,(callFunc fid args).run Tryz.prog w=.ok (.enter fid args) w)
  (a:SpanD) (b:BoxD) (ha:WdS a) (hb:WdB b) (w:World) (hk:Bk w cb 153 #[.int .i64 e]):Calls Tryz.prog 169 #[.pointer (some ⟨cb,0,none⟩),.func (.func fid) #[.pointer (some ⟨cb,0,none⟩)] #[],spanV a,boxV b] w (CkBox cb (byM op a b e) w):=by
 have HKC:=Lib.hid hk
 have H1:=fun w hk=>ceach_any cb e fid op hop hen (allBox a) b ⟨ha,ha,ha⟩ hb w hk
 have hr:byM op a b e=eachM op (allBox a) b e:=rfl
 rw [hr]
 obtain ⟨⟨⟨⟨r1l,r1h⟩,⟨r2l,r2h⟩,⟨r3l,r3h⟩⟩,re⟩,h1⟩:∃ z:BoxD × Int,eachM op (allBox a) b e=z:=⟨_,rfl⟩
 rw [h1] at H1 ⊢
 have HFIN:Hid (∀ w',Fr w [(cb,153,#[.int .i64 re])] [] w'→CkBox cb (⟨⟨r1l,r1h⟩,⟨r2l,r2h⟩,⟨r3l,r3h⟩⟩,re) w (.returned (.agg #[.int .i64 r1l,.int .i64 r1h,.int .i64 r2l,.int .i64 r2h,.int .i64 r3l,.int .i64 r3h])) w'):=Lib.hid fun w' h=>⟨rfl,h⟩
 obtain ⟨al,ah⟩:=a
 obtain ⟨⟨bxl,bxh⟩,⟨byl,byh⟩,⟨bzl,bzh⟩⟩:=b
 clear hop hen ha hb h1 hr
 unfold CkBox boxV allBox at H1
 unfold boxV spanV
 dsimp only at H1 ⊢
 replace H1:=Lib.hid H1
 obtain ⟨qb,hqb⟩:∃ qb,w.heap.size=qb:=⟨_,rfl⟩
 obtain ⟨W0,hW0⟩:∃ W0,((w.alloc (.cells #[.int .i64 al,.int .i64 ah] 31)).alloc (.cells #[.int .i64 bxl,.int .i64 bxh,.int .i64 byl,.int .i64 byh,.int .i64 bzl,.int .i64 bzh] 34)).alloc (.cells #[.int .i64 0,.int .i64 0,.int .i64 0,.int .i64 0,.int .i64 0,.int .i64 0] 34)=W0:=⟨_,rfl⟩
 have HF0:Hid (Fr w [(cb,153,iC [e])] [(qb,31,iC [al,ah]),(qb+1,34,iC [bxl,bxh,byl,byh,bzl,bzh]),(qb+1+1,34,iC [0,0,0,0,0,0])] W0):=Lib.hid (by rw [← hW0];exact (((Fr.start1 HKC.out).alloc (by simp [← hqb]) 31 #[.int .i64 al,.int .i64 ah]).alloc (by simp [← hqb]) 34 #[.int .i64 bxl,.int .i64 bxh,.int .i64 byl,.int .i64 byh,.int .i64 bzl,.int .i64 bzh]).alloc (by simp [← hqb]) 34 #[.int .i64 0,.int .i64 0,.int .i64 0,.int .i64 0,.int .i64 0,.int .i64 0])
 clear hk
 go_enter Tryz.func169,Tryz.ntmps169
 go_upto_region 1 with (fail)
 clear hW0 hqb
 go_wp2_with (first
   | (refine wpLoadF rfl 31 _ rfl qb 0 rfl _ _ (HF0.out.get 0 rfl) #[.int .i64 al,.int .i64 ah] rfl _ und_span rfl info_span ?_)
   | (refine wpLoadF rfl 34 _ rfl (qb+1) 0 rfl _ _ (HF0.out.get 1 rfl) #[.int .i64 bxl,.int .i64 bxh,.int .i64 byl,.int .i64 byh,.int .i64 bzl,.int .i64 bzh] rfl _ und_34 rfl info_34 ?_))
 refine (H1.out _ (HF0.out.getO 0 rfl)).mono ?_
 rintro e w1 ⟨rfl,hw⟩
 have HF2:=Lib.hid (HF0.out.turnO 0 rfl hw)
 clear hw
 go_wp2_with (refine wpStoreF rfl rfl 34 _ _ rfl (qb+1+1) 0 rfl #[.int .i64 r1l,.int .i64 r1h,.int .i64 r2l,.int .i64 r2h,.int .i64 r3l,.int .i64 r3h] rfl _ _ (iC [r1l,r1h,r2l,r2h,r3l,r3h]) (HF2.out.get 2 rfl) rfl (by show 0+6≤6;omega) (one_all rfl) info_34 ?_;intro w3 hk ho;have HF4:=Lib.hid (HF2.out.only 2 rfl ho hk);clear ho hk)
 refine ret_agg rfl rfl rfl (HF4.out.get 2 rfl) und_34 rfl info_34 ?_
 exact HFIN.out _ HF4.out.drop

theorem wd_each {op:SpanD→SpanD→CM SpanD} (h:∀ a b e,WdS (op a b e).1) (a b:BoxD) (e:Int):WdB (eachM op a b e).1:=by
 unfold eachM CM.bnd CM.ret
 exact ⟨h _ _ _,h _ _ _,h _ _ _⟩
theorem wd_by {op:SpanD→SpanD→CM SpanD} (h:∀ a b e,WdS (op a b e).1) (a:SpanD) (b:BoxD) (e:Int):WdB (byM op a b e).1:=wd_each h _ _ _
theorem wd_addM (a b:SpanD) (e:Int):WdS (addM a b e).1:=wd_do wd_add a b e
theorem wd_subM (a b:SpanD) (e:Int):WdS (subM a b e).1:=wd_do wd_sub a b e
theorem wd_mulM (a b:SpanD) (e:Int):WdS (mulM a b e).1:=wd_do wd_mul a b e
theorem wd_divM (a b:SpanD) (e:Int):WdS (divM a b e).1:=wd_do wd_div a b e
theorem bymul_any (cb:Nat) (e:Int) (a:SpanD) (b:BoxD) (ha:WdS a) (hb:WdB b) (w:World) (hk:Bk w cb 153 #[.int .i64 e]):Calls Tryz.prog 169 #[.pointer (some ⟨cb,0,none⟩),.func (.func 118) #[.pointer (some ⟨cb,0,none⟩)] #[],spanV a,boxV b] w (CkBox cb (byM mulM a b e) w) :=
 cby_any cb e 118 mulM (fun e a b w ha hb hk=>cmul_any cb e a b ha hb w hk) (fun args w=>by kernel_rfl) a b ha hb w hk
theorem eachadd_any (cb:Nat) (e:Int) (a b:BoxD) (ha:WdB a) (hb:WdB b) (w:World) (hk:Bk w cb 153 #[.int .i64 e]):Calls Tryz.prog 166 #[.pointer (some ⟨cb,0,none⟩),.func (.func 116) #[.pointer (some ⟨cb,0,none⟩)] #[],boxV a,boxV b] w (CkBox cb (eachM addM a b e) w) :=
 ceach_any cb e 116 addM (fun e a b w ha hb hk=>cadd_any cb e a b ha hb w hk) (fun args w=>by kernel_rfl) a b ha hb w hk
theorem reached_any (cb:Nat) (e:Int) (x:SixD) (d:SpanD) (v f:BoxD) (hx:WdX x) (hd:WdS d) (hv:WdB v) (hf:WdB f) (w:World) (hk:Bk w cb 153 #[.int .i64 e]) :
  Calls Tryz.prog 163 #[.pointer (some ⟨cb,0,none⟩),sixV x,spanV d,boxV v,boxV f] w (CkSix cb (reachedM x d v f e) w):=by
 have HKC:=Lib.hid hk
 have HPL:=fun w=>place_any x w
 have HSPD:=fun w=>speed_any x w
 have H1:=fun w hk=>bymul_any cb e d v hd hv w hk
 have w1:=wd_by wd_mulM d v e
 obtain ⟨⟨dv,e1⟩,h1⟩:∃ z:BoxD × Int,byM mulM d v e=z:=⟨_,rfl⟩
 rw [h1] at H1 w1
 have H2:=fun w hk=>eachadd_any cb e1 x.p dv hx.1 w1 w hk
 have w2:=wd_each wd_addM x.p dv e1
 obtain ⟨⟨p,e2⟩,h2⟩:∃ z:BoxD × Int,eachM addM x.p dv e1=z:=⟨_,rfl⟩
 rw [h2] at H2 w2
 have H3:=fun w hk=>bymul_any cb e2 d f hd hf w hk
 have w3:=wd_by wd_mulM d f e2
 obtain ⟨⟨df,e3⟩,h3⟩:∃ z:BoxD × Int,byM mulM d f e2=z:=⟨_,rfl⟩
 rw [h3] at H3 w3
 have H4:=fun w hk=>eachadd_any cb e3 x.v df hx.2 w3 w hk
 obtain ⟨⟨q,e4⟩,h4⟩:∃ z:BoxD × Int,eachM addM x.v df e3=z:=⟨_,rfl⟩
 rw [h4] at H4
 have HOF:=fun w=>fof_any p q w
 have hr:reachedM x d v f e=(⟨p,q⟩,e4):=by
  unfold reachedM CM.bnd CM.ret
  simp only [h1,h2,h3,h4]
 rw [hr]
 have HFIN:Hid (∀ w' v',v'=sixV ⟨p,q⟩→Fr w [(cb,153,#[.int .i64 e4])] [] w'→CkSix cb (⟨p,q⟩,e4) w (.returned v') w'):=Lib.hid fun w' v' hv h=>⟨by rw [hv],h⟩
 obtain ⟨PQ,hPQ⟩:∃ Q,CkSix cb (⟨p,q⟩,e4) w=Q:=⟨_,rfl⟩
 rw [hPQ] at HFIN ⊢
 obtain ⟨⟨⟨axl,axh⟩,⟨ayl,ayh⟩,⟨azl,azh⟩⟩,⟨⟨bxl,bxh⟩,⟨byl,byh⟩,⟨bzl,bzh⟩⟩⟩:=x
 obtain ⟨dl,dh⟩:=d
 obtain ⟨⟨vxl,vxh⟩,⟨vyl,vyh⟩,⟨vzl,vzh⟩⟩:=v
 obtain ⟨⟨fxl,fxh⟩,⟨fyl,fyh⟩,⟨fzl,fzh⟩⟩:=f
 obtain ⟨⟨uxl,uxh⟩,⟨uyl,uyh⟩,⟨uzl,uzh⟩⟩:=dv
 obtain ⟨⟨pxl,pxh⟩,⟨pyl,pyh⟩,⟨pzl,pzh⟩⟩:=p
 obtain ⟨⟨gxl,gxh⟩,⟨gyl,gyh⟩,⟨gzl,gzh⟩⟩:=df
 obtain ⟨⟨qxl,qxh⟩,⟨qyl,qyh⟩,⟨qzl,qzh⟩⟩:=q
 clear hx hd hv hf h1 h2 h3 h4 hr w1 w2 w3 hPQ
 unfold CkBox boxV spanV at H1 H3
 unfold CkBox boxV at H2 H4
 unfold sixV boxV at HPL HSPD HOF
 unfold sixV at HFIN
 unfold sixV spanV boxV
 dsimp only at H1 H2 H3 H4 HPL HSPD HOF HFIN ⊢
 replace H1:=Lib.hid H1
 replace H2:=Lib.hid H2
 replace H3:=Lib.hid H3
 replace H4:=Lib.hid H4
 replace HPL:=Lib.hid HPL
 replace HSPD:=Lib.hid HSPD
 replace HOF:=Lib.hid HOF
 obtain ⟨qb,hqb⟩:∃ qb,w.heap.size=qb:=⟨_,rfl⟩
 obtain ⟨W0,hW0⟩:∃ W0,((((w.alloc (.cells #[.int .i64 axl,.int .i64 axh,.int .i64 ayl,.int .i64 ayh,.int .i64 azl,.int .i64 azh,.int .i64 bxl,.int .i64 bxh,.int .i64 byl,.int .i64 byh,.int .i64 bzl,.int .i64 bzh] 208)).alloc (.cells #[.int .i64 dl,.int .i64 dh] 31)).alloc (.cells #[.int .i64 vxl,.int .i64 vxh,.int .i64 vyl,.int .i64 vyh,.int .i64 vzl,.int .i64 vzh] 34)).alloc (.cells #[.int .i64 fxl,.int .i64 fxh,.int .i64 fyl,.int .i64 fyh,.int .i64 fzl,.int .i64 fzh] 34)).alloc (.cells #[.int .i64 0,.int .i64 0,.int .i64 0,.int .i64 0,.int .i64 0,.int .i64 0,.int .i64 0,.int .i64 0,.int .i64 0,.int .i64 0,.int .i64 0,.int .i64 0] 208)=W0:=⟨_,rfl⟩
 have HF0:Hid (Fr w [(cb,153,iC [e])] [(qb,208,iC [axl,axh,ayl,ayh,azl,azh,bxl,bxh,byl,byh,bzl,bzh]),(qb+1,31,iC [dl,dh]),(qb+1+1,34,iC [vxl,vxh,vyl,vyh,vzl,vzh]),(qb+1+1+1,34,iC [fxl,fxh,fyl,fyh,fzl,fzh]),(qb+1+1+1+1,208,iC [0,0,0,0,0,0,0,0,0,0,0,0])] W0):=Lib.hid (by rw [← hW0];exact (((((Fr.start1 HKC.out).alloc (by simp [← hqb]) 208 #[.int .i64 axl,.int .i64 axh,.int .i64 ayl,.int .i64 ayh,.int .i64 azl,.int .i64 azh,.int .i64 bxl,.int .i64 bxh,.int .i64 byl,.int .i64 byh,.int .i64 bzl,.int .i64 bzh]).alloc (by simp [← hqb]) 31 #[.int .i64 dl,.int .i64 dh]).alloc (by simp [← hqb]) 34 #[.int .i64 vxl,.int .i64 vxh,.int .i64 vyl,.int .i64 vyh,.int .i64 vzl,.int .i64 vzh]).alloc (by simp [← hqb]) 34 #[.int .i64 fxl,.int .i64 fxh,.int .i64 fyl,.int .i64 fyh,.int .i64 fzl,.int .i64 fzh]).alloc (by simp [← hqb]) 208 #[.int .i64 0,.int .i64 0,.int .i64 0,.int .i64 0,.int .i64 0,.int .i64 0,.int .i64 0,.int .i64 0,.int .i64 0,.int .i64 0,.int .i64 0,.int .i64 0])
 clear hk
 go_enter Tryz.func163,Tryz.ntmps163
 go_upto_region 1 with (fail)
 clear hW0 hqb
 refine wp_region_fr [Kind.p,Kind.p,Kind.p,Kind.p,Kind.p,Kind.p,Kind.p,Kind.p,Kind.p,Kind.p,Kind.c 0,Kind.c 1,Kind.a 0,Kind.c 2] [10,11,13] [(12,34,fun k=>(if k≤2 then iC [0,0,0,0,0,0] else iC [pxl,pxh,pyl,pyh,pzl,pzh]))] w (fun k=>[(cb,153,#[(match k with | 0=>.int .i64 e | 1=>.int .i64 e1 | 2=>.int .i64 e2 | _=>.int .i64 e2)])]) (fun _=>_)
    (fun ix u _=>match ix with
     | 0=>u=.pointer (some ⟨cb,0,none⟩)
     | 1=>u=.pointer (some ⟨cb,0,none⟩)
     | 2=>u=.func (.func 116) #[.pointer (some ⟨cb,0,none⟩)] #[]
     | 3=>u=.agg #[.int .i64 axl,.int .i64 axh,.int .i64 ayl,.int .i64 ayh,.int .i64 azl,.int .i64 azh,.int .i64 bxl,.int .i64 bxh,.int .i64 byl,.int .i64 byh,.int .i64 bzl,.int .i64 bzh]
     | 4=>u=.agg #[.int .i64 axl,.int .i64 axh,.int .i64 ayl,.int .i64 ayh,.int .i64 azl,.int .i64 azh]
     | 5=>u=.pointer (some ⟨cb,0,none⟩)
     | 6=>u=.pointer (some ⟨cb,0,none⟩)
     | 7=>u=.func (.func 118) #[.pointer (some ⟨cb,0,none⟩)] #[]
     | 8=>u=.agg #[.int .i64 dl,.int .i64 dh]
     | 9=>u=.agg #[.int .i64 vxl,.int .i64 vxh,.int .i64 vyl,.int .i64 vyh,.int .i64 vzl,.int .i64 vzh]
     | 10=>u=.agg #[.int .i64 uxl,.int .i64 uxh,.int .i64 uyl,.int .i64 uyh,.int .i64 uzl,.int .i64 uzh]
     | 11=>u=.agg #[.int .i64 pxl,.int .i64 pxh,.int .i64 pyl,.int .i64 pyh,.int .i64 pzl,.int .i64 pzh]
     | 12=>u=.pointer (some ⟨gOf u,0,none⟩)
     | _=>True)
    (by kernel_rfl) (by kernel_rfl) (by kernel_rfl) [12] rfl (by decide) (by kernel_rfl) (by kernel_rfl) HF0.out ?_ ?_
 ·refine ⟨?_,?_,?_,?_,?_,?_,?_,?_,?_,?_,?_,?_,?_,?_,trivial⟩
  all_goals intro a w1 vs dn k K S hpre KE DE kk
  ·have e0:=KE 0 (by decide)
   go_simp;exact kk _ _ (by simp) bR rfl
  ·have e0:=KE 0 (by decide)
   go_simp;exact kk _ _ (by simp) bR rfl
  ·have e13:=dep (DE 1 _ 13 rfl rfl rfl)
   go_simp;exact kk _ _ (by simp) bR rfl
  ·have e6:=KE 6 (by decide)
   exact wpo_loadF 208 (.tmp 6) rfl qb 0 (by simpa [Act.eval] using e6) _ _ (S.fr.left.get 0 rfl) #[.int .i64 axl,.int .i64 axh,.int .i64 ayl,.int .i64 ayh,.int .i64 azl,.int .i64 azh,.int .i64 bxl,.int .i64 bxh,.int .i64 byl,.int .i64 byh,.int .i64 bzl,.int .i64 bzh] rfl _ und_208 rfl info_208 (kk _ _ (by simp) bR rfl)
  ·have e15:=dep (DE 3 _ 15 rfl rfl rfl)
   exact wpo_call 124 _ _ rfl #[.agg #[.int .i64 axl,.int .i64 axh,.int .i64 ayl,.int .i64 ayh,.int .i64 azl,.int .i64 azh,.int .i64 bxl,.int .i64 bxh,.int .i64 byl,.int .i64 byh,.int .i64 bzl,.int .i64 bzh]] (by simp [Act.eval,e15]) (fun args w=>by kernel_rfl)
    ((HPL.out w1).mono fun e w' ⟨he,hb⟩=>⟨_,he,kk _ _ (by simp) hb rfl⟩)
  ·have e0:=KE 0 (by decide)
   go_simp;exact kk _ _ (by simp) bR rfl
  ·have e0:=KE 0 (by decide)
   go_simp;exact kk _ _ (by simp) bR rfl
  ·have e18:=dep (DE 6 _ 18 rfl rfl rfl)
   go_simp;exact kk _ _ (by simp) bR rfl
  ·have e7:=KE 7 (by decide)
   exact wpo_loadF 31 (.tmp 7) rfl (qb+1) 0 (by simpa [Act.eval] using e7) _ _ (S.fr.left.get 1 rfl) #[.int .i64 dl,.int .i64 dh] rfl _ und_span rfl info_span (kk _ _ (by simp) bR rfl)
  ·have e8:=KE 8 (by decide)
   exact wpo_loadF 34 (.tmp 8) rfl (qb+1+1) 0 (by simpa [Act.eval] using e8) _ _ (S.fr.left.get 2 rfl) #[.int .i64 vxl,.int .i64 vxh,.int .i64 vyl,.int .i64 vyh,.int .i64 vzl,.int .i64 vzh] rfl _ und_34 rfl info_34 (kk _ _ (by simp) bR rfl)
  ·subst hpre
   have e17:=dep (DE 5 _ 17 rfl rfl rfl)
   have e19:=dep (DE 7 _ 19 rfl rfl rfl)
   have e20:=dep (DE 8 _ 20 rfl rfl rfl)
   have e21:=dep (DE 9 _ 21 rfl rfl rfl)
   exact wpo_call 169 _ _ rfl #[.pointer (some ⟨cb,0,none⟩),.func (.func 118) #[.pointer (some ⟨cb,0,none⟩)] #[],.agg #[.int .i64 dl,.int .i64 dh],.agg #[.int .i64 vxl,.int .i64 vxh,.int .i64 vyl,.int .i64 vyh,.int .i64 vzl,.int .i64 vzh]] (by simp [Act.eval,e17,e19,e20,e21]) (fun args w=>by kernel_rfl)
    ((H1.out w1 (S.fr.getO 0 rfl)).mono fun e w' ⟨he,hb⟩=>⟨_,he,kk _ _ (by simp) (Fr.stage (S.fr.turnO 0 rfl hb) (by exact ⟨rfl,trivial⟩)) rfl⟩)
  ·subst hpre
   have e12:=dep (DE 0 _ 12 rfl rfl rfl)
   have e14:=dep (DE 2 _ 14 rfl rfl rfl)
   have e16:=dep (DE 4 _ 16 rfl rfl rfl)
   have e22:=dep (DE 10 _ 22 rfl rfl rfl)
   exact wpo_call 166 _ _ rfl #[.pointer (some ⟨cb,0,none⟩),.func (.func 116) #[.pointer (some ⟨cb,0,none⟩)] #[],.agg #[.int .i64 axl,.int .i64 axh,.int .i64 ayl,.int .i64 ayh,.int .i64 azl,.int .i64 azh],.agg #[.int .i64 uxl,.int .i64 uxh,.int .i64 uyl,.int .i64 uyh,.int .i64 uzl,.int .i64 uzh]] (by simp [Act.eval,e12,e14,e16,e22]) (fun args w=>by kernel_rfl)
    ((H2.out w1 (S.fr.getO 0 rfl)).mono fun e w' ⟨he,hb⟩=>⟨_,he,kk _ _ (by simp) (Fr.stage (S.fr.turnO 0 rfl hb) (by exact ⟨rfl,trivial⟩)) rfl⟩)
  ·go_simp;exact kk _ _ (by simp) (by have h:=S.fr.alloc rfl 34 #[.int .i64 0,.int .i64 0,.int .i64 0,.int .i64 0,.int .i64 0,.int .i64 0];show Fr _ _ (_ ++ [(_,34,if k≤2 then _ else _)]) _;rw [if_pos (S.hi 2 13 rfl rfl)];exact h) rfl
  ·subst hpre
   have e11:=dep (DE 12 _ 11 rfl rfl rfl)
   have e23:=dep (DE 11 _ 23 rfl rfl rfl)
   have HS:=Fr.done S.fr (by exact ⟨S.done 12 rfl,trivial⟩)
   exact wpo_storeF 34 (.tmp 11) (.tmp 23) rfl rfl ((gOf (vs 12))) 0 (by simpa [Act.eval] using e11) #[.int .i64 pxl,.int .i64 pxh,.int .i64 pyl,.int .i64 pyh,.int .i64 pzl,.int .i64 pzh] (by simpa [Act.eval] using e23) _ _ (iC [pxl,pxh,pyl,pyh,pzl,pzh]) (HS.get 5 rfl) rfl (by show 0+6≤6;omega) (one_all rfl) info_34 fun w' hk ho=>kk _ _ (by simp) (Fr.undone (HS.only 5 rfl ho hk) (by exact ⟨S.done 12 rfl,trivial⟩)) trivial
 ·intro vs wf HFr HR
  have HFr':Fr w [(cb,153,iC [e2])] [(qb,208,iC [axl,axh,ayl,ayh,azl,azh,bxl,bxh,byl,byh,bzl,bzh]),(qb+1,31,iC [dl,dh]),(qb+1+1,34,iC [vxl,vxh,vyl,vyh,vzl,vzh]),(qb+1+1+1,34,iC [fxl,fxh,fyl,fyh,fzl,fzh]),(qb+1+1+1+1,208,iC [0,0,0,0,0,0,0,0,0,0,0,0]),((gOf (vs 12)),34,iC [pxl,pxh,pyl,pyh,pzl,pzh])] wf:=HFr
  have v12:vs 12=.pointer (some ⟨(gOf (vs 12)),0,none⟩):=HR 12 _ rfl
  clear HFr HR
  obtain ⟨g1_12,hg1_12⟩:∃ g,gOf (vs 12)=g:=⟨_,rfl⟩
  rw [hg1_12] at HFr'
  rw [hg1_12] at v12
  clear hg1_12
  have HF1:=Lib.hid HFr'
  clear HFr'
  simp only [putAll,Act.put,List.setIfInBounds_toArray,List.set_cons_zero,List.set_cons_succ]
  simp only [v12]
  clear v12
  obtain ⟨w1,rfl⟩:∃ u:World,u=wf:=⟨_,rfl⟩
  go_upto_region 2 with (fail)
  refine wp_region_fr [Kind.p,Kind.p,Kind.p,Kind.p,Kind.p,Kind.p,Kind.p,Kind.p,Kind.p,Kind.p,Kind.p,Kind.c 0,Kind.c 1,Kind.p,Kind.c 2] [11,12,14] [] w (fun k=>[(cb,153,#[(match k with | 0=>.int .i64 e2 | 1=>.int .i64 e3 | 2=>.int .i64 e4 | _=>.int .i64 e4)])]) (fun k=>[(qb,208,iC [axl,axh,ayl,ayh,azl,azh,bxl,bxh,byl,byh,bzl,bzh]),(qb+1,31,iC [dl,dh]),(qb+1+1,34,iC [vxl,vxh,vyl,vyh,vzl,vzh]),(qb+1+1+1,34,iC [fxl,fxh,fyl,fyh,fzl,fzh]),(qb+1+1+1+1,208,(if k≤2 then iC [0,0,0,0,0,0,0,0,0,0,0,0] else iC [pxl,pxh,pyl,pyh,pzl,pzh,qxl,qxh,qyl,qyh,qzl,qzh])),(g1_12,34,iC [pxl,pxh,pyl,pyh,pzl,pzh])])
     (fun ix u _=>match ix with
      | 0=>u=.agg #[.int .i64 pxl,.int .i64 pxh,.int .i64 pyl,.int .i64 pyh,.int .i64 pzl,.int .i64 pzh]
      | 1=>u=.pointer (some ⟨cb,0,none⟩)
      | 2=>u=.pointer (some ⟨cb,0,none⟩)
      | 3=>u=.func (.func 116) #[.pointer (some ⟨cb,0,none⟩)] #[]
      | 4=>u=.agg #[.int .i64 axl,.int .i64 axh,.int .i64 ayl,.int .i64 ayh,.int .i64 azl,.int .i64 azh,.int .i64 bxl,.int .i64 bxh,.int .i64 byl,.int .i64 byh,.int .i64 bzl,.int .i64 bzh]
      | 5=>u=.agg #[.int .i64 bxl,.int .i64 bxh,.int .i64 byl,.int .i64 byh,.int .i64 bzl,.int .i64 bzh]
      | 6=>u=.pointer (some ⟨cb,0,none⟩)
      | 7=>u=.pointer (some ⟨cb,0,none⟩)
      | 8=>u=.func (.func 118) #[.pointer (some ⟨cb,0,none⟩)] #[]
      | 9=>u=.agg #[.int .i64 dl,.int .i64 dh]
      | 10=>u=.agg #[.int .i64 fxl,.int .i64 fxh,.int .i64 fyl,.int .i64 fyh,.int .i64 fzl,.int .i64 fzh]
      | 11=>u=.agg #[.int .i64 gxl,.int .i64 gxh,.int .i64 gyl,.int .i64 gyh,.int .i64 gzl,.int .i64 gzh]
      | 12=>u=.agg #[.int .i64 qxl,.int .i64 qxh,.int .i64 qyl,.int .i64 qyh,.int .i64 qzl,.int .i64 qzh]
      | 13=>u=.agg #[.int .i64 pxl,.int .i64 pxh,.int .i64 pyl,.int .i64 pyh,.int .i64 pzl,.int .i64 pzh,.int .i64 qxl,.int .i64 qxh,.int .i64 qyl,.int .i64 qyh,.int .i64 qzl,.int .i64 qzh]
      | _=>True)
     (by kernel_rfl) (by kernel_rfl) (by kernel_rfl) [] rfl (by decide) (by kernel_rfl) (by kernel_rfl) HF1.out ?_ ?_
  ·refine ⟨?_,?_,?_,?_,?_,?_,?_,?_,?_,?_,?_,?_,?_,?_,?_,trivial⟩
   all_goals intro a w1 vs dn k K S hpre KE DE kk
   ·have e11:=KE 11 (by decide)
    exact wpo_loadF 34 (.tmp 11) rfl g1_12 0 (by simpa [Act.eval] using e11) _ _ (S.fr.left.get 5 rfl) #[.int .i64 pxl,.int .i64 pxh,.int .i64 pyl,.int .i64 pyh,.int .i64 pzl,.int .i64 pzh] rfl _ und_34 rfl info_34 (kk _ _ (by simp) bR rfl)
   ·have e0:=KE 0 (by decide)
    go_simp;exact kk _ _ (by simp) bR rfl
   ·have e0:=KE 0 (by decide)
    go_simp;exact kk _ _ (by simp) bR rfl
   ·have e26:=dep (DE 2 _ 26 rfl rfl rfl)
    go_simp;exact kk _ _ (by simp) bR rfl
   ·have e6:=KE 6 (by decide)
    exact wpo_loadF 208 (.tmp 6) rfl qb 0 (by simpa [Act.eval] using e6) _ _ (S.fr.left.get 0 rfl) #[.int .i64 axl,.int .i64 axh,.int .i64 ayl,.int .i64 ayh,.int .i64 azl,.int .i64 azh,.int .i64 bxl,.int .i64 bxh,.int .i64 byl,.int .i64 byh,.int .i64 bzl,.int .i64 bzh] rfl _ und_208 rfl info_208 (kk _ _ (by simp) bR rfl)
   ·have e28:=dep (DE 4 _ 28 rfl rfl rfl)
    exact wpo_call 125 _ _ rfl #[.agg #[.int .i64 axl,.int .i64 axh,.int .i64 ayl,.int .i64 ayh,.int .i64 azl,.int .i64 azh,.int .i64 bxl,.int .i64 bxh,.int .i64 byl,.int .i64 byh,.int .i64 bzl,.int .i64 bzh]] (by simp [Act.eval,e28]) (fun args w=>by kernel_rfl)
     ((HSPD.out w1).mono fun e w' ⟨he,hb⟩=>⟨_,he,kk _ _ (by simp) hb rfl⟩)
   ·have e0:=KE 0 (by decide)
    go_simp;exact kk _ _ (by simp) bR rfl
   ·have e0:=KE 0 (by decide)
    go_simp;exact kk _ _ (by simp) bR rfl
   ·have e31:=dep (DE 7 _ 31 rfl rfl rfl)
    go_simp;exact kk _ _ (by simp) bR rfl
   ·have e7:=KE 7 (by decide)
    exact wpo_loadF 31 (.tmp 7) rfl (qb+1) 0 (by simpa [Act.eval] using e7) _ _ (S.fr.left.get 1 rfl) #[.int .i64 dl,.int .i64 dh] rfl _ und_span rfl info_span (kk _ _ (by simp) bR rfl)
   ·have e9:=KE 9 (by decide)
    exact wpo_loadF 34 (.tmp 9) rfl (qb+1+1+1) 0 (by simpa [Act.eval] using e9) _ _ (S.fr.left.get 3 rfl) #[.int .i64 fxl,.int .i64 fxh,.int .i64 fyl,.int .i64 fyh,.int .i64 fzl,.int .i64 fzh] rfl _ und_34 rfl info_34 (kk _ _ (by simp) bR rfl)
   ·subst hpre
    have e30:=dep (DE 6 _ 30 rfl rfl rfl)
    have e32:=dep (DE 8 _ 32 rfl rfl rfl)
    have e33:=dep (DE 9 _ 33 rfl rfl rfl)
    have e34:=dep (DE 10 _ 34 rfl rfl rfl)
    exact wpo_call 169 _ _ rfl #[.pointer (some ⟨cb,0,none⟩),.func (.func 118) #[.pointer (some ⟨cb,0,none⟩)] #[],.agg #[.int .i64 dl,.int .i64 dh],.agg #[.int .i64 fxl,.int .i64 fxh,.int .i64 fyl,.int .i64 fyh,.int .i64 fzl,.int .i64 fzh]] (by simp [Act.eval,e30,e32,e33,e34]) (fun args w=>by kernel_rfl)
     ((H3.out w1 (S.fr.getO 0 rfl)).mono fun e w' ⟨he,hb⟩=>⟨_,he,kk _ _ (by simp) (Fr.stage (S.fr.turnO 0 rfl hb) (by exact trivial)) rfl⟩)
   ·subst hpre
    have e25:=dep (DE 1 _ 25 rfl rfl rfl)
    have e27:=dep (DE 3 _ 27 rfl rfl rfl)
    have e29:=dep (DE 5 _ 29 rfl rfl rfl)
    have e35:=dep (DE 11 _ 35 rfl rfl rfl)
    exact wpo_call 166 _ _ rfl #[.pointer (some ⟨cb,0,none⟩),.func (.func 116) #[.pointer (some ⟨cb,0,none⟩)] #[],.agg #[.int .i64 bxl,.int .i64 bxh,.int .i64 byl,.int .i64 byh,.int .i64 bzl,.int .i64 bzh],.agg #[.int .i64 gxl,.int .i64 gxh,.int .i64 gyl,.int .i64 gyh,.int .i64 gzl,.int .i64 gzh]] (by simp [Act.eval,e25,e27,e29,e35]) (fun args w=>by kernel_rfl)
     ((H4.out w1 (S.fr.getO 0 rfl)).mono fun e w' ⟨he,hb⟩=>⟨_,he,kk _ _ (by simp) (Fr.stage (S.fr.turnO 0 rfl hb) (by exact trivial)) rfl⟩)
   ·have e24:=dep (DE 0 _ 24 rfl rfl rfl)
    have e36:=dep (DE 12 _ 36 rfl rfl rfl)
    exact wpo_call 119 _ _ rfl #[.agg #[.int .i64 pxl,.int .i64 pxh,.int .i64 pyl,.int .i64 pyh,.int .i64 pzl,.int .i64 pzh],.agg #[.int .i64 qxl,.int .i64 qxh,.int .i64 qyl,.int .i64 qyh,.int .i64 qzl,.int .i64 qzh]] (by simp [Act.eval,e24,e36]) (fun args w=>by kernel_rfl)
     ((HOF.out w1).mono fun e w' ⟨he,hb⟩=>⟨_,he,kk _ _ (by simp) hb rfl⟩)
   ·subst hpre
    have e10:=KE 10 (by decide)
    have e37:=dep (DE 13 _ 37 rfl rfl rfl)
    exact wpo_storeF 208 (.tmp 10) (.tmp 37) rfl rfl (qb+1+1+1+1) 0 (by simpa [Act.eval] using e10) #[.int .i64 pxl,.int .i64 pxh,.int .i64 pyl,.int .i64 pyh,.int .i64 pzl,.int .i64 pzh,.int .i64 qxl,.int .i64 qxh,.int .i64 qyl,.int .i64 qyh,.int .i64 qzl,.int .i64 qzh] (by simpa [Act.eval] using e37) _ _ (iC [pxl,pxh,pyl,pyh,pzl,pzh,qxl,qxh,qyl,qyh,qzl,qzh]) (by have:=S.fr.left.get 4 rfl;rw [if_pos (S.hi 2 14 rfl rfl)] at this;exact this) rfl (by show 0+12≤12;omega) (one_all rfl) info_208 fun w' hk ho=>kk _ _ (by simp) (Fr.stage (S.fr.only 4 rfl ho hk) (by exact trivial)) trivial
  ·intro vs wf HFr HR
   have HFr':Fr w [(cb,153,iC [e4])] [(qb,208,iC [axl,axh,ayl,ayh,azl,azh,bxl,bxh,byl,byh,bzl,bzh]),(qb+1,31,iC [dl,dh]),(qb+1+1,34,iC [vxl,vxh,vyl,vyh,vzl,vzh]),(qb+1+1+1,34,iC [fxl,fxh,fyl,fyh,fzl,fzh]),(qb+1+1+1+1,208,iC [pxl,pxh,pyl,pyh,pzl,pzh,qxl,qxh,qyl,qyh,qzl,qzh]),(g1_12,34,iC [pxl,pxh,pyl,pyh,pzl,pzh])] wf:=HFr
   clear HFr HR
   have HF2:=Lib.hid HFr'
   clear HFr'
   simp only [putAll,Act.put,List.setIfInBounds_toArray,List.set_cons_zero,List.set_cons_succ]
   obtain ⟨w2,rfl⟩:∃ u:World,u=wf:=⟨_,rfl⟩
   go_wp2_with fail
   refine ret_agg rfl rfl rfl (HF2.out.get 4 rfl) und_208 rfl info_208 ?_
   exact HFIN.out _ _ rfl HF2.out.drop
/-- A planet and an arc. -/
def modelV (p:PlanetD) (a:ArcD) (A:Option Addr) (n c:Nat):Value:=.agg #[.int .i64 p.mu.lo,.int .i64 p.mu.hi,.int .i64 p.radius.lo,.int .i64 p.radius.hi,.int .i64 p.oblate.lo,.int .i64 p.oblate.hi,.int .i64 p.spin.lo,.int .i64 p.spin.hi,.int .i64 p.pull.x.lo,.int .i64 p.pull.x.hi,.int .i64 p.pull.y.lo,.int .i64 p.pull.y.hi,.int .i64 p.pull.z.lo,.int .i64 p.pull.z.hi,.int .i64 a.time,.int .i64 a.step,.int .i64 a.thrust.lo,.int .i64 a.thrust.hi,.int .i64 a.flow.lo,.int .i64 a.flow.hi,.int .i64 a.dir.x.lo,.int .i64 a.dir.x.hi,.int .i64 a.dir.y.lo,.int .i64 a.dir.y.hi,.int .i64 a.dir.z.lo,.int .i64 a.dir.z.hi,.slice A n c,.int .i64 a.drop.lo,.int .i64 a.drop.hi]
theorem zero0_any (w:World):Calls Tryz.prog 165 #[.agg #[.int .i64 0,.int .i64 0]] w fun e w'=>e=.returned (.bool true)∧Below w.heap.size w w':=zeroS_any zeroS w
theorem force0_any (p:PlanetD) (a:ArcD) (A:Option Addr) (c:Nat) (hmu:p.mu=zeroS) (hsp:p.spin=zeroS) (hth:a.thrust=zeroS) (cb:Nat) (e:Int) (x:SixD) (m:SpanD) (w:World) (hk:Bk w cb 153 #[.int .i64 e]) :
  Calls Tryz.prog 121 #[modelV p a A 0 c,.pointer (some ⟨cb,0,none⟩),sixV x,spanV m] w (CkBox cb (p.pull,e) w):=by
 have HKC:=Lib.hid hk
 have HPL:=fun w=>place_any x w
 have HSPD:=fun w=>speed_any x w
 have HZ:=Lib.hid zero0_any
 obtain ⟨⟨mul,muh⟩,⟨rl,rh⟩,⟨ol,oh⟩,⟨sl,sh⟩,⟨⟨pxl,pxh⟩,⟨pyl,pyh⟩,⟨pzl,pzh⟩⟩⟩:=p
 obtain ⟨time,step,⟨tl,th⟩,⟨fl,fh⟩,⟨⟨dxl,dxh⟩,⟨dyl,dyh⟩,⟨dzl,dzh⟩⟩,drag,⟨dl,dh⟩⟩:=a
 obtain ⟨ml,mh⟩:=m
 obtain ⟨⟨⟨axl,axh⟩,⟨ayl,ayh⟩,⟨azl,azh⟩⟩,⟨⟨bxl,bxh⟩,⟨byl,byh⟩,⟨bzl,bzh⟩⟩⟩:=x
 unfold zeroS at hmu hsp hth
 injection hmu with h1 h2
 injection hsp with h3 h4
 injection hth with h5 h6
 subst h1 h2 h3 h4 h5 h6
 have HFIN:Hid (∀ w',Fr w [(cb,153,#[.int .i64 e])] [] w'→CkBox cb (⟨⟨pxl,pxh⟩,⟨pyl,pyh⟩,⟨pzl,pzh⟩⟩,e) w (.returned (.agg #[.int .i64 pxl,.int .i64 pxh,.int .i64 pyl,.int .i64 pyh,.int .i64 pzl,.int .i64 pzh])) w'):=Lib.hid fun w' h=>⟨rfl,h⟩
 obtain ⟨PQ,hPQ⟩:∃ Q,CkBox cb (⟨⟨pxl,pxh⟩,⟨pyl,pyh⟩,⟨pzl,pzh⟩⟩,e) w=Q:=⟨_,rfl⟩
 dsimp only
 rw [hPQ] at HFIN ⊢
 clear hPQ
 unfold sixV boxV at HPL HSPD
 unfold modelV sixV spanV
 dsimp only at HPL HSPD ⊢
 replace HPL:=Lib.hid HPL
 replace HSPD:=Lib.hid HSPD
 obtain ⟨qb,hqb⟩:∃ qb,w.heap.size=qb:=⟨_,rfl⟩
 obtain ⟨W0,hW0⟩:∃ W0,(((w.alloc (.cells #[.int .i64 0,.int .i64 0,.int .i64 rl,.int .i64 rh,.int .i64 ol,.int .i64 oh,.int .i64 0,.int .i64 0,.int .i64 pxl,.int .i64 pxh,.int .i64 pyl,.int .i64 pyh,.int .i64 pzl,.int .i64 pzh,.int .i64 time,.int .i64 step,.int .i64 0,.int .i64 0,.int .i64 fl,.int .i64 fh,.int .i64 dxl,.int .i64 dxh,.int .i64 dyl,.int .i64 dyh,.int .i64 dzl,.int .i64 dzh,.slice A 0 c,.int .i64 dl,.int .i64 dh] 160)).alloc (.cells #[.int .i64 axl,.int .i64 axh,.int .i64 ayl,.int .i64 ayh,.int .i64 azl,.int .i64 azh,.int .i64 bxl,.int .i64 bxh,.int .i64 byl,.int .i64 byh,.int .i64 bzl,.int .i64 bzh] 208)).alloc (.cells #[.int .i64 ml,.int .i64 mh] 31)).alloc (.cells #[.int .i64 0,.int .i64 0,.int .i64 0,.int .i64 0,.int .i64 0,.int .i64 0] 34)=W0:=⟨_,rfl⟩
 have HF0:Hid (Fr w [(cb,153,iC [e])] [(qb,160,#[.int .i64 0,.int .i64 0,.int .i64 rl,.int .i64 rh,.int .i64 ol,.int .i64 oh,.int .i64 0,.int .i64 0,.int .i64 pxl,.int .i64 pxh,.int .i64 pyl,.int .i64 pyh,.int .i64 pzl,.int .i64 pzh,.int .i64 time,.int .i64 step,.int .i64 0,.int .i64 0,.int .i64 fl,.int .i64 fh,.int .i64 dxl,.int .i64 dxh,.int .i64 dyl,.int .i64 dyh,.int .i64 dzl,.int .i64 dzh,.slice A 0 c,.int .i64 dl,.int .i64 dh]),(qb+1,208,iC [axl,axh,ayl,ayh,azl,azh,bxl,bxh,byl,byh,bzl,bzh]),(qb+1+1,31,iC [ml,mh]),(qb+1+1+1,34,iC [0,0,0,0,0,0])] W0):=Lib.hid (by rw [← hW0];exact ((((Fr.start1 HKC.out).alloc (by simp [← hqb]) 160 #[.int .i64 0,.int .i64 0,.int .i64 rl,.int .i64 rh,.int .i64 ol,.int .i64 oh,.int .i64 0,.int .i64 0,.int .i64 pxl,.int .i64 pxh,.int .i64 pyl,.int .i64 pyh,.int .i64 pzl,.int .i64 pzh,.int .i64 time,.int .i64 step,.int .i64 0,.int .i64 0,.int .i64 fl,.int .i64 fh,.int .i64 dxl,.int .i64 dxh,.int .i64 dyl,.int .i64 dyh,.int .i64 dzl,.int .i64 dzh,.slice A 0 c,.int .i64 dl,.int .i64 dh]).alloc (by simp [← hqb]) 208 #[.int .i64 axl,.int .i64 axh,.int .i64 ayl,.int .i64 ayh,.int .i64 azl,.int .i64 azh,.int .i64 bxl,.int .i64 bxh,.int .i64 byl,.int .i64 byh,.int .i64 bzl,.int .i64 bzh]).alloc (by simp [← hqb]) 31 #[.int .i64 ml,.int .i64 mh]).alloc (by simp [← hqb]) 34 #[.int .i64 0,.int .i64 0,.int .i64 0,.int .i64 0,.int .i64 0,.int .i64 0])
 clear hk
 go_enter Tryz.func121,Tryz.ntmps121
 go_upto_region 1 with (fail)
 clear hW0 hqb
 obtain ⟨g1,hg1⟩:∃ g,W0.heap.size=g:=⟨_,rfl⟩
 obtain ⟨w1,hw1⟩:∃ u,W0.alloc (.cells #[.int .i64 0,.int .i64 0,.int .i64 0,.int .i64 0,.int .i64 0,.int .i64 0] 34)=u:=⟨_,rfl⟩
 have HF2:=Lib.hid (frE hw1 (HF0.out.alloc hg1.symm 34 #[.int .i64 0,.int .i64 0,.int .i64 0,.int .i64 0,.int .i64 0,.int .i64 0]))
 go_upto_region 2 with (first
   | (refine wpLoadF rfl 34 _ rfl qb 8 rfl _ _ (HF0.out.get 0 rfl) #[.int .i64 pxl,.int .i64 pxh,.int .i64 pyl,.int .i64 pyh,.int .i64 pzl,.int .i64 pzh] rfl _ und_34 rfl info_34 ?_)
   | (refine wpStoreF rfl rfl 34 _ _ rfl g1 0 rfl #[.int .i64 pxl,.int .i64 pxh,.int .i64 pyl,.int .i64 pyh,.int .i64 pzl,.int .i64 pzh] rfl _ _ (iC [pxl,pxh,pyl,pyh,pzl,pzh]) (HF2.out.get 4 rfl) rfl (by show 0+6≤6;omega) (one_all rfl) info_34 ?_;intro w3 hk ho;clear hw1 hg1;have HF4:=Lib.hid (HF2.out.only 4 rfl ho hk);clear ho hk))
 refine wp_region_fr [Kind.p,Kind.p,Kind.p,Kind.p,Kind.a 0,Kind.a 1,Kind.c 0,Kind.c 1] [6,7] [(4,34,fun k=>(if k≤0 then iC [0,0,0,0,0,0] else iC [axl,axh,ayl,ayh,azl,azh])),(5,34,fun k=>(if k≤1 then iC [0,0,0,0,0,0] else iC [bxl,bxh,byl,byh,bzl,bzh]))] w (fun _=>_) (fun _=>_)
    (fun ix u _=>match ix with
     | 0=>u=.agg #[.int .i64 axl,.int .i64 axh,.int .i64 ayl,.int .i64 ayh,.int .i64 azl,.int .i64 azh,.int .i64 bxl,.int .i64 bxh,.int .i64 byl,.int .i64 byh,.int .i64 bzl,.int .i64 bzh]
     | 1=>u=.agg #[.int .i64 axl,.int .i64 axh,.int .i64 ayl,.int .i64 ayh,.int .i64 azl,.int .i64 azh]
     | 2=>u=.agg #[.int .i64 axl,.int .i64 axh,.int .i64 ayl,.int .i64 ayh,.int .i64 azl,.int .i64 azh,.int .i64 bxl,.int .i64 bxh,.int .i64 byl,.int .i64 byh,.int .i64 bzl,.int .i64 bzh]
     | 3=>u=.agg #[.int .i64 bxl,.int .i64 bxh,.int .i64 byl,.int .i64 byh,.int .i64 bzl,.int .i64 bzh]
     | 4=>u=.pointer (some ⟨gOf u,0,none⟩)
     | 5=>u=.pointer (some ⟨gOf u,0,none⟩)
     | _=>True)
    (by kernel_rfl) (by kernel_rfl) (by kernel_rfl) [4,5] rfl (by decide) (by kernel_rfl) (by kernel_rfl) HF4.out ?_ ?_
 ·refine ⟨?_,?_,?_,?_,?_,?_,?_,?_,trivial⟩
  all_goals intro a w1 vs dn k K S hpre KE DE kk
  ·have e6:=KE 6 (by decide)
   exact wpo_loadF 208 (.tmp 6) rfl (qb+1) 0 (by simpa [Act.eval] using e6) _ _ (S.fr.left.get 1 rfl) #[.int .i64 axl,.int .i64 axh,.int .i64 ayl,.int .i64 ayh,.int .i64 azl,.int .i64 azh,.int .i64 bxl,.int .i64 bxh,.int .i64 byl,.int .i64 byh,.int .i64 bzl,.int .i64 bzh] rfl _ und_208 rfl info_208 (kk _ _ (by simp) bR rfl)
  ·have e21:=dep (DE 0 _ 21 rfl rfl rfl)
   exact wpo_call 124 _ _ rfl #[.agg #[.int .i64 axl,.int .i64 axh,.int .i64 ayl,.int .i64 ayh,.int .i64 azl,.int .i64 azh,.int .i64 bxl,.int .i64 bxh,.int .i64 byl,.int .i64 byh,.int .i64 bzl,.int .i64 bzh]] (by simp [Act.eval,e21]) (fun args w=>by kernel_rfl)
    ((HPL.out w1).mono fun e w' ⟨he,hb⟩=>⟨_,he,kk _ _ (by simp) hb rfl⟩)
  ·have e6:=KE 6 (by decide)
   exact wpo_loadF 208 (.tmp 6) rfl (qb+1) 0 (by simpa [Act.eval] using e6) _ _ (S.fr.left.get 1 rfl) #[.int .i64 axl,.int .i64 axh,.int .i64 ayl,.int .i64 ayh,.int .i64 azl,.int .i64 azh,.int .i64 bxl,.int .i64 bxh,.int .i64 byl,.int .i64 byh,.int .i64 bzl,.int .i64 bzh] rfl _ und_208 rfl info_208 (kk _ _ (by simp) bR rfl)
  ·have e23:=dep (DE 2 _ 23 rfl rfl rfl)
   exact wpo_call 125 _ _ rfl #[.agg #[.int .i64 axl,.int .i64 axh,.int .i64 ayl,.int .i64 ayh,.int .i64 azl,.int .i64 azh,.int .i64 bxl,.int .i64 bxh,.int .i64 byl,.int .i64 byh,.int .i64 bzl,.int .i64 bzh]] (by simp [Act.eval,e23]) (fun args w=>by kernel_rfl)
    ((HSPD.out w1).mono fun e w' ⟨he,hb⟩=>⟨_,he,kk _ _ (by simp) hb rfl⟩)
  ·go_simp;exact kk _ _ (by simp) (by have h:=S.fr.alloc rfl 34 #[.int .i64 0,.int .i64 0,.int .i64 0,.int .i64 0,.int .i64 0,.int .i64 0];show Fr _ _ (_ ++ [(_,34,if k≤0 then _ else _)]) _;rw [if_pos (S.hi 0 6 rfl rfl)];exact h) rfl
  ·go_simp;exact kk _ _ (by simp) (by have h:=S.fr.alloc rfl 34 #[.int .i64 0,.int .i64 0,.int .i64 0,.int .i64 0,.int .i64 0,.int .i64 0];show Fr _ _ (_ ++ [(_,34,if k≤1 then _ else _)]) _;rw [if_pos (S.hi 1 7 rfl rfl)];exact h) rfl
  ·subst hpre
   have e10:=dep (DE 4 _ 10 rfl rfl rfl)
   have e22:=dep (DE 1 _ 22 rfl rfl rfl)
   have HS:=Fr.done S.fr (by exact ⟨S.done 4 rfl,S.done 5 rfl,trivial⟩)
   exact wpo_storeF 34 (.tmp 10) (.tmp 22) rfl rfl ((gOf (vs 4))) 0 (by simpa [Act.eval] using e10) #[.int .i64 axl,.int .i64 axh,.int .i64 ayl,.int .i64 ayh,.int .i64 azl,.int .i64 azh] (by simpa [Act.eval] using e22) _ _ (iC [axl,axh,ayl,ayh,azl,azh]) (HS.get 5 rfl) rfl (by show 0+6≤6;omega) (one_all rfl) info_34 fun w' hk ho=>kk _ _ (by simp) (Fr.undone (HS.only 5 rfl ho hk) (by exact ⟨S.done 4 rfl,S.done 5 rfl,trivial⟩)) trivial
  ·subst hpre
   have e11:=dep (DE 5 _ 11 rfl rfl rfl)
   have e24:=dep (DE 3 _ 24 rfl rfl rfl)
   have HS:=Fr.done S.fr (by exact ⟨S.done 4 rfl,S.done 5 rfl,trivial⟩)
   exact wpo_storeF 34 (.tmp 11) (.tmp 24) rfl rfl ((gOf (vs 5))) 0 (by simpa [Act.eval] using e11) #[.int .i64 bxl,.int .i64 bxh,.int .i64 byl,.int .i64 byh,.int .i64 bzl,.int .i64 bzh] (by simpa [Act.eval] using e24) _ _ (iC [bxl,bxh,byl,byh,bzl,bzh]) (HS.get 6 rfl) rfl (by show 0+6≤6;omega) (one_all rfl) info_34 fun w' hk ho=>kk _ _ (by simp) (Fr.undone (HS.only 6 rfl ho hk) (by exact ⟨S.done 4 rfl,S.done 5 rfl,trivial⟩)) trivial
 ·intro vs wf HFr HR
  have HFr':Fr w [(cb,153,iC [e])] [(qb,160,#[.int .i64 0,.int .i64 0,.int .i64 rl,.int .i64 rh,.int .i64 ol,.int .i64 oh,.int .i64 0,.int .i64 0,.int .i64 pxl,.int .i64 pxh,.int .i64 pyl,.int .i64 pyh,.int .i64 pzl,.int .i64 pzh,.int .i64 time,.int .i64 step,.int .i64 0,.int .i64 0,.int .i64 fl,.int .i64 fh,.int .i64 dxl,.int .i64 dxh,.int .i64 dyl,.int .i64 dyh,.int .i64 dzl,.int .i64 dzh,.slice A 0 c,.int .i64 dl,.int .i64 dh]),(qb+1,208,iC [axl,axh,ayl,ayh,azl,azh,bxl,bxh,byl,byh,bzl,bzh]),(qb+1+1,31,iC [ml,mh]),(qb+1+1+1,34,iC [0,0,0,0,0,0]),(g1,34,iC [pxl,pxh,pyl,pyh,pzl,pzh]),((gOf (vs 4)),34,iC [axl,axh,ayl,ayh,azl,azh]),((gOf (vs 5)),34,iC [bxl,bxh,byl,byh,bzl,bzh])] wf:=HFr
  have v4:vs 4=.pointer (some ⟨(gOf (vs 4)),0,none⟩):=HR 4 _ rfl
  have v5:vs 5=.pointer (some ⟨(gOf (vs 5)),0,none⟩):=HR 5 _ rfl
  clear HFr HR
  obtain ⟨g5_4,hg5_4⟩:∃ g,gOf (vs 4)=g:=⟨_,rfl⟩
  obtain ⟨g5_5,hg5_5⟩:∃ g,gOf (vs 5)=g:=⟨_,rfl⟩
  rw [hg5_4,hg5_5] at HFr'
  rw [hg5_4] at v4
  rw [hg5_5] at v5
  clear hg5_4 hg5_5
  have HF5:=Lib.hid HFr'
  clear HFr'
  simp only [putAll,Act.put,List.setIfInBounds_toArray,List.set_cons_zero,List.set_cons_succ]
  simp only [v4,v5]
  clear v4 v5
  obtain ⟨w5,rfl⟩:∃ u:World,u=wf:=⟨_,rfl⟩
  obtain ⟨g6,hg6⟩:∃ g,w5.heap.size=g:=⟨_,rfl⟩
  obtain ⟨w6,hw6⟩:∃ u,w5.alloc (.cells #[.int .i64 0,.int .i64 0] 31)=u:=⟨_,rfl⟩
  have HF7:=Lib.hid (frE hw6 (HF5.out.alloc hg6.symm 31 #[.int .i64 0,.int .i64 0]))
  go_wp2_with (refine wpLoadF rfl 31 _ rfl qb 0 rfl _ _ (HF7.out.get 0 rfl) #[.int .i64 0,.int .i64 0] rfl _ und_span rfl info_span ?_)
  clear hw6 hg6
  refine (HZ.out _).mono ?_
  rintro e w8 ⟨rfl,hw⟩
  have HF9:=Lib.hid (HF7.out.below hw)
  clear hw
  have c10:w8.cell? ⟨qb,26,none⟩=some (.slice A 0 c):=(HF9.out.get 0 rfl).cell 26
  go_wp2_with (refine wpLoadF rfl 31 _ rfl qb 0 rfl _ _ (HF9.out.get 0 rfl) #[.int .i64 0,.int .i64 0] rfl _ und_span rfl info_span ?_)
  clear c10
  refine (HZ.out _).mono ?_
  rintro e w11 ⟨rfl,hw⟩
  have HF12:=Lib.hid (HF9.out.below hw)
  clear hw
  obtain ⟨g13,hg13⟩:∃ g,w11.heap.size=g:=⟨_,rfl⟩
  obtain ⟨w13,hw13⟩:∃ u,w11.alloc (.cells #[.int .i64 0,.int .i64 0] 31)=u:=⟨_,rfl⟩
  have HF14:=Lib.hid (frE hw13 (HF12.out.alloc hg13.symm 31 #[.int .i64 0,.int .i64 0]))
  go_wp2_with (first
    | (refine wpLoadF rfl 31 _ rfl qb 6 rfl _ _ (HF12.out.get 0 rfl) #[.int .i64 0,.int .i64 0] rfl _ und_span rfl info_span ?_)
    | (refine wpLoadF rfl 31 _ rfl g13 0 rfl _ _ (HF16.out.get 8 rfl) #[.int .i64 0,.int .i64 0] rfl _ und_span rfl info_span ?_)
    | (refine wpStoreF rfl rfl 31 _ _ rfl g13 0 rfl #[.int .i64 0,.int .i64 0] rfl _ _ (iC [0,0]) (HF14.out.get 8 rfl) rfl (by show 0+2≤2;omega) (one_all rfl) info_span ?_;intro w15 hk ho;clear hw13 hg13;have HF16:=Lib.hid (HF14.out.only 8 rfl ho hk);clear ho hk))
  refine (HZ.out _).mono ?_
  rintro e w17 ⟨rfl,hw⟩
  have HF18:=Lib.hid (HF16.out.below hw)
  clear hw
  go_wp2_with (refine wpLoadF rfl 31 _ rfl qb 16 rfl _ _ (HF18.out.get 0 rfl) #[.int .i64 0,.int .i64 0] rfl _ und_span rfl info_span ?_)
  refine (HZ.out _).mono ?_
  rintro e w19 ⟨rfl,hw⟩
  have HF20:=Lib.hid (HF18.out.below hw)
  clear hw
  have c21:w19.cell? ⟨qb,26,none⟩=some (.slice A 0 c):=(HF20.out.get 0 rfl).cell 26
  go_wp2_with (first
    | (refine wpLoadF rfl 34 _ rfl g1 0 rfl _ _ (HF20.out.get 4 rfl) #[.int .i64 pxl,.int .i64 pxh,.int .i64 pyl,.int .i64 pyh,.int .i64 pzl,.int .i64 pzh] rfl _ und_34 rfl info_34 ?_)
    | (refine wpStoreF rfl rfl 34 _ _ rfl (qb+1+1+1) 0 rfl #[.int .i64 pxl,.int .i64 pxh,.int .i64 pyl,.int .i64 pyh,.int .i64 pzl,.int .i64 pzh] rfl _ _ (iC [pxl,pxh,pyl,pyh,pzl,pzh]) (HF20.out.get 3 rfl) rfl (by show 0+6≤6;omega) (one_all rfl) info_34 ?_;intro w22 hk ho;clear c21;have HF23:=Lib.hid (HF20.out.only 3 rfl ho hk);clear ho hk))
  refine ret_agg rfl rfl rfl (HF23.out.get 3 rfl) und_34 rfl info_34 ?_
  exact HFIN.out _ HF23.out.drop

theorem spans_any (w:World) (A:Option Addr) (n c:Nat) (v:Nat→SpanD) (h:SpansAt w w.heap.size A n v) (hn:n≤4096) :
  Calls Tryz.prog 91 #[.slice A n c] w fun e w'=>e=.returned (.bool (allN n fun i=>chkB (v i)))∧Below w.heap.size w w':=by
 have HL:=Lib.hid h
 obtain ⟨R,hR⟩:∃ R,(allN n fun i=>chkB (v i))=R:=⟨_,rfl⟩
 have HR:=Lib.hid hR
 rw [hR]
 clear h hR
 go_enter Tryz.func91,Tryz.ntmps91
 go_wp2_with fail
 go_loopw [7] (fun iv wr=>∃ k:Nat,k≤n∧iv=.int .i64 k∧Hid (Below w.heap.size w wr∧∀ j,j<k→chkB (v j)=true)) (fun iv _=>n - (intOf iv).toNat)
 case atStart=>exact ⟨0,Nat.zero_le _,rfl,Lib.hid ⟨Below.refl _ _,fun j hj=>absurd hj (Nat.not_lt_zero j)⟩⟩
 case round =>
  obtain ⟨wo,rfl⟩:∃ wo:World,wo=wr:=⟨_,rfl⟩
  obtain ⟨k,hk,rfl,hs⟩:=hrel
  have HB:=Lib.hid hs.out.1
  have HNO:=Lib.hid hs.out.2
  clear hs
  have h0k:(0:Int)≤(k:Int):=by omega
  by_cases hlt:k<n
  ·have hki:(k:Int)<(n:Int):=by omega
   obtain ⟨b,off,rfl,hbl,d0,d1⟩:=(HL.out.below HB.out).at2 hlt
   obtain ⟨x,hx⟩:∃ x,v k=x:=⟨_,rfl⟩
   simp only [hx] at d0 d1
   have H1:=Lib.hid (fun w=>check_any x w)
   unfold spanV at H1
   obtain ⟨er,her⟩:∃ r,errC x=r:=⟨_,rfl⟩
   rw [her] at H1
   have HX:=Lib.hid hx
   obtain ⟨xl,hxl⟩:∃ z,x.lo=z:=⟨_,rfl⟩
   obtain ⟨xh,hxh⟩:∃ z,x.hi=z:=⟨_,rfl⟩
   rw [hxl] at d0 H1
   rw [hxh] at d1 H1
   have HE:=Lib.hid her
   have HS2:Hid (∀ j u,(#[Value.int .i64 xl,.int .i64 xh])[j]?=some u→wo.cell? ⟨b,off+k * 2+j,none⟩=some u):=Lib.hid fun j u hj=>by
    match j,hj with
    | 0,hj=>simp at hj;subst hj;exact d0
    | 1,hj=>simp at hj;subst hj;exact d1
    | j+2,hj=>simp at hj
   have HBL:Hid (b<wo.heap.size):=Lib.hid (Nat.lt_of_lt_of_le hbl HB.out.size)
   obtain ⟨gx,hgx⟩:∃ g,wo.heap.size=g:=⟨_,rfl⟩
   obtain ⟨w1,hw1⟩:∃ u,wo.alloc (.cells #[.int .i64 0,.int .i64 0] 31)=u:=⟨_,rfl⟩
   have HF1:Hid (Fr wo [] [(gx,31,#[.int .i64 0,.int .i64 0])] w1):=Lib.hid (by rw [← hw1];exact (Fr.start wo).alloc hgx.symm 31 #[.int .i64 0,.int .i64 0])
   clear hx hxl hxh her d0 d1 hbl
   go_wp2_with (first
    | (refine wpLoadAt rfl 31 _ rfl b (off+k * 2) rfl #[.int .i64 xl,.int .i64 xh] _ HS2.out und_span rfl info_span ?_)
    | (refine wpStoreF rfl rfl 31 _ _ rfl gx 0 rfl #[.int .i64 xl,.int .i64 xh] rfl 31 #[.int .i64 0,.int .i64 0] #[.int .i64 xl,.int .i64 xh] (HF1.out.get 0 rfl) rfl (by show 0+2≤2;omega) (one_all rfl) info_span ?_;intro w2 hk2 ho;have HF2:=Lib.hid (HF1.out.only 0 rfl ho hk2);clear ho hk2)
    | (refine wpLoadF rfl 31 _ rfl gx 0 rfl 31 #[.int .i64 xl,.int .i64 xh] (HF2.out.get 0 rfl) #[.int .i64 xl,.int .i64 xh] rfl _ und_span rfl info_span ?_))
   clear hw1 hgx
   refine (H1.out _).mono ?_
   rintro e w3 ⟨rfl,hw⟩
   have HF3:=Lib.hid (HF2.out.below hw)
   have HB1:Hid (Below w.heap.size w w3):=Lib.hid (HB.out.trans (HF3.out.toBelow.mono HB.out.size))
   clear hw
   by_cases he:er=0
   ·subst he
    go_wp2_with fail
    go_roundw
    case rel=>exact ⟨k+1,by omega,by go_num,Lib.hid ⟨HB1.out,fun j hj=>by
     by_cases ej:j=k
     ·subst ej;rw [HX.out];have:=HE.out;unfold errC at this;cases hc:chkB x with
      | true=>rfl
      | false=>rw [hc] at this;exact absurd this (by decide)
     ·exact HNO.out j (by omega)⟩⟩
    case measure=>simp [intOf];omega
   ·have hee:er=2:=by rw [← HE.out] at he ⊢;unfold errC at he ⊢;split at he <;> simp_all
    subst hee
    have HF:Hid (R=false):=Lib.hid (by rw [← HR.out,allErr hlt (by rw [HX.out,HE.out];decide)])
    clear he
    go_wp2_with fail
    go_ret
    exact ⟨ret_bool HF.out.symm,HB1.out⟩
  ·obtain rfl:k=n:=by omega
   have hki:¬ (k:Int)<(k:Int):=by omega
   have HF:Hid (R=true):=Lib.hid (by rw [← HR.out,allN_iff];exact HNO.out)
   go_wp2_with fail
   go_ret
   exact ⟨ret_bool HF.out.symm,HB.out⟩
theorem spans3_any (a0 a1 a2:SpanD) (w:World) (g:Nat) (t:TypeId) (hk:Bk w g t #[.int .i64 a0.lo,.int .i64 a0.hi,.int .i64 a1.lo,.int .i64 a1.hi,.int .i64 a2.lo,.int .i64 a2.hi]):Calls Tryz.prog 91 #[.slice (some ⟨g,0,none⟩) 3 3] w fun e w'=>e=.returned (.bool (chkB a0 && (chkB a1 && chkB a2)))∧Below w.heap.size w w':=by
 have h:=spans_any w (some ⟨g,0,none⟩) 3 3 (fun i=>match i with | 0=>a0 | 1=>a1 | _=>a2) ⟨by omega,fun _=>⟨g,0,rfl,hk.lt,fun i hi j hj=>by
  match i,j,hi,hj with
  | 0,0,_,_=>exact hk.cell 0
  | 0,1,_,_=>exact hk.cell 1
  | 1,0,_,_=>exact hk.cell 2
  | 1,1,_,_=>exact hk.cell 3
  | 2,0,_,_=>exact hk.cell 4
  | 2,1,_,_=>exact hk.cell 5⟩⟩ (by omega)
 have e:(allN 3 fun i=>chkB ((fun i=>match i with | 0=>a0 | 1=>a1 | _=>a2) i))=(chkB a0 && (chkB a1 && chkB a2)):=by
  show (chkB a0 && (chkB a1 && (chkB a2 && true)))=_
  rw [Bool.and_true]
 rw [e] at h
 exact h
theorem spans4_any (a0 a1 a2 a3:SpanD) (w:World) (g:Nat) (t:TypeId) (hk:Bk w g t #[.int .i64 a0.lo,.int .i64 a0.hi,.int .i64 a1.lo,.int .i64 a1.hi,.int .i64 a2.lo,.int .i64 a2.hi,.int .i64 a3.lo,.int .i64 a3.hi]):Calls Tryz.prog 91 #[.slice (some ⟨g,0,none⟩) 4 4] w fun e w'=>e=.returned (.bool (chkB a0 && (chkB a1 && (chkB a2 && chkB a3))))∧Below w.heap.size w w':=by
 have h:=spans_any w (some ⟨g,0,none⟩) 4 4 (fun i=>match i with | 0=>a0 | 1=>a1 | 2=>a2 | _=>a3) ⟨by omega,fun _=>⟨g,0,rfl,hk.lt,fun i hi j hj=>by
  match i,j,hi,hj with
  | 0,0,_,_=>exact hk.cell 0
  | 0,1,_,_=>exact hk.cell 1
  | 1,0,_,_=>exact hk.cell 2
  | 1,1,_,_=>exact hk.cell 3
  | 2,0,_,_=>exact hk.cell 4
  | 2,1,_,_=>exact hk.cell 5
  | 3,0,_,_=>exact hk.cell 6
  | 3,1,_,_=>exact hk.cell 7⟩⟩ (by omega)
 have e:(allN 4 fun i=>chkB ((fun i=>match i with | 0=>a0 | 1=>a1 | 2=>a2 | _=>a3) i))=(chkB a0 && (chkB a1 && (chkB a2 && chkB a3))):=by
  show (chkB a0 && (chkB a1 && (chkB a2 && (chkB a3 && true))))=_
  rw [Bool.and_true]
 rw [e] at h
 exact h
theorem spans1_any (a0:SpanD) (w:World) (g:Nat) (t:TypeId) (hk:Bk w g t #[.int .i64 a0.lo,.int .i64 a0.hi]):Calls Tryz.prog 91 #[.slice (some ⟨g,0,none⟩) 1 1] w fun e w'=>e=.returned (.bool (chkB a0))∧Below w.heap.size w w':=by
 have h:=spans_any w (some ⟨g,0,none⟩) 1 1 (fun _=>a0) ⟨by omega,fun _=>⟨g,0,rfl,hk.lt,fun i hi j hj=>by
  match i,j,hi,hj with
  | 0,0,_,_=>exact hk.cell 0
  | 0,1,_,_=>exact hk.cell 1⟩⟩ (by omega)
 have e:(allN 1 fun _=>chkB a0)=chkB a0:=by
  show (chkB a0 && true)=_
  rw [Bool.and_true]
 rw [e] at h
 exact h
def chkBox (b:BoxD):Bool:=chkB b.x && (chkB b.y && chkB b.z)
theorem boxes1_any (a:BoxD) (w:World) (g:Nat) (t:TypeId) (hk:Bk w g t #[.int .i64 a.x.lo,.int .i64 a.x.hi,.int .i64 a.y.lo,.int .i64 a.y.hi,.int .i64 a.z.lo,.int .i64 a.z.hi]):Calls Tryz.prog 56 #[.slice (some ⟨g,0,none⟩) 1 1] w fun e w'=>e=.returned (.bool (chkBox a))∧Below w.heap.size w w':=by
 have HK:=Lib.hid hk
 have HCa:=Lib.hid (fun w g hk=>spans3_any a.x a.y a.z w g 34 hk)
 have hca:(chkB a.x && (chkB a.y && chkB a.z))=chkBox a:=rfl
 rw [hca] at HCa
 obtain ⟨ra,hra⟩:∃ r,chkBox a=r:=⟨_,rfl⟩
 rw [hra] at HCa ⊢
 have HFIN:Hid (∀ w',Fr w [] [] w'→Below w.heap.size w w'):=Lib.hid fun w' h=>h.toBelow
 obtain ⟨⟨axl,axh⟩,⟨ayl,ayh⟩,⟨azl,azh⟩⟩:=a
 dsimp only at HK HCa
 clear hk hca hra
 have HF0:Hid (Fr w [] [] w):=Lib.hid (Fr.start w)
 obtain ⟨HKB,hHKB⟩:∃ x:Unit,x=():=⟨(),rfl⟩
 clear hHKB HKB
 go_enter Tryz.func56,Tryz.ntmps56
 go_wp2_with fail
 refine wp_loop_rounds 2 ?_
 rw [rounds_succ]
 obtain ⟨g1,hg1⟩:∃ g,w.heap.size=g:=⟨_,rfl⟩
 obtain ⟨w1,hw1⟩:∃ u,w.alloc (.cells #[.int .i64 0,.int .i64 0,.int .i64 0,.int .i64 0,.int .i64 0,.int .i64 0] 34)=u:=⟨_,rfl⟩
 have HF2:=Lib.hid (frE hw1 (HF0.out.alloc hg1.symm 34 #[.int .i64 0,.int .i64 0,.int .i64 0,.int .i64 0,.int .i64 0,.int .i64 0]))
 go_wp2_with (first
   | (refine wpLoadF rfl 34 _ rfl g 0 rfl _ _ HK.out #[.int .i64 axl,.int .i64 axh,.int .i64 ayl,.int .i64 ayh,.int .i64 azl,.int .i64 azh] rfl _ und_34 rfl info_34 ?_)
   | (refine wpStoreF rfl rfl 34 _ _ rfl g1 0 rfl #[.int .i64 axl,.int .i64 axh,.int .i64 ayl,.int .i64 ayh,.int .i64 azl,.int .i64 azh] rfl _ _ (iC [axl,axh,ayl,ayh,azl,azh]) (HF2.out.get 0 rfl) rfl (by show 0+6≤6;omega) (one_all rfl) info_34 ?_;intro w3 hk ho;clear hw1 hg1;have HF4:=Lib.hid (HF2.out.only 0 rfl ho hk);clear ho hk))
 refine (HCa.out _ g1 (HF4.out.get 0 rfl)).mono ?_
 rintro e w5 ⟨rfl,hw⟩
 have HF6:=Lib.hid (HF4.out.below hw)
 clear hw
 cases ra with
 | false =>
  go_wp2_with fail
  go_ret
  exact ⟨by simp,HFIN.out _ HF6.out.drop⟩
 | true =>
  go_wp2_with fail
  rw [rounds_succ]
  go_wp2_with fail
  go_ret
  exact ⟨rfl,HFIN.out _ HF6.out.drop⟩
theorem boxes2_any (a b:BoxD) (w:World) (g:Nat) (t:TypeId) (hk:Bk w g t #[.int .i64 a.x.lo,.int .i64 a.x.hi,.int .i64 a.y.lo,.int .i64 a.y.hi,.int .i64 a.z.lo,.int .i64 a.z.hi,.int .i64 b.x.lo,.int .i64 b.x.hi,.int .i64 b.y.lo,.int .i64 b.y.hi,.int .i64 b.z.lo,.int .i64 b.z.hi]):Calls Tryz.prog 56 #[.slice (some ⟨g,0,none⟩) 2 2] w fun e w'=>e=.returned (.bool (chkBox a && chkBox b))∧Below w.heap.size w w':=by
 have HK:=Lib.hid hk
 have HCa:=Lib.hid (fun w g hk=>spans3_any a.x a.y a.z w g 34 hk)
 have hca:(chkB a.x && (chkB a.y && chkB a.z))=chkBox a:=rfl
 rw [hca] at HCa
 have HCb:=Lib.hid (fun w g hk=>spans3_any b.x b.y b.z w g 34 hk)
 have hcb:(chkB b.x && (chkB b.y && chkB b.z))=chkBox b:=rfl
 rw [hcb] at HCb
 obtain ⟨ra,hra⟩:∃ r,chkBox a=r:=⟨_,rfl⟩
 rw [hra] at HCa ⊢
 obtain ⟨rb,hrb⟩:∃ r,chkBox b=r:=⟨_,rfl⟩
 rw [hrb] at HCb ⊢
 have HFIN:Hid (∀ w',Fr w [] [] w'→Below w.heap.size w w'):=Lib.hid fun w' h=>h.toBelow
 obtain ⟨⟨axl,axh⟩,⟨ayl,ayh⟩,⟨azl,azh⟩⟩:=a
 obtain ⟨⟨bxl,bxh⟩,⟨byl,byh⟩,⟨bzl,bzh⟩⟩:=b
 dsimp only at HK HCa HCb
 clear hk hca hra hcb hrb
 have HF0:Hid (Fr w [] [] w):=Lib.hid (Fr.start w)
 obtain ⟨HKB,hHKB⟩:∃ x:Unit,x=():=⟨(),rfl⟩
 clear hHKB HKB
 go_enter Tryz.func56,Tryz.ntmps56
 go_wp2_with fail
 refine wp_loop_rounds 3 ?_
 rw [rounds_succ]
 obtain ⟨g1,hg1⟩:∃ g,w.heap.size=g:=⟨_,rfl⟩
 obtain ⟨w1,hw1⟩:∃ u,w.alloc (.cells #[.int .i64 0,.int .i64 0,.int .i64 0,.int .i64 0,.int .i64 0,.int .i64 0] 34)=u:=⟨_,rfl⟩
 have HF2:=Lib.hid (frE hw1 (HF0.out.alloc hg1.symm 34 #[.int .i64 0,.int .i64 0,.int .i64 0,.int .i64 0,.int .i64 0,.int .i64 0]))
 go_wp2_with (first
   | (refine wpLoadF rfl 34 _ rfl g 0 rfl _ _ HK.out #[.int .i64 axl,.int .i64 axh,.int .i64 ayl,.int .i64 ayh,.int .i64 azl,.int .i64 azh] rfl _ und_34 rfl info_34 ?_)
   | (refine wpStoreF rfl rfl 34 _ _ rfl g1 0 rfl #[.int .i64 axl,.int .i64 axh,.int .i64 ayl,.int .i64 ayh,.int .i64 azl,.int .i64 azh] rfl _ _ (iC [axl,axh,ayl,ayh,azl,azh]) (HF2.out.get 0 rfl) rfl (by show 0+6≤6;omega) (one_all rfl) info_34 ?_;intro w3 hk ho;clear hw1 hg1;have HF4:=Lib.hid (HF2.out.only 0 rfl ho hk);clear ho hk))
 refine (HCa.out _ g1 (HF4.out.get 0 rfl)).mono ?_
 rintro e w5 ⟨rfl,hw⟩
 have HF6:=Lib.hid (HF4.out.below hw)
 clear hw
 cases ra with
 | false =>
  go_wp2_with fail
  go_ret
  exact ⟨by simp,HFIN.out _ HF6.out.drop⟩
 | true =>
  go_wp2_with fail
  rw [rounds_succ]
  have HK1:=Lib.hid (HK.out.below HF6.out.toBelow HK.out.lt)
  obtain ⟨g7,hg7⟩:∃ g,w5.heap.size=g:=⟨_,rfl⟩
  obtain ⟨w7,hw7⟩:∃ u,w5.alloc (.cells #[.int .i64 0,.int .i64 0,.int .i64 0,.int .i64 0,.int .i64 0,.int .i64 0] 34)=u:=⟨_,rfl⟩
  have HF8:=Lib.hid (frE hw7 (HF6.out.alloc hg7.symm 34 #[.int .i64 0,.int .i64 0,.int .i64 0,.int .i64 0,.int .i64 0,.int .i64 0]))
  go_wp2_with (first
    | (refine wpLoadF rfl 34 _ rfl g 6 rfl _ _ HK1.out #[.int .i64 bxl,.int .i64 bxh,.int .i64 byl,.int .i64 byh,.int .i64 bzl,.int .i64 bzh] rfl _ und_34 rfl info_34 ?_)
    | (refine wpStoreF rfl rfl 34 _ _ rfl g7 0 rfl #[.int .i64 bxl,.int .i64 bxh,.int .i64 byl,.int .i64 byh,.int .i64 bzl,.int .i64 bzh] rfl _ _ (iC [bxl,bxh,byl,byh,bzl,bzh]) (HF8.out.get 1 rfl) rfl (by show 0+6≤6;omega) (one_all rfl) info_34 ?_;intro w9 hk ho;clear hw7 hg7;have HF10:=Lib.hid (HF8.out.only 1 rfl ho hk);clear ho hk))
  refine (HCb.out _ g7 (HF10.out.get 1 rfl)).mono ?_
  rintro e w11 ⟨rfl,hw⟩
  have HF12:=Lib.hid (HF10.out.below hw)
  clear hw
  cases rb with
  | false =>
   go_wp2_with fail
   go_ret
   exact ⟨by simp,HFIN.out _ HF12.out.drop⟩
  | true =>
   go_wp2_with fail
   rw [rounds_succ]
   go_wp2_with fail
   go_ret
   exact ⟨rfl,HFIN.out _ HF12.out.drop⟩
def planetB (p:PlanetD):Bool:=chkBox p.pull && (chkB p.mu && (chkB p.radius && (chkB p.oblate && chkB p.spin))) && !(decide (p.mu.lo<0)) && !(decide (p.radius.lo<0))
theorem checkPlanet_any (p:PlanetD) (w:World):Calls Tryz.prog 43 #[planetV p] w fun e w'=>e=.returned (.int .i64 (if planetB p=true then 0 else 2))∧Below w.heap.size w w':=by
 have HB:=Lib.hid (fun w g hk=>boxes1_any p.pull w g 34 hk)
 have HS:=Lib.hid (fun w g hk=>spans4_any p.mu p.radius p.oblate p.spin w g 31 hk)
 have HFIN:Hid (∀ w' r,r=(if planetB p=true then (0:Int) else 2)→Fr w [] [] w'→(Ending.returned (.int .i64 r)=.returned (.int .i64 (if planetB p=true then 0 else 2))∧Below w.heap.size w w')):=Lib.hid fun w' r hr h=>⟨by rw [hr],h.toBelow⟩
 obtain ⟨PQ,hPQ⟩:∃ Q:Ending→World→Prop,(fun e w'=>e=.returned (.int .i64 (if planetB p=true then 0 else 2))∧Below w.heap.size w w')=Q:=⟨_,rfl⟩
 replace HFIN:Hid (∀ w' r,r=(if planetB p=true then (0:Int) else 2)→Fr w [] [] w'→PQ (.returned (.int .i64 r)) w'):=Lib.hid fun w' r hr h=>by rw [← hPQ];exact HFIN.out w' r hr h
 rw [hPQ]
 clear hPQ
 unfold planetB at HFIN
 obtain ⟨rb,hrb⟩:∃ r,chkBox p.pull=r:=⟨_,rfl⟩
 obtain ⟨rs,hrs⟩:∃ r,(chkB p.mu && (chkB p.radius && (chkB p.oblate && chkB p.spin)))=r:=⟨_,rfl⟩
 rw [hrb] at HB HFIN
 rw [hrs] at HS HFIN
 obtain ⟨⟨mul,muh⟩,⟨rl,rh⟩,⟨ol,oh⟩,⟨sl,sh⟩,⟨⟨pxl,pxh⟩,⟨pyl,pyh⟩,⟨pzl,pzh⟩⟩⟩:=p
 dsimp only at HB HS HFIN
 unfold planetV
 dsimp only
 clear hrb hrs
 obtain ⟨qb,hqb⟩:∃ qb,w.heap.size=qb:=⟨_,rfl⟩
 obtain ⟨W0,hW0⟩:∃ W0,w.alloc (.cells #[.int .i64 mul,.int .i64 muh,.int .i64 rl,.int .i64 rh,.int .i64 ol,.int .i64 oh,.int .i64 sl,.int .i64 sh,.int .i64 pxl,.int .i64 pxh,.int .i64 pyl,.int .i64 pyh,.int .i64 pzl,.int .i64 pzh] 36)=W0:=⟨_,rfl⟩
 have HF0:Hid (Fr w [] [(qb,36,iC [mul,muh,rl,rh,ol,oh,sl,sh,pxl,pxh,pyl,pyh,pzl,pzh])] W0):=Lib.hid (by rw [← hW0];exact (Fr.start w).alloc (by simp [← hqb]) 36 #[.int .i64 mul,.int .i64 muh,.int .i64 rl,.int .i64 rh,.int .i64 ol,.int .i64 oh,.int .i64 sl,.int .i64 sh,.int .i64 pxl,.int .i64 pxh,.int .i64 pyl,.int .i64 pyh,.int .i64 pzl,.int .i64 pzh])
 go_enter Tryz.func43,Tryz.ntmps43
 go_upto_region 1 with (fail)
 clear hW0 hqb
 obtain ⟨g1,hg1⟩:∃ g,W0.heap.size=g:=⟨_,rfl⟩
 obtain ⟨w1,hw1⟩:∃ u,W0.alloc (.cells #[.int .i64 pxl,.int .i64 pxh,.int .i64 pyl,.int .i64 pyh,.int .i64 pzl,.int .i64 pzh] 34)=u:=⟨_,rfl⟩
 have HF2:=Lib.hid (frE hw1 (HF0.out.alloc hg1.symm 34 #[.int .i64 pxl,.int .i64 pxh,.int .i64 pyl,.int .i64 pyh,.int .i64 pzl,.int .i64 pzh]))
 go_wp2_with (refine wpLoadF rfl 34 _ rfl qb 8 rfl _ _ (HF0.out.get 0 rfl) #[.int .i64 pxl,.int .i64 pxh,.int .i64 pyl,.int .i64 pyh,.int .i64 pzl,.int .i64 pzh] rfl _ und_34 rfl info_34 ?_)
 clear hw1 hg1
 refine (HB.out _ g1 (HF2.out.get 1 rfl)).mono ?_
 rintro e w3 ⟨rfl,hw⟩
 have HF4:=Lib.hid (HF2.out.below hw)
 clear hw
 cases rb with
 | false =>
  go_wp2_with fail
  exact HFIN.out _ _ (by simp) HF4.out.drop
 | true =>
  obtain ⟨g5,hg5⟩:∃ g,w3.heap.size=g:=⟨_,rfl⟩
  obtain ⟨w5,hw5⟩:∃ u,w3.alloc (.cells #[.int .i64 mul,.int .i64 muh,.int .i64 rl,.int .i64 rh,.int .i64 ol,.int .i64 oh,.int .i64 sl,.int .i64 sh] 31)=u:=⟨_,rfl⟩
  have HF6:=Lib.hid (frE hw5 (HF4.out.alloc hg5.symm 31 #[.int .i64 mul,.int .i64 muh,.int .i64 rl,.int .i64 rh,.int .i64 ol,.int .i64 oh,.int .i64 sl,.int .i64 sh]))
  go_wp2_with (first
    | (refine wpLoadFG rfl 31 _ rfl qb 0 rfl _ _ (HF4.out.get 0 rfl) #[.int .i64 mul,.int .i64 muh] rfl _ und_span rfl info_span ?_)
    | (refine wpLoadFG rfl 31 _ rfl qb 2 rfl _ _ (HF4.out.get 0 rfl) #[.int .i64 rl,.int .i64 rh] rfl _ und_span rfl info_span ?_)
    | (refine wpLoadFG rfl 31 _ rfl qb 4 rfl _ _ (HF4.out.get 0 rfl) #[.int .i64 ol,.int .i64 oh] rfl _ und_span rfl info_span ?_)
    | (refine wpLoadFG rfl 31 _ rfl qb 6 rfl _ _ (HF4.out.get 0 rfl) #[.int .i64 sl,.int .i64 sh] rfl _ und_span rfl info_span ?_))
  clear hw5 hg5
  refine (HS.out _ g5 (HF6.out.get 2 rfl)).mono ?_
  rintro e w7 ⟨rfl,hw⟩
  have HF8:=Lib.hid (HF6.out.below hw)
  clear hw
  cases rs with
  | false =>
   go_wp2_with fail
   exact HFIN.out _ _ (by simp) HF8.out.drop
  | true =>
   by_cases hm:mul<0
   ·have g1:decide (mul<0)=true:=decide_eq_true hm
    have HM:=Lib.hid hm
    clear hm
    have c9:w7.cell? ⟨qb,0,none⟩=some (.int .i64 mul):=(HF8.out.get 0 rfl).cell 0
    go_wp2_with fail
    clear c9
    exact HFIN.out _ _ (by simp [HM.out]) HF8.out.drop
   ·have g1:decide (mul<0)=false:=decide_eq_false hm
    have HM:=Lib.hid hm
    clear hm
    by_cases hm:rl<0
    ·have g2:decide (rl<0)=true:=decide_eq_true hm
     have HR:=Lib.hid hm
     clear hm
     have c9:w7.cell? ⟨qb,0,none⟩=some (.int .i64 mul):=(HF8.out.get 0 rfl).cell 0
     have c10:w7.cell? ⟨qb,2,none⟩=some (.int .i64 rl):=(HF8.out.get 0 rfl).cell 2
     go_wp2_with fail
     clear c9 c10
     exact HFIN.out _ _ (by simp [HR.out]) HF8.out.drop
    ·have g2:decide (rl<0)=false:=decide_eq_false hm
     have HR:=Lib.hid hm
     clear hm
     have c9:w7.cell? ⟨qb,0,none⟩=some (.int .i64 mul):=(HF8.out.get 0 rfl).cell 0
     have c10:w7.cell? ⟨qb,2,none⟩=some (.int .i64 rl):=(HF8.out.get 0 rfl).cell 2
     go_wp2_with fail
     clear c9 c10
     exact HFIN.out _ _ (by simp [HM.out,HR.out]) HF8.out.drop
def stateB (s:StateD):Bool:=numB s.t && (chkBox s.p && chkBox s.v) && chkB s.m && !(decide (s.m.lo≤0))
theorem checkState_any (s:StateD) (w:World):Calls Tryz.prog 60 #[stateV s] w fun e w'=>e=.returned (.int .i64 (if stateB s=true then 0 else 2))∧Below w.heap.size w w':=by
 have HV:=Lib.hid (fun w=>fvalid_any s.t w)
 have HB:=Lib.hid (fun w g hk=>boxes2_any s.p s.v w g 34 hk)
 have HS:=Lib.hid (fun w g hk=>spans1_any s.m w g 31 hk)
 obtain ⟨PQ,hPQ⟩:∃ Q:Ending→World→Prop,(fun e w'=>e=.returned (.int .i64 (if stateB s=true then 0 else 2))∧Below w.heap.size w w')=Q:=⟨_,rfl⟩
 have HFIN:Hid (∀ w' r,r=(if stateB s=true then (0:Int) else 2)→Fr w [] [] w'→PQ (.returned (.int .i64 r)) w'):=Lib.hid fun w' r hr h=>by rw [← hPQ];exact ⟨by rw [hr],h.toBelow⟩
 rw [hPQ]
 clear hPQ
 unfold stateB at HFIN
 obtain ⟨rv,hrv⟩:∃ r,numB s.t=r:=⟨_,rfl⟩
 obtain ⟨rb,hrb⟩:∃ r,(chkBox s.p && chkBox s.v)=r:=⟨_,rfl⟩
 obtain ⟨rs,hrs⟩:∃ r,chkB s.m=r:=⟨_,rfl⟩
 rw [hrv] at HV HFIN
 rw [hrb] at HB HFIN
 rw [hrs] at HS HFIN
 obtain ⟨st,⟨⟨pxl,pxh⟩,⟨pyl,pyh⟩,⟨pzl,pzh⟩⟩,⟨⟨vxl,vxh⟩,⟨vyl,vyh⟩,⟨vzl,vzh⟩⟩,⟨ml,mh⟩⟩:=s
 dsimp only at HB HS HV HFIN
 unfold stateV
 dsimp only
 clear hrv hrb hrs
 obtain ⟨qb,hqb⟩:∃ qb,w.heap.size=qb:=⟨_,rfl⟩
 obtain ⟨W0,hW0⟩:∃ W0,w.alloc (.cells #[.int .i64 st,.int .i64 pxl,.int .i64 pxh,.int .i64 pyl,.int .i64 pyh,.int .i64 pzl,.int .i64 pzh,.int .i64 vxl,.int .i64 vxh,.int .i64 vyl,.int .i64 vyh,.int .i64 vzl,.int .i64 vzh,.int .i64 ml,.int .i64 mh] 38)=W0:=⟨_,rfl⟩
 have HF0:Hid (Fr w [] [(qb,38,iC [st,pxl,pxh,pyl,pyh,pzl,pzh,vxl,vxh,vyl,vyh,vzl,vzh,ml,mh])] W0):=Lib.hid (by rw [← hW0];exact (Fr.start w).alloc (by simp [← hqb]) 38 #[.int .i64 st,.int .i64 pxl,.int .i64 pxh,.int .i64 pyl,.int .i64 pyh,.int .i64 pzl,.int .i64 pzh,.int .i64 vxl,.int .i64 vxh,.int .i64 vyl,.int .i64 vyh,.int .i64 vzl,.int .i64 vzh,.int .i64 ml,.int .i64 mh])
 go_enter Tryz.func60,Tryz.ntmps60
 go_upto_region 1 with (fail)
 clear hW0 hqb
 have c1:W0.cell? ⟨qb,0,none⟩=some (.int .i64 st):=(HF0.out.get 0 rfl).cell 0
 go_wp2_with fail
 clear c1
 refine (HV.out _).mono ?_
 rintro e w2 ⟨rfl,hw⟩
 rw [hw]
 clear hw w2
 cases rv with
 | false =>
  go_wp2_with fail
  exact HFIN.out _ _ (by simp) HF0.out.drop
 | true =>
  obtain ⟨g3,hg3⟩:∃ g,W0.heap.size=g:=⟨_,rfl⟩
  obtain ⟨w3,hw3⟩:∃ u,W0.alloc (.cells #[.int .i64 pxl,.int .i64 pxh,.int .i64 pyl,.int .i64 pyh,.int .i64 pzl,.int .i64 pzh,.int .i64 vxl,.int .i64 vxh,.int .i64 vyl,.int .i64 vyh,.int .i64 vzl,.int .i64 vzh] 34)=u:=⟨_,rfl⟩
  have HF4:=Lib.hid (frE hw3 (HF0.out.alloc hg3.symm 34 #[.int .i64 pxl,.int .i64 pxh,.int .i64 pyl,.int .i64 pyh,.int .i64 pzl,.int .i64 pzh,.int .i64 vxl,.int .i64 vxh,.int .i64 vyl,.int .i64 vyh,.int .i64 vzl,.int .i64 vzh]))
  go_wp2_with (first
    | (refine wpLoadFG rfl 34 _ rfl qb 1 rfl _ _ (HF0.out.get 0 rfl) #[.int .i64 pxl,.int .i64 pxh,.int .i64 pyl,.int .i64 pyh,.int .i64 pzl,.int .i64 pzh] rfl _ und_34 rfl info_34 ?_)
    | (refine wpLoadFG rfl 34 _ rfl qb 7 rfl _ _ (HF0.out.get 0 rfl) #[.int .i64 vxl,.int .i64 vxh,.int .i64 vyl,.int .i64 vyh,.int .i64 vzl,.int .i64 vzh] rfl _ und_34 rfl info_34 ?_))
  clear hw3 hg3
  refine (HB.out _ g3 (HF4.out.get 1 rfl)).mono ?_
  rintro e w5 ⟨rfl,hw⟩
  have HF6:=Lib.hid (HF4.out.below hw)
  clear hw
  cases rb with
  | false =>
   go_wp2_with fail
   exact HFIN.out _ _ (by simp) HF6.out.drop
  | true =>
   obtain ⟨g7,hg7⟩:∃ g,w5.heap.size=g:=⟨_,rfl⟩
   obtain ⟨w7,hw7⟩:∃ u,w5.alloc (.cells #[.int .i64 ml,.int .i64 mh] 31)=u:=⟨_,rfl⟩
   have HF8:=Lib.hid (frE hw7 (HF6.out.alloc hg7.symm 31 #[.int .i64 ml,.int .i64 mh]))
   go_wp2_with (refine wpLoadFG rfl 31 _ rfl qb 13 rfl _ _ (HF6.out.get 0 rfl) #[.int .i64 ml,.int .i64 mh] rfl _ und_span rfl info_span ?_)
   clear hw7 hg7
   refine (HS.out _ g7 (HF8.out.get 2 rfl)).mono ?_
   rintro e w9 ⟨rfl,hw⟩
   have HF10:=Lib.hid (HF8.out.below hw)
   clear hw
   cases rs with
   | false =>
    go_wp2_with fail
    exact HFIN.out _ _ (by simp) HF10.out.drop
   | true =>
    by_cases hm:ml≤0
    ·have g2:decide (ml≤0)=true:=decide_eq_true hm
     have HR:=Lib.hid hm
     clear hm
     have c11:w9.cell? ⟨qb,13,none⟩=some (.int .i64 ml):=(HF10.out.get 0 rfl).cell 13
     go_wp2_with fail
     clear c11
     exact HFIN.out _ _ (by simp [HR.out]) HF10.out.drop
    ·have g2:decide (ml≤0)=false:=decide_eq_false hm
     have HR:=Lib.hid hm
     clear hm
     have c11:w9.cell? ⟨qb,13,none⟩=some (.int .i64 ml):=(HF10.out.get 0 rfl).cell 13
     go_wp2_with fail
     clear c11
     exact HFIN.out _ _ (by simp [HR.out]) HF10.out.drop

theorem und34a:Tryz.prog.underlying 34=some (.array 3 31):=by kernel_rfl
theorem index34 (a b c d e f:Value) (w:World):(Instr.index 34 (.agg #[a,b,c,d,e,f]) (.int .i64 0)).run Tryz.prog w=.ok (.agg #[a,b]) w∧(Instr.index 34 (.agg #[a,b,c,d,e,f]) (.int .i64 1)).run Tryz.prog w=.ok (.agg #[c,d]) w∧(Instr.index 34 (.agg #[a,b,c,d,e,f]) (.int .i64 2)).run Tryz.prog w=.ok (.agg #[e,f]) w:=by
 obtain ⟨i,hi,hs⟩:=Option.map_eq_some_iff.1 info_span

 refine ⟨?_,?_,?_⟩ <;> simp [Instr.index,run_underlying und34a,asIntOf,sizeOf,typeInfo,hi,hs,part]
def unitS:SpanD:=⟨-4294967296,4294967296⟩
def posB (a:SpanD):Bool:=chkB a && !(decide (a.lo<0))
/-- An arc is valid but for its table. -/
def arcB (a:ArcD):Bool:=withinB a.dir.x unitS && (withinB a.dir.y unitS && (withinB a.dir.z unitS && (posB a.thrust && (posB a.flow && (posB a.drop && (!(decide (a.time≤0)) && !(decide (a.step≤0))))))))
theorem checkArc0_any (a:ArcD) (A:Option Addr) (c:Nat) (hd:WdB a.dir) (w:World):Calls Tryz.prog 59 #[arcV a A 0 c] w fun e w'=>e=.returned (.int .i64 (if arcB a=true then 0 else 2))∧Below w.heap.size w w':=by
 have hwu:WdS unitS:=by unfold WdS unitS;decide
 have HWx:=fun w=>within_any a.dir.x unitS hd.1 hwu w
 have HWy:=fun w=>within_any a.dir.y unitS hd.2.1 hwu w
 have HWz:=fun w=>within_any a.dir.z unitS hd.2.2 hwu w
 have HSt:=Lib.hid (fun w g hk=>spans1_any a.thrust w g 31 hk)
 have HSf:=Lib.hid (fun w g hk=>spans1_any a.flow w g 31 hk)
 have HSd:=Lib.hid (fun w g hk=>spans1_any a.drop w g 31 hk)
 have HI0:=fun a b c d e f w=>(index34 a b c d e f w).1
 have HI1:=fun a b c d e f w=>(index34 a b c d e f w).2.1
 have HI2:=fun a b c d e f w=>(index34 a b c d e f w).2.2
 obtain ⟨PQ,hPQ⟩:∃ Q:Ending→World→Prop,(fun e w'=>e=.returned (.int .i64 (if arcB a=true then 0 else 2))∧Below w.heap.size w w')=Q:=⟨_,rfl⟩
 have HFIN:Hid (∀ w' r,r=(if arcB a=true then (0:Int) else 2)→Fr w [] [] w'→PQ (.returned (.int .i64 r)) w'):=Lib.hid fun w' r hr h=>by rw [← hPQ];exact ⟨by rw [hr],h.toBelow⟩
 rw [hPQ]
 clear hPQ
 unfold arcB posB at HFIN
 obtain ⟨bx,hbx⟩:∃ r,withinB a.dir.x unitS=r:=⟨_,rfl⟩
 obtain ⟨by',hby⟩:∃ r,withinB a.dir.y unitS=r:=⟨_,rfl⟩
 obtain ⟨bz,hbz⟩:∃ r,withinB a.dir.z unitS=r:=⟨_,rfl⟩
 obtain ⟨bt,hbt⟩:∃ r,chkB a.thrust=r:=⟨_,rfl⟩
 obtain ⟨bf,hbf⟩:∃ r,chkB a.flow=r:=⟨_,rfl⟩
 obtain ⟨bd,hbd⟩:∃ r,chkB a.drop=r:=⟨_,rfl⟩
 rw [hbx] at HWx HFIN
 rw [hby] at HWy HFIN
 rw [hbz] at HWz HFIN
 rw [hbt] at HSt HFIN
 rw [hbf] at HSf HFIN
 rw [hbd] at HSd HFIN
 obtain ⟨time,step,⟨tl,th⟩,⟨fl,fh⟩,⟨⟨dxl,dxh⟩,⟨dyl,dyh⟩,⟨dzl,dzh⟩⟩,drag,⟨dl,dh⟩⟩:=a
 unfold spanV unitS at HWx HWy HWz
 unfold arcV
 dsimp only at HWx HWy HWz HSt HSf HSd HFIN ⊢
 replace HWx:=Lib.hid HWx
 replace HWy:=Lib.hid HWy
 replace HWz:=Lib.hid HWz
 clear hd hwu hbx hby hbz hbt hbf hbd
 obtain ⟨qb,hqb⟩:∃ qb,w.heap.size=qb:=⟨_,rfl⟩
 obtain ⟨W0,hW0⟩:∃ W0,w.alloc (.cells #[.int .i64 time,.int .i64 step,.int .i64 tl,.int .i64 th,.int .i64 fl,.int .i64 fh,.int .i64 dxl,.int .i64 dxh,.int .i64 dyl,.int .i64 dyh,.int .i64 dzl,.int .i64 dzh,.slice A 0 c,.int .i64 dl,.int .i64 dh] 46)=W0:=⟨_,rfl⟩
 have HF0:Hid (Fr w [] [(qb,46,#[.int .i64 time,.int .i64 step,.int .i64 tl,.int .i64 th,.int .i64 fl,.int .i64 fh,.int .i64 dxl,.int .i64 dxh,.int .i64 dyl,.int .i64 dyh,.int .i64 dzl,.int .i64 dzh,.slice A 0 c,.int .i64 dl,.int .i64 dh])] W0):=Lib.hid (by rw [← hW0];exact (Fr.start w).alloc (by simp [← hqb]) 46 #[.int .i64 time,.int .i64 step,.int .i64 tl,.int .i64 th,.int .i64 fl,.int .i64 fh,.int .i64 dxl,.int .i64 dxh,.int .i64 dyl,.int .i64 dyh,.int .i64 dzl,.int .i64 dzh,.slice A 0 c,.int .i64 dl,.int .i64 dh])
 go_enter Tryz.func59,Tryz.ntmps59
 go_upto_region 1 with (fail)
 clear hW0 hqb
 obtain ⟨g1,hg1⟩:∃ g,W0.heap.size=g:=⟨_,rfl⟩
 obtain ⟨w1,hw1⟩:∃ u,W0.alloc (.cells #[.int .i64 0,.int .i64 0] 31)=u:=⟨_,rfl⟩
 have HF2:=Lib.hid (frE hw1 (HF0.out.alloc hg1.symm 31 #[.int .i64 0,.int .i64 0]))
 go_wp2_with (first
   | (refine wpLoadF rfl 34 _ rfl qb 6 rfl _ _ (HF4.out.get 0 rfl) #[.int .i64 dxl,.int .i64 dxh,.int .i64 dyl,.int .i64 dyh,.int .i64 dzl,.int .i64 dzh] rfl _ und_34 rfl info_34 ?_)
   | (refine wpStoreF rfl rfl 31 _ _ rfl g1 0 rfl #[.int .i64 (-4294967296),.int .i64 4294967296] rfl _ _ (iC [-4294967296,4294967296]) (HF2.out.get 1 rfl) rfl (by show 0+2≤2;omega) (one_all rfl) info_span ?_;intro w3 hk ho;clear hw1 hg1;have HF4:=Lib.hid (HF2.out.only 1 rfl ho hk);clear ho hk))
 refine wp_loop_rounds 4 ?_
 rw [rounds_succ]
 obtain ⟨g5,hg5⟩:∃ g,w3.heap.size=g:=⟨_,rfl⟩
 obtain ⟨w5,hw5⟩:∃ u,w3.alloc (.cells #[.int .i64 0,.int .i64 0] 31)=u:=⟨_,rfl⟩
 have HF6:=Lib.hid (frE hw5 (HF4.out.alloc hg5.symm 31 #[.int .i64 0,.int .i64 0]))
 go_wp2_with (first
   | (refine wpLoadF rfl 31 _ rfl g5 0 rfl _ _ (HF8.out.get 2 rfl) #[.int .i64 dxl,.int .i64 dxh] rfl _ und_span rfl info_span ?_)
   | (refine wpLoadF rfl 31 _ rfl g1 0 rfl _ _ (HF8.out.get 1 rfl) #[.int .i64 (-4294967296),.int .i64 4294967296] rfl _ und_span rfl info_span ?_)
   | (refine wpStoreF rfl rfl 31 _ _ rfl g5 0 rfl #[.int .i64 dxl,.int .i64 dxh] rfl _ _ (iC [dxl,dxh]) (HF6.out.get 2 rfl) rfl (by show 0+2≤2;omega) (one_all rfl) info_span ?_;intro w7 hk ho;clear hw5 hg5;have HF8:=Lib.hid (HF6.out.only 2 rfl ho hk);clear ho hk))
 refine (HWx.out _).mono ?_
 rintro e w9 ⟨rfl,hw⟩
 have HF10:=Lib.hid (HF8.out.below hw)
 clear hw
 cases bx with
 | false =>
  go_wp2_with fail
  exact HFIN.out _ _ (by simp) HF10.out.drop
 | true =>
  go_wp2_with fail
  rw [rounds_succ]
  obtain ⟨g11,hg11⟩:∃ g,w9.heap.size=g:=⟨_,rfl⟩
  obtain ⟨w11,hw11⟩:∃ u,w9.alloc (.cells #[.int .i64 0,.int .i64 0] 31)=u:=⟨_,rfl⟩
  have HF12:=Lib.hid (frE hw11 (HF10.out.alloc hg11.symm 31 #[.int .i64 0,.int .i64 0]))
  go_wp2_with (first
    | (refine wpLoadF rfl 31 _ rfl g11 0 rfl _ _ (HF14.out.get 3 rfl) #[.int .i64 dyl,.int .i64 dyh] rfl _ und_span rfl info_span ?_)
    | (refine wpLoadF rfl 31 _ rfl g1 0 rfl _ _ (HF14.out.get 1 rfl) #[.int .i64 (-4294967296),.int .i64 4294967296] rfl _ und_span rfl info_span ?_)
    | (refine wpStoreF rfl rfl 31 _ _ rfl g11 0 rfl #[.int .i64 dyl,.int .i64 dyh] rfl _ _ (iC [dyl,dyh]) (HF12.out.get 3 rfl) rfl (by show 0+2≤2;omega) (one_all rfl) info_span ?_;intro w13 hk ho;clear hw11 hg11;have HF14:=Lib.hid (HF12.out.only 3 rfl ho hk);clear ho hk))
  refine (HWy.out _).mono ?_
  rintro e w15 ⟨rfl,hw⟩
  have HF16:=Lib.hid (HF14.out.below hw)
  clear hw
  cases by' with
  | false =>
   go_wp2_with fail
   exact HFIN.out _ _ (by simp) HF16.out.drop
  | true =>
   go_wp2_with fail
   rw [rounds_succ]
   obtain ⟨g17,hg17⟩:∃ g,w15.heap.size=g:=⟨_,rfl⟩
   obtain ⟨w17,hw17⟩:∃ u,w15.alloc (.cells #[.int .i64 0,.int .i64 0] 31)=u:=⟨_,rfl⟩
   have HF18:=Lib.hid (frE hw17 (HF16.out.alloc hg17.symm 31 #[.int .i64 0,.int .i64 0]))
   go_wp2_with (first
     | (refine wpLoadF rfl 31 _ rfl g17 0 rfl _ _ (HF20.out.get 4 rfl) #[.int .i64 dzl,.int .i64 dzh] rfl _ und_span rfl info_span ?_)
     | (refine wpLoadF rfl 31 _ rfl g1 0 rfl _ _ (HF20.out.get 1 rfl) #[.int .i64 (-4294967296),.int .i64 4294967296] rfl _ und_span rfl info_span ?_)
     | (refine wpStoreF rfl rfl 31 _ _ rfl g17 0 rfl #[.int .i64 dzl,.int .i64 dzh] rfl _ _ (iC [dzl,dzh]) (HF18.out.get 4 rfl) rfl (by show 0+2≤2;omega) (one_all rfl) info_span ?_;intro w19 hk ho;clear hw17 hg17;have HF20:=Lib.hid (HF18.out.only 4 rfl ho hk);clear ho hk))
   refine (HWz.out _).mono ?_
   rintro e w21 ⟨rfl,hw⟩
   have HF22:=Lib.hid (HF20.out.below hw)
   clear hw
   cases bz with
   | false =>
    go_wp2_with fail
    exact HFIN.out _ _ (by simp) HF22.out.drop
   | true =>
    go_wp2_with fail
    rw [rounds_succ]
    obtain ⟨g23,hg23⟩:∃ g,w21.heap.size=g:=⟨_,rfl⟩
    obtain ⟨w23,hw23⟩:∃ u,w21.alloc (.cells #[.int .i64 tl,.int .i64 th,.int .i64 fl,.int .i64 fh,.int .i64 dl,.int .i64 dh] 31)=u:=⟨_,rfl⟩
    have HF24:=Lib.hid (frE hw23 (HF22.out.alloc hg23.symm 31 #[.int .i64 tl,.int .i64 th,.int .i64 fl,.int .i64 fh,.int .i64 dl,.int .i64 dh]))
    go_wp2_with (first
      | (refine wpLoadF rfl 31 _ rfl qb 2 rfl _ _ (HF22.out.get 0 rfl) #[.int .i64 tl,.int .i64 th] rfl _ und_span rfl info_span ?_)
      | (refine wpLoadF rfl 31 _ rfl qb 4 rfl _ _ (HF22.out.get 0 rfl) #[.int .i64 fl,.int .i64 fh] rfl _ und_span rfl info_span ?_)
      | (refine wpLoadF rfl 31 _ rfl qb 13 rfl _ _ (HF22.out.get 0 rfl) #[.int .i64 dl,.int .i64 dh] rfl _ und_span rfl info_span ?_))
    clear hw23 hg23
    refine wp_loop_rounds 4 ?_
    rw [rounds_succ]
    obtain ⟨g25,hg25⟩:∃ g,w23.heap.size=g:=⟨_,rfl⟩
    obtain ⟨w25,hw25⟩:∃ u,w23.alloc (.cells #[.int .i64 0,.int .i64 0] 31)=u:=⟨_,rfl⟩
    have HF26:=Lib.hid (frE hw25 (HF24.out.alloc hg25.symm 31 #[.int .i64 0,.int .i64 0]))
    go_wp2_with (first
      | (refine wpLoadF rfl 31 _ rfl g23 0 rfl _ _ (HF24.out.get 5 rfl) #[.int .i64 tl,.int .i64 th] rfl _ und_span rfl info_span ?_)
      | (refine wpLoadF rfl 31 _ rfl g25 0 rfl _ _ (HF28.out.get 6 rfl) #[.int .i64 tl,.int .i64 th] rfl _ und_span rfl info_span ?_)
      | (refine wpStoreF rfl rfl 31 _ _ rfl g25 0 rfl #[.int .i64 tl,.int .i64 th] rfl _ _ (iC [tl,th]) (HF26.out.get 6 rfl) rfl (by show 0+2≤2;omega) (one_all rfl) info_span ?_;intro w27 hk ho;clear hw25 hg25;have HF28:=Lib.hid (HF26.out.only 6 rfl ho hk);clear ho hk;obtain ⟨g29,hg29⟩:∃ g,w27.heap.size=g:=⟨_,rfl⟩;obtain ⟨w29,hw29⟩:∃ u,w27.alloc (.cells #[.int .i64 tl,.int .i64 th] 31)=u:=⟨_,rfl⟩;have HF30:=Lib.hid (frE hw29 (HF28.out.alloc hg29.symm 31 #[.int .i64 tl,.int .i64 th]))))
    clear hw29 hg29
    refine (HSt.out _ g29 (HF30.out.get 7 rfl)).mono ?_
    rintro e w31 ⟨rfl,hw⟩
    have HF32:=Lib.hid (HF30.out.below hw)
    clear hw
    cases bt with
    | false =>
     go_wp2_with fail
     exact HFIN.out _ _ (by simp) HF32.out.drop
    | true =>
     by_cases hm0:tl<0
     ·have g1:decide (tl<0)=true:=decide_eq_true hm0
      have HM0:=Lib.hid hm0
      clear hm0
      have c33:w31.cell? ⟨g25,0,none⟩=some (.int .i64 tl):=(HF32.out.get 6 rfl).cell 0
      go_wp2_with fail
      clear c33
      exact HFIN.out _ _ (by simp [HM0.out]) HF32.out.drop
     ·have g2:decide (tl<0)=false:=decide_eq_false hm0
      have HM0:=Lib.hid hm0
      clear hm0
      have c33:w31.cell? ⟨g25,0,none⟩=some (.int .i64 tl):=(HF32.out.get 6 rfl).cell 0
      go_wp2_with fail
      clear c33
      rw [rounds_succ]
      obtain ⟨g34,hg34⟩:∃ g,w31.heap.size=g:=⟨_,rfl⟩
      obtain ⟨w34,hw34⟩:∃ u,w31.alloc (.cells #[.int .i64 0,.int .i64 0] 31)=u:=⟨_,rfl⟩
      have HF35:=Lib.hid (frE hw34 (HF32.out.alloc hg34.symm 31 #[.int .i64 0,.int .i64 0]))
      go_wp2_with (first
        | (refine wpLoadF rfl 31 _ rfl g23 2 rfl _ _ (HF32.out.get 5 rfl) #[.int .i64 fl,.int .i64 fh] rfl _ und_span rfl info_span ?_)
        | (refine wpLoadF rfl 31 _ rfl g34 0 rfl _ _ (HF37.out.get 8 rfl) #[.int .i64 fl,.int .i64 fh] rfl _ und_span rfl info_span ?_)
        | (refine wpStoreF rfl rfl 31 _ _ rfl g34 0 rfl #[.int .i64 fl,.int .i64 fh] rfl _ _ (iC [fl,fh]) (HF35.out.get 8 rfl) rfl (by show 0+2≤2;omega) (one_all rfl) info_span ?_;intro w36 hk ho;clear hw34 hg34;have HF37:=Lib.hid (HF35.out.only 8 rfl ho hk);clear ho hk;obtain ⟨g38,hg38⟩:∃ g,w36.heap.size=g:=⟨_,rfl⟩;obtain ⟨w38,hw38⟩:∃ u,w36.alloc (.cells #[.int .i64 fl,.int .i64 fh] 31)=u:=⟨_,rfl⟩;have HF39:=Lib.hid (frE hw38 (HF37.out.alloc hg38.symm 31 #[.int .i64 fl,.int .i64 fh]))))
      clear hw38 hg38
      refine (HSf.out _ g38 (HF39.out.get 9 rfl)).mono ?_
      rintro e w40 ⟨rfl,hw⟩
      have HF41:=Lib.hid (HF39.out.below hw)
      clear hw
      cases bf with
      | false =>
       go_wp2_with fail
       exact HFIN.out _ _ (by simp) HF41.out.drop
      | true =>
       by_cases hm1:fl<0
       ·have g1:decide (fl<0)=true:=decide_eq_true hm1
        have HM1:=Lib.hid hm1
        clear hm1
        have c42:w40.cell? ⟨g34,0,none⟩=some (.int .i64 fl):=(HF41.out.get 8 rfl).cell 0
        go_wp2_with fail
        clear c42
        exact HFIN.out _ _ (by simp [HM1.out]) HF41.out.drop
       ·have g3:decide (fl<0)=false:=decide_eq_false hm1
        have HM1:=Lib.hid hm1
        clear hm1
        have c42:w40.cell? ⟨g34,0,none⟩=some (.int .i64 fl):=(HF41.out.get 8 rfl).cell 0
        go_wp2_with fail
        clear c42
        rw [rounds_succ]
        obtain ⟨g43,hg43⟩:∃ g,w40.heap.size=g:=⟨_,rfl⟩
        obtain ⟨w43,hw43⟩:∃ u,w40.alloc (.cells #[.int .i64 0,.int .i64 0] 31)=u:=⟨_,rfl⟩
        have HF44:=Lib.hid (frE hw43 (HF41.out.alloc hg43.symm 31 #[.int .i64 0,.int .i64 0]))
        go_wp2_with (first
          | (refine wpLoadF rfl 31 _ rfl g23 4 rfl _ _ (HF41.out.get 5 rfl) #[.int .i64 dl,.int .i64 dh] rfl _ und_span rfl info_span ?_)
          | (refine wpLoadF rfl 31 _ rfl g43 0 rfl _ _ (HF46.out.get 10 rfl) #[.int .i64 dl,.int .i64 dh] rfl _ und_span rfl info_span ?_)
          | (refine wpStoreF rfl rfl 31 _ _ rfl g43 0 rfl #[.int .i64 dl,.int .i64 dh] rfl _ _ (iC [dl,dh]) (HF44.out.get 10 rfl) rfl (by show 0+2≤2;omega) (one_all rfl) info_span ?_;intro w45 hk ho;clear hw43 hg43;have HF46:=Lib.hid (HF44.out.only 10 rfl ho hk);clear ho hk;obtain ⟨g47,hg47⟩:∃ g,w45.heap.size=g:=⟨_,rfl⟩;obtain ⟨w47,hw47⟩:∃ u,w45.alloc (.cells #[.int .i64 dl,.int .i64 dh] 31)=u:=⟨_,rfl⟩;have HF48:=Lib.hid (frE hw47 (HF46.out.alloc hg47.symm 31 #[.int .i64 dl,.int .i64 dh]))))
        clear hw47 hg47
        refine (HSd.out _ g47 (HF48.out.get 11 rfl)).mono ?_
        rintro e w49 ⟨rfl,hw⟩
        have HF50:=Lib.hid (HF48.out.below hw)
        clear hw
        cases bd with
        | false =>
         go_wp2_with fail
         exact HFIN.out _ _ (by simp) HF50.out.drop
        | true =>
         by_cases hm2:dl<0
         ·have g1:decide (dl<0)=true:=decide_eq_true hm2
          have HM2:=Lib.hid hm2
          clear hm2
          have c51:w49.cell? ⟨g43,0,none⟩=some (.int .i64 dl):=(HF50.out.get 10 rfl).cell 0
          go_wp2_with fail
          clear c51
          exact HFIN.out _ _ (by simp [HM2.out]) HF50.out.drop
         ·have g4:decide (dl<0)=false:=decide_eq_false hm2
          have HM2:=Lib.hid hm2
          clear hm2
          have c51:w49.cell? ⟨g43,0,none⟩=some (.int .i64 dl):=(HF50.out.get 10 rfl).cell 0
          go_wp2_with fail
          clear c51
          rw [rounds_succ]
          by_cases hm3:time≤0
          ·have g6:decide (time≤0)=true:=decide_eq_true hm3
           have HM3:=Lib.hid hm3
           clear hm3
           have c52:w49.cell? ⟨qb,0,none⟩=some (.int .i64 time):=(HF50.out.get 0 rfl).cell 0
           go_wp2_with fail
           clear c52
           exact HFIN.out _ _ (by simp [HM3.out]) HF50.out.drop
          ·have g6:decide (time≤0)=false:=decide_eq_false hm3
           have HM3:=Lib.hid hm3
           clear hm3
           by_cases hm4:step≤0
           ·have g7:decide (step≤0)=true:=decide_eq_true hm4
            have HM4:=Lib.hid hm4
            clear hm4
            have c52:w49.cell? ⟨qb,0,none⟩=some (.int .i64 time):=(HF50.out.get 0 rfl).cell 0
            have c53:w49.cell? ⟨qb,1,none⟩=some (.int .i64 step):=(HF50.out.get 0 rfl).cell 1
            go_wp2_with fail
            clear c52 c53
            exact HFIN.out _ _ (by simp [HM4.out]) HF50.out.drop
           ·have g7:decide (step≤0)=false:=decide_eq_false hm4
            have HM4:=Lib.hid hm4
            clear hm4
            have c52:w49.cell? ⟨qb,0,none⟩=some (.int .i64 time):=(HF50.out.get 0 rfl).cell 0
            have c53:w49.cell? ⟨qb,1,none⟩=some (.int .i64 step):=(HF50.out.get 0 rfl).cell 1
            have c54:w49.cell? ⟨qb,12,none⟩=some (.slice A 0 c):=(HF50.out.get 0 rfl).cell 12
            go_wp2_with fail
            clear c52 c53 c54
            exact HFIN.out _ _ (by simp [HM0.out,HM1.out,HM2.out,HM3.out,HM4.out]) HF50.out.drop
/-- How many steps an arc has. -/
def stepsI (a:ArcD):Int:=(a.time - 1) / a.step+1
def stepsB (a:ArcD):Int × Int:=if arcB a=true then (if 4096<stepsI a then (0,3) else (stepsI a,0)) else (0,2)
theorem arcB_pos {a:ArcD} (h:arcB a=true):0<a.time∧0<a.step:=by
 unfold arcB at h
 simp only [Bool.and_eq_true,Bool.not_eq_true',decide_eq_false_iff_not] at h
 omega
theorem steps0_any (a:ArcD) (A:Option Addr) (c:Nat) (hd:WdB a.dir) (ht:I64 a.time) (hs:I64 a.step) (w:World):Calls Tryz.prog 20 #[arcV a A 0 c] w fun e w'=>e=.returned (.tuple #[.int .i64 (stepsB a).1,.int .i64 (stepsB a).2])∧Below w.heap.size w w':=by
 have HCK:=Lib.hid (fun w=>checkArc0_any a A c hd w)
 obtain ⟨PQ,hPQ⟩:∃ Q:Ending→World→Prop,(fun e w'=>e=.returned (.tuple #[.int .i64 (stepsB a).1,.int .i64 (stepsB a).2])∧Below w.heap.size w w')=Q:=⟨_,rfl⟩
 have HFIN:Hid (∀ w' r s,stepsB a=(r,s)→Fr w [] [] w'→PQ (.returned (.tuple #[.int .i64 r,.int .i64 s])) w'):=Lib.hid fun w' r s hr h=>by rw [← hPQ];exact ⟨by rw [hr],h.toBelow⟩
 rw [hPQ]
 have hp:=@arcB_pos a
 have hsi:stepsI a=(a.time - 1) / a.step+1:=rfl
 unfold stepsB at HFIN
 obtain ⟨n,hn⟩:∃ n,stepsI a=n:=⟨_,rfl⟩
 rw [hn] at hsi HFIN
 obtain ⟨b,hb⟩:∃ b,arcB a=b:=⟨_,rfl⟩
 rw [hb] at HCK hp HFIN
 obtain ⟨time,step,⟨tl,th⟩,⟨fl,fh⟩,⟨⟨dxl,dxh⟩,⟨dyl,dyh⟩,⟨dzl,dzh⟩⟩,drag,⟨dl,dh⟩⟩:=a
 unfold I64 at ht hs
 dsimp only at hp hsi ht hs
 unfold arcV at HCK ⊢
 dsimp only at HCK HFIN ⊢
 clear hPQ hn hb hd
 cases b with
 | false =>
  clear hp hsi ht hs
  obtain ⟨qb,hqb⟩:∃ qb,w.heap.size=qb:=⟨_,rfl⟩
  obtain ⟨W0,hW0⟩:∃ W0,w.alloc (.cells #[.int .i64 time,.int .i64 step,.int .i64 tl,.int .i64 th,.int .i64 fl,.int .i64 fh,.int .i64 dxl,.int .i64 dxh,.int .i64 dyl,.int .i64 dyh,.int .i64 dzl,.int .i64 dzh,.slice A 0 c,.int .i64 dl,.int .i64 dh] 46)=W0:=⟨_,rfl⟩
  have HF0:Hid (Fr w [] [(qb,46,#[.int .i64 time,.int .i64 step,.int .i64 tl,.int .i64 th,.int .i64 fl,.int .i64 fh,.int .i64 dxl,.int .i64 dxh,.int .i64 dyl,.int .i64 dyh,.int .i64 dzl,.int .i64 dzh,.slice A 0 c,.int .i64 dl,.int .i64 dh])] W0):=Lib.hid (by rw [← hW0];exact (Fr.start w).alloc (by simp [← hqb]) 46 #[.int .i64 time,.int .i64 step,.int .i64 tl,.int .i64 th,.int .i64 fl,.int .i64 fh,.int .i64 dxl,.int .i64 dxh,.int .i64 dyl,.int .i64 dyh,.int .i64 dzl,.int .i64 dzh,.slice A 0 c,.int .i64 dl,.int .i64 dh])
  go_enter Tryz.func20,Tryz.ntmps20
  go_upto_region 1 with (fail)
  clear hW0 hqb
  go_wp2_with (refine wpLoadF rfl 46 _ rfl qb 0 rfl _ _ (HF0.out.get 0 rfl) #[.int .i64 time,.int .i64 step,.int .i64 tl,.int .i64 th,.int .i64 fl,.int .i64 fh,.int .i64 dxl,.int .i64 dxh,.int .i64 dyl,.int .i64 dyh,.int .i64 dzl,.int .i64 dzh,.slice A 0 c,.int .i64 dl,.int .i64 dh] rfl _ und_46 rfl info_46 ?_)
  refine (HCK.out _).mono ?_
  rintro e w1 ⟨rfl,hw⟩
  have HF2:=Lib.hid (HF0.out.below hw)
  clear hw
  go_wp2_with fail
  exact HFIN.out _ _ _ (by simp) HF2.out.drop
 | true =>
  obtain ⟨p1,p2⟩:=hp rfl
  clear hp
  have m1:IntKind.i64.wrap (time - 1)=time - 1:=IntWalk.i64_in _ (by omega)
  have m1':wrap64 (time - 1)=time - 1:=w64_in (by omega) (by omega)
  obtain ⟨q,hq⟩:∃ q,(time - 1) / step=q:=⟨_,rfl⟩
  have hq0:0≤q:=by rw [← hq];exact Int.ediv_nonneg (by omega) (by omega)
  have hq1:q≤time - 1:=by rw [← hq];exact Int.ediv_le_self _ (by omega)
  have d1:(time - 1).tdiv step=q:=by rw [Int.tdiv_eq_ediv_of_nonneg (by omega)];exact hq
  have d3:(step == 0)=false:=by simp;omega
  have d4:¬ step=0:=by omega
  rw [hq] at hsi
  have m2:IntKind.i64.wrap q=q:=IntWalk.i64_in _ (by omega)
  have m2':wrap64 q=q:=w64_in (by omega) (by omega)
  have m3:IntKind.i64.wrap (q+1)=n:=by rw [hsi];exact IntWalk.i64_in _ (by omega)
  have m3':wrap64 (q+1)=n:=by rw [hsi];exact w64_in (by omega) (by omega)
  clear hq hq0 hq1 ht hs hsi
  by_cases h:4096<n
  ·have g:decide (4096<n)=true:=decide_eq_true h
   have HH:=Lib.hid h
   clear h p1 p2
   obtain ⟨qb,hqb⟩:∃ qb,w.heap.size=qb:=⟨_,rfl⟩
   obtain ⟨W0,hW0⟩:∃ W0,w.alloc (.cells #[.int .i64 time,.int .i64 step,.int .i64 tl,.int .i64 th,.int .i64 fl,.int .i64 fh,.int .i64 dxl,.int .i64 dxh,.int .i64 dyl,.int .i64 dyh,.int .i64 dzl,.int .i64 dzh,.slice A 0 c,.int .i64 dl,.int .i64 dh] 46)=W0:=⟨_,rfl⟩
   have HF0:Hid (Fr w [] [(qb,46,#[.int .i64 time,.int .i64 step,.int .i64 tl,.int .i64 th,.int .i64 fl,.int .i64 fh,.int .i64 dxl,.int .i64 dxh,.int .i64 dyl,.int .i64 dyh,.int .i64 dzl,.int .i64 dzh,.slice A 0 c,.int .i64 dl,.int .i64 dh])] W0):=Lib.hid (by rw [← hW0];exact (Fr.start w).alloc (by simp [← hqb]) 46 #[.int .i64 time,.int .i64 step,.int .i64 tl,.int .i64 th,.int .i64 fl,.int .i64 fh,.int .i64 dxl,.int .i64 dxh,.int .i64 dyl,.int .i64 dyh,.int .i64 dzl,.int .i64 dzh,.slice A 0 c,.int .i64 dl,.int .i64 dh])
   go_enter Tryz.func20,Tryz.ntmps20
   go_upto_region 1 with (fail)
   clear hW0 hqb
   go_wp2_with (refine wpLoadF rfl 46 _ rfl qb 0 rfl _ _ (HF0.out.get 0 rfl) #[.int .i64 time,.int .i64 step,.int .i64 tl,.int .i64 th,.int .i64 fl,.int .i64 fh,.int .i64 dxl,.int .i64 dxh,.int .i64 dyl,.int .i64 dyh,.int .i64 dzl,.int .i64 dzh,.slice A 0 c,.int .i64 dl,.int .i64 dh] rfl _ und_46 rfl info_46 ?_)
   refine (HCK.out _).mono ?_
   rintro e w1 ⟨rfl,hw⟩
   have HF2:=Lib.hid (HF0.out.below hw)
   clear hw
   have c3:w1.cell? ⟨qb,0,none⟩=some (.int .i64 time):=(HF2.out.get 0 rfl).cell 0
   have c4:w1.cell? ⟨qb,1,none⟩=some (.int .i64 step):=(HF2.out.get 0 rfl).cell 1
   go_wp2_with fail
   clear c3 c4
   exact HFIN.out _ _ _ (by simp [HH.out]) HF2.out.drop
  ·have g:decide (4096<n)=false:=decide_eq_false h
   have HH:=Lib.hid h
   clear h p1 p2
   obtain ⟨qb,hqb⟩:∃ qb,w.heap.size=qb:=⟨_,rfl⟩
   obtain ⟨W0,hW0⟩:∃ W0,w.alloc (.cells #[.int .i64 time,.int .i64 step,.int .i64 tl,.int .i64 th,.int .i64 fl,.int .i64 fh,.int .i64 dxl,.int .i64 dxh,.int .i64 dyl,.int .i64 dyh,.int .i64 dzl,.int .i64 dzh,.slice A 0 c,.int .i64 dl,.int .i64 dh] 46)=W0:=⟨_,rfl⟩
   have HF0:Hid (Fr w [] [(qb,46,#[.int .i64 time,.int .i64 step,.int .i64 tl,.int .i64 th,.int .i64 fl,.int .i64 fh,.int .i64 dxl,.int .i64 dxh,.int .i64 dyl,.int .i64 dyh,.int .i64 dzl,.int .i64 dzh,.slice A 0 c,.int .i64 dl,.int .i64 dh])] W0):=Lib.hid (by rw [← hW0];exact (Fr.start w).alloc (by simp [← hqb]) 46 #[.int .i64 time,.int .i64 step,.int .i64 tl,.int .i64 th,.int .i64 fl,.int .i64 fh,.int .i64 dxl,.int .i64 dxh,.int .i64 dyl,.int .i64 dyh,.int .i64 dzl,.int .i64 dzh,.slice A 0 c,.int .i64 dl,.int .i64 dh])
   go_enter Tryz.func20,Tryz.ntmps20
   go_upto_region 1 with (fail)
   clear hW0 hqb
   go_wp2_with (refine wpLoadF rfl 46 _ rfl qb 0 rfl _ _ (HF0.out.get 0 rfl) #[.int .i64 time,.int .i64 step,.int .i64 tl,.int .i64 th,.int .i64 fl,.int .i64 fh,.int .i64 dxl,.int .i64 dxh,.int .i64 dyl,.int .i64 dyh,.int .i64 dzl,.int .i64 dzh,.slice A 0 c,.int .i64 dl,.int .i64 dh] rfl _ und_46 rfl info_46 ?_)
   refine (HCK.out _).mono ?_
   rintro e w1 ⟨rfl,hw⟩
   have HF2:=Lib.hid (HF0.out.below hw)
   clear hw
   have c3:w1.cell? ⟨qb,0,none⟩=some (.int .i64 time):=(HF2.out.get 0 rfl).cell 0
   have c4:w1.cell? ⟨qb,1,none⟩=some (.int .i64 step):=(HF2.out.get 0 rfl).cell 1
   go_wp2_with fail
   clear c3 c4
   exact HFIN.out _ _ _ (by simp [HH.out]) HF2.out.drop
end Go.Proofs.YtmkoegljnebdiaaGreat
