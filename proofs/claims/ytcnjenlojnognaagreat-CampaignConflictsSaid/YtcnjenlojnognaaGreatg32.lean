/- What is proved: the texts Pn Pp, one behind the other; each says at its head what it proves, and under which conditions. -/
import Derived.Test.YtcnjenlojnognaaGreatg30
/- What is proved: plain laws of conflicts: the least of the sets that cannot be launched; a campaign of some of the cargos alone; a campaign with other cargos that must be launched. Conditions: those that each lemma states. -/
namespace Go.Proofs.YtcnjenlojnognaaGreat
open Go.RowKit

/-- Is a list shorter than another one, or as long and ahead of it? -/
def lessC (l m:List Int):Prop:=l.length<m.length ∨ (l.length=m.length∧ordL l m<0)
theorem fewerB_some {o l:List Int}:fewerB (some o) l=true ↔ lessC l o:=by unfold fewerB lessC;simp
theorem lessC_total {l m:List Int} (h1:¬ lessC l m) (h2:¬ lessC m l):l=m:=by
 unfold lessC at h1 h2
 have e:l.length=m.length:=by omega
 have h3:¬ ordL l m<0:=fun h=>h1 (Or.inr ⟨e,h⟩)
 have h4:¬ ordL m l<0:=fun h=>h2 (Or.inr ⟨e.symm,h⟩)
 rw [ordL_swap l m] at h4
 exact ordL_zero.1 (by omega)
theorem lessC_trans {l m n:List Int} (h1:lessC l m) (h2:lessC m n):lessC l n:=by
 unfold lessC at *
 rcases h1 with h1 | ⟨h1,h3⟩ <;> rcases h2 with h2 | ⟨h2,h4⟩
 ·exact Or.inl (by omega)
 ·exact Or.inl (by omega)
 ·exact Or.inl (by omega)
 ·exact Or.inr ⟨by omega,ordL_trans h3 h4⟩
theorem lessC_irrefl (l:List Int):¬ lessC l l:=by
 unfold lessC
 rw [ordL_zero.2 rfl];omega
/-- The least of some sets. -/
def LeastC (C:Nat→Prop) (r:Option (List Int)):Prop:=(r=none→∀ p,¬ C p)∧∀ o,r=some o→(∃ p,C p∧o=bitsL p)∧∀ p,C p→¬ lessC (bitsL p) o
theorem LeastC.unique {C:Nat→Prop} {r r':Option (List Int)} (h:LeastC C r) (h':LeastC C r'):r=r':=by
 cases r with
 | none =>
  cases r' with
  | none=>rfl
  | some o=>obtain ⟨⟨p,hp,_⟩,_⟩:=h'.2 o rfl;exact absurd hp (h.1 rfl p)
 | some o =>
  obtain ⟨⟨p,hp,ho⟩,h2⟩:=h.2 o rfl
  cases r' with
  | none=>exact absurd hp (h'.1 rfl p)
  | some o' =>
   obtain ⟨⟨p',hp',ho'⟩,h2'⟩:=h'.2 o' rfl
   have e1:=h2' p hp
   have e2:=h2 p' hp'
   rw [← ho] at e1
   rw [← ho'] at e2
   rw [lessC_total e1 e2]
theorem LeastC.congr {C D:Nat→Prop} {r:Option (List Int)} (h:LeastC C r) (e:∀ p,C p ↔ D p):LeastC D r :=
 ⟨fun hr p hp=>h.1 hr p ((e p).2 hp),fun o ho=>by obtain ⟨⟨p,hp,e2⟩,h2⟩:=h.2 o ho;exact ⟨⟨p,(e p).1 hp,e2⟩,fun p hp=>h2 p ((e p).2 hp)⟩⟩
def stepC (q:Nat→Bool) (out:Option (List Int)) (p:Nat):Option (List Int):=if fewerB out (bitsL p) && q p then some (bitsL p) else out
theorem stepC_least {q:Nat→Bool} {C:Nat→Prop} {r:Option (List Int)} (h:LeastC C r) (p:Nat):LeastC (fun p'=>C p' ∨ (p'=p∧q p'=true)) (stepC q r p):=by
 unfold stepC
 cases hq:q p with
 | false =>
  rw [Bool.and_false,if_neg (by decide)]
  refine h.congr fun p'=>⟨Or.inl,fun h=>?_⟩
  rcases h with h | ⟨rfl,h⟩
  ·exact h
  ·rw [hq] at h;cases h
 | true =>
  rw [Bool.and_true]
  cases r with
  | none =>
   rw [if_pos (show fewerB none (bitsL p)=true from rfl)]
   refine ⟨fun e=>by (cases e),fun o ho=>?_⟩
   obtain rfl:=Option.some.inj ho
   refine ⟨⟨p,Or.inr ⟨rfl,hq⟩,rfl⟩,fun p' hp'=>?_⟩
   rcases hp' with hp' | ⟨rfl,_⟩
   ·exact absurd hp' (h.1 rfl p')
   ·exact lessC_irrefl _
  | some o =>
   obtain ⟨⟨p0,hp0,ho⟩,h2⟩:=h.2 o rfl
   by_cases hl:lessC (bitsL p) o
   ·rw [if_pos (fewerB_some.2 hl)]
    refine ⟨fun e=>by (cases e),fun o' ho'=>?_⟩
    obtain rfl:=Option.some.inj ho'
    refine ⟨⟨p,Or.inr ⟨rfl,hq⟩,rfl⟩,fun p' hp'=>?_⟩
    rcases hp' with hp' | ⟨rfl,_⟩
    ·exact fun hh=>h2 p' hp' (lessC_trans hh hl)
    ·exact lessC_irrefl _
   ·rw [if_neg (fun e=>hl (fewerB_some.1 e))]
    refine ⟨fun e=>by (cases e),fun o' ho'=>?_⟩
    obtain rfl:=Option.some.inj ho'
    refine ⟨⟨p0,Or.inl hp0,ho⟩,fun p' hp'=>?_⟩
    rcases hp' with hp' | ⟨rfl,_⟩
    ·exact h2 p' hp'
    ·exact hl
theorem stepC_fold {q:Nat→Bool}:∀ (ps:List Nat) (C:Nat→Prop) (r:Option (List Int)),LeastC C r→LeastC (fun p=>C p ∨ (p ∈ ps∧q p=true)) (ps.foldl (stepC q) r)
 | [],C,r,h=>h.congr fun p=>by simp
 | a :: ps,C,r,h=>by
  rw [List.foldl_cons]
  refine (stepC_fold ps _ _ (stepC_least (q:=q) h a)).congr fun p=>?_
  constructor
  ·rintro ((h | ⟨rfl,h⟩) | ⟨h,h'⟩)
   ·exact Or.inl h
   ·exact Or.inr ⟨by simp,h⟩
   ·exact Or.inr ⟨List.mem_cons_of_mem _ h,h'⟩
  ·rintro (h | ⟨h,h'⟩)
   ·exact Or.inl (Or.inl h)
   ·rcases List.mem_cons.1 h with e | e
    ·subst e;exact Or.inl (Or.inr ⟨rfl,h'⟩)
    ·exact Or.inr ⟨e,h'⟩
theorem stepC_none (q:Nat→Bool) (ps:List Nat):LeastC (fun p=>p ∈ ps∧q p=true) (ps.foldl (stepC q) none) :=
 (stepC_fold (q:=q) ps (fun _=>False) none ⟨fun _ _ h=>h,fun o h=>by cases h⟩).congr fun p=>by simp

/-! A campaign of some cargos alone, all of which must be launched. -/
def withB (c:CampD) (l:List Int):CampD:={ c with cargos:=l.map fun i=>{ c.cargo i with must:=true } }
def reL (l:List Int) (x:LaunchD):LaunchD:={ x with cargos:=x.cargos.map fun j=>numI l j.toNat }
def InL (l m:List Int):Prop:=∀ j ∈ m,0≤j∧j<(l.length:Int)
theorem with_cargo {c:CampD} {l:List Int} {j:Int} (h0:0≤j) (h:j<(l.length:Int)):(withB c l).cargo j={ c.cargo (numI l j.toNat) with must:=true }:=by
 have e:numI l j.toNat=l[j.toNat]'(by omega):=by unfold numI;rw [List.getD_eq_getElem?_getD,List.getElem?_eq_getElem (by omega:j.toNat<l.length)];rfl
 rw [e]
 show (l.map fun i=>({ c.cargo i with must:=true }:CargoD)).getD j.toNat cargo0=_
 rw [List.getD_eq_getElem?_getD,List.getElem?_map,List.getElem?_eq_getElem (by omega:j.toNat<l.length)]
 rfl
theorem numI_mono {l:List Int} (hl:l.Pairwise (·<·)) {i j:Nat} (hij:i<j) (hj:j<l.length):numI l i<numI l j:=by
 unfold numI
 rw [List.getD_eq_getElem?_getD,List.getD_eq_getElem?_getD,List.getElem?_eq_getElem hj,List.getElem?_eq_getElem (by omega)]
 exact List.pairwise_iff_getElem.1 hl i j (by omega) hj hij
theorem numI_lt {l:List Int} (hl:l.Pairwise (·<·)) {i j:Int} (hi:0≤i) (hj:0≤j) (hi2:i<(l.length:Int)) (hj2:j<(l.length:Int)):numI l i.toNat<numI l j.toNat ↔ i<j:=by
 constructor
 ·intro h
  rcases Int.lt_or_le i j with h1 | h1
  ·exact h1
  ·rcases Int.lt_or_le j i with h2 | h2
   ·have:=numI_mono hl (i:=j.toNat) (j:=i.toNat) (by omega) (by omega);omega
   ·obtain rfl:i=j:=by omega
    omega
 ·intro h;exact numI_mono hl (by omega) (by omega)
theorem ordL_map {l:List Int} (hl:l.Pairwise (·<·)):∀ {a b:List Int},InL l a→InL l b→ordL (a.map fun j=>numI l j.toNat) (b.map fun j=>numI l j.toNat)=ordL a b
 | [],[],_,_=>rfl
 | [],_ :: _,_,_=>rfl
 | _ :: _,[],_,_=>rfl
 | x :: a,y :: b,ha,hb=>by
  have hx:=ha x (by simp)
  have hy:=hb y (by simp)
  have e1:=numI_lt hl hx.1 hy.1 hx.2 hy.2
  have e2:=numI_lt hl hy.1 hx.1 hy.2 hx.2
  simp only [List.map_cons,ordL,e1,e2]
  rw [ordL_map hl (fun j hj=>ha j (List.mem_cons_of_mem _ hj)) fun j hj=>hb j (List.mem_cons_of_mem _ hj)]
theorem cmpL_re {l:List Int} (hl:l.Pairwise (·<·)) {x y:LaunchD} (hx:InL l x.cargos) (hy:InL l y.cargos):cmpL (reL l x) (reL l y)=cmpL x y:=by
 unfold cmpL reL
 dsimp only
 rw [ordL_map hl hx hy]
theorem numI_inj {l:List Int} (hl:l.Pairwise (·<·)) {i j:Int} (hi:0≤i) (hj:0≤j) (hi2:i<(l.length:Int)) (hj2:j<(l.length:Int)) (h:numI l i.toNat=numI l j.toNat):i=j:=by
 have e1:=numI_lt hl hi hj hi2 hj2
 have e2:=numI_lt hl hj hi hj2 hi2
 omega
theorem mass_re (c:CampD) (l:List Int):∀ (m:List Int) (n:Int),InL l m→(m.map fun j=>numI l j.toNat).foldl (fun n i=>n+(c.cargo i).mass) n=m.foldl (fun n i=>n+((withB c l).cargo i).mass) n
 | [],_,_=>rfl
 | a :: m,n,h=>by
  have ha:=h a (by simp)
  rw [List.map_cons,List.foldl_cons,List.foldl_cons,with_cargo ha.1 ha.2]
  exact mass_re c l m _ fun j hj=>h j (List.mem_cons_of_mem _ hj)
theorem numI_mem {l:List Int} {j:Nat} (h:j<l.length):numI l j ∈ l:=by
 unfold numI
 rw [List.getD_eq_getElem?_getD,List.getElem?_eq_getElem h];exact List.getElem_mem h
theorem poss_re {c:CampD} {l:List Int} (hl:l.Pairwise (·<·)) (hr:∀ i ∈ l,0≤i∧i<(c.cargos.length:Int)) {x:LaunchD} (hx:InL l x.cargos):possB (withB c l) x=true ↔ possB c (reL l x)=true:=by
 have hm:massL c (reL l x).cargos=massL (withB c l) x.cargos:=mass_re c l x.cargos 0 hx
 constructor
 ·intro h
  have hp:=possB_parts h
  have hris:=risingB_pair.1 hp.2.2.2.2.2.2.2.2.1
  refine possB_of hp.1 hp.2.1 hp.2.2.1 hp.2.2.2.1 hp.2.2.2.2.1 hp.2.2.2.2.2.1 hp.2.2.2.2.2.2.1 (fun e=>hp.2.2.2.2.2.2.2.1 (List.map_eq_nil_iff.1 e)) (risingB_pair.2 ⟨?_,fun i hi=>?_⟩) (fun i hi=>?_) ?_
  ·refine List.pairwise_map.2 (hris.1.imp_of_mem fun {a b} ha hb hab=>?_)
   exact (numI_lt hl (hx a ha).1 (hx b hb).1 (hx a ha).2 (hx b hb).2).2 hab
  ·obtain ⟨j,hj,rfl⟩:=List.mem_map.1 hi
   exact hr _ (numI_mem (by have:=hx j hj;omega))
  ·obtain ⟨j,hj,rfl⟩:=List.mem_map.1 hi
   have:=hp.2.2.2.2.2.2.2.2.2.1 j hj
   rw [with_cargo (hx j hj).1 (hx j hj).2] at this
   exact this
  ·rw [hm];exact hp.2.2.2.2.2.2.2.2.2.2
 ·intro h
  have hp:=possB_parts h
  have hris:=risingB_pair.1 hp.2.2.2.2.2.2.2.2.1
  refine possB_of hp.1 hp.2.1 hp.2.2.1 hp.2.2.2.1 hp.2.2.2.2.1 hp.2.2.2.2.2.1 hp.2.2.2.2.2.2.1 (fun e=>hp.2.2.2.2.2.2.2.1 (by unfold reL;dsimp only;rw [e];rfl)) (risingB_pair.2 ⟨?_,fun i hi=>?_⟩) (fun i hi=>?_) ?_
  ·exact (List.pairwise_map.1 hris.1).imp_of_mem fun {a b} ha hb hab=>(numI_lt hl (hx a ha).1 (hx b hb).1 (hx a ha).2 (hx b hb).2).1 hab
  ·have:=hx i hi
   refine ⟨this.1,?_⟩
   unfold withB;dsimp only;rw [List.length_map];exact this.2
  ·rw [with_cargo (hx i hi).1 (hx i hi).2]
   exact hp.2.2.2.2.2.2.2.2.2.1 _ (List.mem_map.2 ⟨i,hi,rfl⟩)
  ·have:=hp.2.2.2.2.2.2.2.2.2.2
   rw [hm] at this;exact this
theorem apart_re {l:List Int} (hl:l.Pairwise (·<·)) {y x:LaunchD} (hy:InL l y.cargos) (hx:InL l x.cargos):apartL (reL l y) (reL l x) ↔ apartL y x:=by
 constructor
 ·intro h i hi hiy
  exact h _ (List.mem_map.2 ⟨i,hi,rfl⟩) (List.mem_map.2 ⟨i,hiy,rfl⟩)
 ·intro h i hi hiy
  obtain ⟨a,ha,rfl⟩:=List.mem_map.1 hi
  obtain ⟨b,hb,e⟩:=List.mem_map.1 hiy
  have:=numI_inj hl (hx a ha).1 (hy b hb).1 (hx a ha).2 (hy b hb).2 e.symm
  subst this
  exact h a ha hb
theorem plan_re {c:CampD} {l:List Int} (hl:l.Pairwise (·<·)) (hr:∀ i ∈ l,0≤i∧i<(c.cargos.length:Int)) {L:List LaunchD} (hL:∀ x ∈ L,InL l x.cargos):PlanOk (withB c l) L ↔ PlanOk c (L.map (reL l)):=by
 have hf:∀ {y x:LaunchD},InL l y.cargos→InL l x.cargos→(FitC (withB c l) y x ↔ FitC c (reL l y) (reL l x)):=fun {y x} hy hx =>
  ⟨fun f=>⟨(apart_re hl hy hx).2 f.apart,f.craft,f.pad⟩,fun f=>⟨(apart_re hl hy hx).1 f.apart,f.craft,f.pad⟩⟩
 constructor
 ·intro h
  refine ⟨fun z hz=>?_,List.pairwise_map.2 (h.fit.imp_of_mem fun {a b} ha hb f=>(hf (hL a ha) (hL b hb)).1 f),List.pairwise_map.2 (h.sorted.imp_of_mem fun {a b} ha hb f=>by rw [cmpL_re hl (hL a ha) (hL b hb)];exact f)⟩
  obtain ⟨x,hx,rfl⟩:=List.mem_map.1 hz
  exact (poss_re hl hr (hL x hx)).1 (h.poss x hx)
 ·intro h
  refine ⟨fun x hx=>(poss_re hl hr (hL x hx)).2 (h.poss _ (List.mem_map.2 ⟨x,hx,rfl⟩)),(List.pairwise_map.1 h.fit).imp_of_mem fun {a b} ha hb f=>(hf (hL a ha) (hL b hb)).2 f,(List.pairwise_map.1 h.sorted).imp_of_mem fun {a b} ha hb f=>by rw [cmpL_re hl (hL a ha) (hL b hb)] at f;exact f⟩
theorem names_sub {l:List ByteArray} (h:namesB l=true) {m:List Nat} (hm:m.Pairwise (·<·)) (hr:∀ i ∈ m,i<l.length):namesB (m.map fun i=>l.getD i ⟨#[]⟩)=true:=by
 have hget:∀ k,k<m.length→(m.map fun i=>l.getD i ⟨#[]⟩).getD k ⟨#[]⟩=l.getD (m.getD k 0) ⟨#[]⟩:=fun k hk=>by
  rw [List.getD_eq_getElem?_getD,List.getElem?_map,List.getElem?_eq_getElem hk]
  simp [List.getD_eq_getElem?_getD,List.getElem?_eq_getElem hk]
 have hlt:∀ k,k<m.length→m.getD k 0<l.length:=fun k hk=>hr _ (by rw [List.getD_eq_getElem?_getD,List.getElem?_eq_getElem hk];exact List.getElem_mem hk)
 have hmo:∀ j k,j<k→k<m.length→m.getD j 0<m.getD k 0:=fun j k hjk hk=>by
  rw [List.getD_eq_getElem?_getD,List.getD_eq_getElem?_getD,List.getElem?_eq_getElem hk,List.getElem?_eq_getElem (by omega)]
  exact List.pairwise_iff_getElem.1 hm j k (by omega) hk hjk
 unfold namesB at h ⊢
 rw [allN_iff] at h ⊢
 intro k hk
 rw [List.length_map] at hk
 have h1:=h _ (hlt k hk)
 rw [Bool.and_eq_true,allN_iff] at h1 ⊢
 rw [hget k hk]
 refine ⟨h1.1,fun j hj=>?_⟩
 rw [hget j (by omega)]
 exact h1.2 _ (hmo j k hj hk)
/-- Some of a valid campaign's cargos are a valid campaign. -/
theorem with_camp {c:CampD} (hc:campB c=true) {b:Nat} (h0:b ≠ 0) (hb:b<2 ^ c.cargos.length):campB (withB c (bitsL b))=true:=by
 have hn:=camp_len hc
 have h64:b<64:=Nat.lt_of_lt_of_le hb (Nat.pow_le_pow_right (by decide) hn.2.2.2.2.2.1)
 have hmem:∀ i ∈ bitsL b,0≤i∧i<(c.cargos.length:Int):=fun i hi=>by
  obtain ⟨a1,_,a3⟩:=bitsL_mem.1 hi
  refine ⟨a1,?_⟩
  rcases Nat.lt_or_ge i.toNat c.cargos.length with h6 | h6
  ·omega
  ·rw [Nat.testBit_lt_two_pow (Nat.lt_of_lt_of_le hb (Nat.pow_le_pow_right (by decide) h6))] at a3;cases a3
 have hl0:1≤(bitsL b).length:=by
  rcases Nat.eq_zero_or_pos (bitsL b).length with h | h
  ·exact absurd ((bitsL_nil h64).1 (List.length_eq_zero_iff.1 h)) h0
  ·exact h
 have hl6:(bitsL b).length≤6:=by unfold bitsL;rw [List.length_map];exact Nat.le_trans (List.length_filter_le _ _) (by simp)
 have hnm:(withB c (bitsL b)).cargos.map (·.name)=((List.range 6).filter fun i=>b.testBit i).map fun i=>(c.cargos.map (·.name)).getD i ⟨#[]⟩:=by
  unfold withB bitsL CampD.cargo
  dsimp only
  rw [List.map_map,List.map_map]
  apply List.map_congr_left
  intro i _
  simp only [Function.comp_apply,Int.toNat_natCast,Int.ofNat_eq_natCast]
  rw [List.getD_eq_getElem?_getD,List.getD_eq_getElem?_getD,List.getElem?_map]
  cases c.cargos[i]? <;> rfl
 unfold campB at hc ⊢
 simp only [Bool.and_eq_true] at hc ⊢
 obtain ⟨⟨⟨⟨⟨⟨⟨⟨⟨c1,c2⟩,c3⟩,c4⟩,c5⟩,c6⟩,c7⟩,c8⟩,c9⟩,c10⟩:=hc
 refine ⟨⟨⟨⟨⟨⟨⟨⟨⟨c1,c2⟩,?_⟩,c4⟩,c5⟩,c6⟩,?_⟩,c8⟩,c9⟩,?_⟩
 ·rw [inB_iff]
  unfold withB;dsimp only;rw [List.length_map];omega
 ·rw [List.all_eq_true]
  intro y hy
  obtain ⟨i,hi,rfl⟩:=List.mem_map.1 (show y ∈ (bitsL b).map (fun i=>{ c.cargo i with must:=true }) from hy)
  have h1:=hmem i hi
  refine List.all_eq_true.1 c7 (c.cargo i) ?_
  unfold CampD.cargo
  rw [List.getD_eq_getElem?_getD,List.getElem?_eq_getElem (by omega)];exact List.getElem_mem _
 ·rw [hnm]
  refine names_sub c10 (List.Pairwise.filter _ (List.pairwise_lt_range)) fun i hi=>?_
  rw [List.length_map]
  have:=hmem (i:Int) (by unfold bitsL;exact List.mem_map.2 ⟨i,hi,rfl⟩)
  omega
theorem findIdx_num {l:List Int} {i:Int} (h:i ∈ l):l.findIdx (· == i)<l.length∧numI l (l.findIdx (· == i))=i:=by
 have h1:l.findIdx (· == i)<l.length:=List.findIdx_lt_length_of_exists ⟨i,h,by simp⟩
 refine ⟨h1,?_⟩
 unfold numI
 rw [List.getD_eq_getElem?_getD,List.getElem?_eq_getElem h1]
 have:=List.findIdx_getElem (w:=h1)
 simpa using this
/-- Can some cargos be launched: by a campaign of theirs alone, by the whole one. -/
theorem with_can {c:CampD} (hc:campB c=true) {b:Nat} (h0:b ≠ 0) (hb:b<2 ^ c.cargos.length):(bestB (withB c (bitsL b))).isSome=canB c b:=by
 have hd:=with_camp hc h0 hb
 have hn:=camp_len hc
 have h64:b<64:=Nat.lt_of_lt_of_le hb (Nat.pow_le_pow_right (by decide) hn.2.2.2.2.2.1)
 have hrng:∀ i ∈ bitsL b,0≤i∧i<(c.cargos.length:Int):=fun i hi=>by
  obtain ⟨a1,_,a3⟩:=bitsL_mem.1 hi
  refine ⟨a1,?_⟩
  rcases Nat.lt_or_ge i.toNat c.cargos.length with h6 | h6
  ·omega
  ·rw [Nat.testBit_lt_two_pow (Nat.lt_of_lt_of_le hb (Nat.pow_le_pow_right (by decide) h6))] at a3;cases a3
 have hl:=bitsL_rise b
 have hlen:(withB c (bitsL b)).cargos.length=(bitsL b).length:=by unfold withB;dsimp only;rw [List.length_map]
 have hmust:∀ j:Nat,(mustS (withB c (bitsL b))).testBit j=decide (j<(bitsL b).length):=fun j=>by
  rw [mustS_bit,hlen]
  by_cases hj:j<(bitsL b).length
  ·rw [with_cargo (by omega) (by omega)];simp [hj]
  ·simp [hj]
 have hl6:(bitsL b).length≤6:=by rw [← hlen];exact (camp_len hd).2.2.2.2.2.1
 rw [Bool.eq_iff_iff,canB_iff hc h64]
 constructor
 ·intro h
  obtain ⟨B,hB⟩:=Option.isSome_iff_exists.1 h
  obtain ⟨p1,p2,p3⟩:=best_ok hd hB
  have hIn:∀ x ∈ B,InL (bitsL b) x.cargos:=fun x hx j hj=>by
   have:=(risingB_pair.1 (possB_parts (p1.poss x hx)).2.2.2.2.2.2.2.2.1).2 j hj
   rw [hlen] at this;exact this
  refine ⟨B.map (reL (bitsL b)),(plan_re hl hrng hIn).1 p1,nat_bits_eq fun i=>?_⟩
  have hw:=worthB_set hd p1
  rw [p3] at hw
  have hm:decide (setOf B &&& mustS (withB c (bitsL b))=mustS (withB c (bitsL b)))=true:=(congrArg (fun p:Int × Bool × Int=>p.2.1) hw).symm
  rw [decide_eq_true_eq,Nat.and_comm,and_sub] at hm
  rw [Bool.eq_iff_iff,setOf_bit]
  constructor
  ·rintro ⟨h6,z,hz,hi⟩
   obtain ⟨x,hx,rfl⟩:=List.mem_map.1 hz
   obtain ⟨j,hj,e⟩:=List.mem_map.1 hi
   have hmem:numI (bitsL b) j.toNat ∈ bitsL b:=numI_mem (by have:=hIn x hx j hj;omega)
   rw [show numI (bitsL b) j.toNat=(i:Int) from e] at hmem
   have:=(bitsL_mem.1 hmem).2.2
   simpa using this
  ·intro hi
   have h6:i<6:=by
    rcases Nat.lt_or_ge i 6 with h | h
    ·exact h
    ·rw [lt64_bit h64 h] at hi;cases hi
   have hmem:(i:Int) ∈ bitsL b:=bitsL_mem.2 ⟨by omega,by omega,by simpa using hi⟩
   obtain ⟨k1,k2⟩:=findIdx_num hmem
   obtain ⟨_,x,hx,hj⟩:=(setOf_bit B _).1 (hm ((bitsL b).findIdx (· == (i:Int))) (by rw [hmust];simpa using k1))
   refine ⟨h6,reL (bitsL b) x,List.mem_map.2 ⟨x,hx,rfl⟩,List.mem_map.2 ⟨_,hj,?_⟩⟩
   rw [Int.toNat_natCast];exact k2
 ·rintro ⟨L,h1,h2⟩
  have hsub:∀ x ∈ L,∀ i ∈ x.cargos,i ∈ bitsL b:=fun x hx i hi=>by
   have hr:=(poss_cargos hc (h1.poss x hx)).2 i hi
   refine bitsL_mem.2 ⟨hr.1,hr.2,?_⟩
   rw [← h2,setOf_bit]
   exact ⟨by omega,x,hx,by rw [Int.toNat_of_nonneg hr.1];exact hi⟩
  let un:LaunchD→LaunchD:=fun x=>{ x with cargos:=x.cargos.map fun i=>(((bitsL b).findIdx (· == i):Nat):Int) }
  have hun:(L.map un).map (reL (bitsL b))=L:=by
   rw [List.map_map]
   conv=>rhs;rw [← List.map_id L]
   apply List.map_congr_left
   intro x hx
   have e:(x.cargos.map fun i=>(((bitsL b).findIdx (· == i):Nat):Int)).map (fun j=>numI (bitsL b) j.toNat)=x.cargos:=by
    rw [List.map_map]
    conv=>rhs;rw [← List.map_id x.cargos]
    apply List.map_congr_left
    intro i hi
    simp only [Function.comp_apply,Int.toNat_natCast,id_eq]
    exact (findIdx_num (hsub x hx i hi)).2
   show reL (bitsL b) (un x)=x
   unfold reL
   show ({ x with cargos:=(x.cargos.map fun i=>(((bitsL b).findIdx (· == i):Nat):Int)).map (fun j=>numI (bitsL b) j.toNat) }:LaunchD)=x
   rw [e]
  have hIn:∀ z ∈ L.map un,InL (bitsL b) z.cargos:=fun z hz j hj=>by
   obtain ⟨x,hx,rfl⟩:=List.mem_map.1 hz
   obtain ⟨i,hi,rfl⟩:=List.mem_map.1 (show j ∈ x.cargos.map (fun i=>(((bitsL b).findIdx (· == i):Nat):Int)) from hj)
   have:=(findIdx_num (hsub x hx i hi)).1
   omega
  have hp:PlanOk (withB c (bitsL b)) (L.map un):=(plan_re hl hrng hIn).2 (by rw [hun];exact h1)
  obtain ⟨B,hB,_⟩:=best_beats hd hp (by
   unfold compB
   rw [worthB_set hd hp]
   show decide (setOf (L.map un) &&& mustS (withB c (bitsL b))=mustS (withB c (bitsL b)))=true
   rw [decide_eq_true_eq,Nat.and_comm,and_sub]
   intro j hj
   rw [hmust,decide_eq_true_eq] at hj
   rw [setOf_bit]
   refine ⟨by omega,?_⟩
   have hmem:=numI_mem hj
   obtain ⟨a1,a2,a3⟩:=bitsL_mem.1 hmem
   have a4:(setOf L).testBit (numI (bitsL b) j).toNat=true:=by rw [h2];exact a3
   obtain ⟨_,x,hx,hi⟩:=(setOf_bit L _).1 a4
   rw [Int.toNat_of_nonneg a1] at hi
   refine ⟨un x,List.mem_map.2 ⟨x,hx,rfl⟩,List.mem_map.2 ⟨_,hi,?_⟩⟩
   obtain ⟨k1,k2⟩:=findIdx_num hmem
   have:=numI_inj hl (i:=(((bitsL b).findIdx (· == numI (bitsL b) j):Nat):Int)) (j:=(j:Int)) (by omega) (by omega) (by omega) (by omega) (by rw [Int.toNat_natCast,Int.toNat_natCast];exact k2)
   exact this)
  rw [hB];rfl
end Go.Proofs.YtcnjenlojnognaaGreat
/- What is proved: the program's and the document's conflict are one; what a conflict is. Conditions: those that each lemma states. -/
namespace Go.Proofs.YtcnjenlojnognaaGreat
open Go.RowKit

def mustL (c:CampD) (l:List Int):Bool:=l.all fun i=>(c.cargo i).must
def refQ (c:CampD) (b:Nat):Bool:=mustL c (bitsL b) && !(bestB (withB c (bitsL b))).isSome
/-- The document's conflict among the sets 1 .. k. -/
def refF (c:CampD) (k:Nat):Option (List Int):=((List.range k).map (·+1)).foldl (stepC (refQ c)) none
def refConfB (c:CampD):List Int × Int:=if campB c=false then ([],2) else if (bestB c).isSome=true then ([],7) else ((refF c (2 ^ c.cargos.length - 1)).getD [],0)
theorem refF_succ (c:CampD) (k:Nat):refF c (k+1)=stepC (refQ c) (refF c k) (k+1):=by
 unfold refF
 rw [List.range_succ,List.map_append,List.foldl_append];rfl
theorem bits_lt (c:CampD) (p:Nat):(∀ i,p.testBit i=true→i<c.cargos.length) ↔ p<2 ^ c.cargos.length:=by
 constructor
 ·intro h
  refine Nat.lt_pow_two_of_testBit _ fun i hi=>?_
  cases e:p.testBit i with
  | false=>rfl
  | true=>have:=h i e;omega
 ·intro h i hi
  rcases Nat.lt_or_ge i c.cargos.length with h6 | h6
  ·exact h6
  ·rw [Nat.testBit_lt_two_pow (Nat.lt_of_lt_of_le h (Nat.pow_le_pow_right (by decide) h6))] at hi;cases hi
theorem must_iff {c:CampD} (hc:campB c=true) {p:Nat} (h0:p ≠ 0):p ∈ partsS (mustS c) ↔ p<2 ^ c.cargos.length∧mustL c (bitsL p)=true:=by
 have hn:=camp_len hc
 have h26:2 ^ c.cargos.length≤2 ^ 6:=Nat.pow_le_pow_right (by decide) hn.2.2.2.2.2.1
 rw [partsS_mem]
 have key:∀ i,(mustS c).testBit i=true ↔ i<c.cargos.length∧(c.cargo (i:Int)).must=true:=fun i=>by rw [mustS_bit,Bool.and_eq_true,decide_eq_true_eq]
 constructor
 ·rintro ⟨h1,_,h3⟩
  refine ⟨(bits_lt c p).1 fun i hi=>((key i).1 (h3 i hi)).1,?_⟩
  unfold mustL
  rw [List.all_eq_true]
  intro i hi
  obtain ⟨a1,a2,a3⟩:=bitsL_mem.1 hi
  have:=((key _).1 (h3 _ a3)).2
  rw [Int.toNat_of_nonneg a1] at this;exact this
 ·rintro ⟨h1,h2⟩
  have h64:p<64:=Nat.lt_of_lt_of_le h1 h26
  refine ⟨h64,h0,fun i hi=>(key i).2 ?_⟩
  have hl:=(bits_lt c p).2 h1 i hi
  refine ⟨hl,?_⟩
  unfold mustL at h2
  exact List.all_eq_true.1 h2 (i:Int) (bitsL_mem.2 ⟨by omega,by omega,by simpa using hi⟩)
theorem confF_least (c:CampD) (ps:List Nat):LeastC (fun p=>p ∈ ps∧(!canB c p)=true) (confF c ps):=stepC_none (fun p=>!canB c p) ps
theorem conf_eq (c:CampD):refConfB c=confB c:=by
 unfold refConfB confB
 cases hc:campB c with
 | false=>rfl
 | true =>
  rw [if_neg (by decide:¬ true=false),if_neg (by decide:¬ true=false)]
  have hbn:=best_none hc
  cases hm:canB c (mustS c) with
  | true =>
   rw [if_pos rfl]
   cases hb:bestB c with
   | none=>rw [hbn.1 hb] at hm;cases hm
   | some B=>rfl
  | false =>
   rw [hbn.2 hm,if_neg (by simp),if_neg (by decide)]
   have e:refF c (2 ^ c.cargos.length - 1)=confF c (downL (mustS c)):=by
    refine LeastC.unique (stepC_none (refQ c) _) ((confF_least c _).congr fun p=>?_)
    unfold downL
    rw [List.mem_reverse,List.mem_map]
    constructor
    ·rintro ⟨h1,h2⟩
     have h0:p ≠ 0:=(partsS_mem.1 h1).2.1
     obtain ⟨h3,h4⟩:=(must_iff hc h0).1 h1
     refine ⟨⟨p - 1,List.mem_range.2 (by omega),by omega⟩,?_⟩
     unfold refQ
     rw [h4,Bool.true_and,with_can hc h0 h3];exact h2
    ·rintro ⟨⟨q,hq,rfl⟩,h2⟩
     have h3:q+1<2 ^ c.cargos.length:=by have:=List.mem_range.1 hq;omega
     unfold refQ at h2
     rw [Bool.and_eq_true,with_can hc (by omega) h3] at h2
     exact ⟨(must_iff hc (by omega)).2 ⟨h3,h2.1⟩,h2.2⟩
   rw [e]
/-! Which cargos must be launched: a campaign with other ones. -/
def mustC (c:CampD) (f:Nat→Bool):CampD:={ c with cargos:=(List.range c.cargos.length).map fun (k:Nat)=>{ c.cargo (k:Int) with must:=f k } }
theorem mustC_len (c:CampD) (f:Nat→Bool):(mustC c f).cargos.length=c.cargos.length:=by unfold mustC;simp
theorem mustC_cargo (c:CampD) (f:Nat→Bool) (i:Int):(mustC c f).cargo i={ c.cargo i with must:=if i.toNat<c.cargos.length then f i.toNat else (c.cargo i).must }:=by
 show ((List.range c.cargos.length).map fun (k:Nat)=>({ c.cargo (k:Int) with must:=f k }:CargoD)).getD i.toNat cargo0=_
 rw [List.getD_eq_getElem?_getD,List.getElem?_map]
 by_cases h:i.toNat<c.cargos.length
 ·rw [List.getElem?_range h,if_pos h]
  have e:c.cargo ((i.toNat:Nat):Int)=c.cargo i:=by unfold CampD.cargo;rw [Int.toNat_natCast]
  simp only [Option.map_some,Option.getD_some,e]
 ·have e:c.cargo i=cargo0:=by unfold CampD.cargo;rw [List.getD_eq_getElem?_getD,List.getElem?_eq_none (by omega)];rfl
  rw [List.getElem?_eq_none (by simpa using h),if_neg h,e];rfl
theorem mustC_mass (c:CampD) (f:Nat→Bool) (l:List Int):massL (mustC c f) l=massL c l:=by
 unfold massL
 congr 1
 funext n i
 rw [mustC_cargo]
theorem mustC_poss (c:CampD) (f:Nat→Bool) (x:LaunchD):possB (mustC c f) x=possB c x:=by
 unfold possB
 rw [mustC_len,mustC_mass]
 simp only [mustC_cargo]
 rfl
theorem mustC_plan (c:CampD) (f:Nat→Bool) {L:List LaunchD}:PlanOk (mustC c f) L ↔ PlanOk c L :=
  ⟨fun h=>⟨fun x hx=>by rw [← mustC_poss c f];exact h.poss x hx,h.fit.imp fun g=>⟨g.apart,g.craft,g.pad⟩,h.sorted⟩,
   fun h=>⟨fun x hx=>by rw [mustC_poss c f];exact h.poss x hx,h.fit.imp fun g=>⟨g.apart,g.craft,g.pad⟩,h.sorted⟩⟩
theorem mustC_camp {c:CampD} (hc:campB c=true) (f:Nat→Bool):campB (mustC c f)=true:=by
 unfold campB at hc ⊢
 rw [mustC_len]
 have hn:(mustC c f).cargos.map (·.name)=c.cargos.map (·.name):=by
  unfold mustC
  refine List.ext_getElem (by simp) fun k h1 h2=>?_
  have hk:k<c.cargos.length:=by simpa using h2
  simp only [List.getElem_map,List.getElem_range]
  unfold CampD.cargo
  rw [List.getD_eq_getElem?_getD,Int.toNat_natCast,List.getElem?_eq_getElem hk];rfl
 have ha:(mustC c f).cargos.all cargoB=c.cargos.all cargoB:=by
  rw [Bool.eq_iff_iff,List.all_eq_true,List.all_eq_true]
  unfold mustC
  dsimp only
  constructor
  ·intro h x hx
   obtain ⟨k,hk,rfl⟩:=List.mem_iff_getElem.1 hx
   have:=h _ (List.mem_map.2 ⟨k,List.mem_range.2 hk,rfl⟩)
   unfold CampD.cargo at this
   rw [List.getD_eq_getElem?_getD,Int.toNat_natCast,List.getElem?_eq_getElem hk] at this
   exact this
  ·intro h x hx
   obtain ⟨k,hk,rfl⟩:=List.mem_map.1 hx
   have hk':=List.mem_range.1 hk
   have:=h _ (List.getElem_mem hk')
   unfold CampD.cargo
   rw [List.getD_eq_getElem?_getD,Int.toNat_natCast,List.getElem?_eq_getElem hk']
   exact this
 rw [hn,ha]
 exact hc
theorem mustC_can {c:CampD} (hc:campB c=true) (f:Nat→Bool) {s:Nat} (hs:s<64):canB (mustC c f) s=canB c s:=by
 rw [Bool.eq_iff_iff,canB_iff hc hs,canB_iff (mustC_camp hc f) hs]
 exact ⟨fun ⟨L,h1,h2⟩=>⟨L,(mustC_plan c f).1 h1,h2⟩,fun ⟨L,h1,h2⟩=>⟨L,(mustC_plan c f).2 h1,h2⟩⟩
theorem can_zero {c:CampD} (hc:campB c=true):canB c 0=true :=
 (canB_iff hc (by decide)).2 ⟨[],PlanOk.nil c,nat_bits_eq fun i=>by rw [Bool.eq_iff_iff,setOf_bit];simp⟩
/-- A conflict: its cargos must be launched, cannot all be, and without any one of them can. -/
theorem conf_spec {c:CampD} (hc:campB c=true) (hm:canB c (mustS c)=false):∃ p,(confF c (downL (mustS c))).getD []=bitsL p∧p<2 ^ c.cargos.length∧(∀ i ∈ bitsL p,(c.cargo i).must=true)∧canB c p=false∧∀ q,q<64→(∀ i,q.testBit i=true→p.testBit i=true)→q ≠ p→canB c q=true:=by
 have h:=confF_least c (downL (mustS c))
 have hm0:mustS c ≠ 0:=fun e=>by rw [e,can_zero hc] at hm;cases hm
 have hin:mustS c ∈ downL (mustS c):=by
  unfold downL;rw [List.mem_reverse,partsS_mem]
  exact ⟨mustS_lt hc,hm0,fun _ h=>h⟩
 cases e:confF c (downL (mustS c)) with
 | none=>exact absurd ⟨hin,by rw [hm];rfl⟩ (h.1 e (mustS c))
 | some o =>
  obtain ⟨⟨p,⟨hp,hpc⟩,ho⟩,h2⟩:=h.2 o e
  unfold downL at hp
  rw [List.mem_reverse] at hp
  obtain ⟨a1,a2,a3⟩:=partsS_mem.1 hp
  obtain ⟨b1,b2⟩:=(must_iff hc a2).1 hp
  refine ⟨p,ho,b1,fun i hi=>List.all_eq_true.1 b2 i hi,by simpa using hpc,fun q hq hsub hne=>?_⟩
  cases hqc:canB c q with
  | true=>rfl
  | false =>
   have hq0:q ≠ 0:=fun e=>by rw [e,can_zero hc] at hqc;cases hqc
   have hqm:q ∈ downL (mustS c):=by
    unfold downL;rw [List.mem_reverse,partsS_mem]
    exact ⟨hq,hq0,fun i hi=>a3 i (hsub i hi)⟩
   refine absurd ?_ (h2 q ⟨hqm,by rw [hqc];rfl⟩)
   refine Or.inl ?_
   rw [ho]
   -- fewer cargos
   have hle:(bitsL q).length≤(bitsL p).length:=bitsL_sub_len fun i _ hi=>hsub i hi
   refine Nat.lt_of_le_of_ne hle fun e2=>hne ?_
   have hs:(bitsL q).Sublist (bitsL p):=by
    unfold bitsL
    refine List.Sublist.map _ ?_
    have e4:(List.range 6).filter (fun i=>q.testBit i)=((List.range 6).filter fun i=>p.testBit i).filter fun i=>q.testBit i:=by
     rw [List.filter_filter]
     refine List.filter_congr fun i _=>?_
     cases hqi:q.testBit i with
     | false=>rfl
     | true=>rw [hsub i hqi];rfl
    rw [e4];exact List.filter_sublist
   have e3:=hs.eq_of_length e2
   rw [← maskL_bits hq,← maskL_bits a1,e3]
/-- Without any one of a conflict's cargos there is a best plan. -/
theorem conf_without {c:CampD} (hc:campB c=true) {p:Nat} (hpl:p<2 ^ c.cargos.length) (hq:∀ q,q<64→(∀ i,q.testBit i=true→p.testBit i=true)→q ≠ p→canB c q=true) {x:Int} (hx:x ∈ bitsL p) :
  (bestB (mustC c fun k=>p.testBit k && !decide ((k:Int)=x))).isSome=true:=by
 have hn:=camp_len hc
 have h26:2 ^ c.cargos.length≤2 ^ 6:=Nat.pow_le_pow_right (by decide) hn.2.2.2.2.2.1
 obtain ⟨x1,x2,x3⟩:=bitsL_mem.1 hx
 have hd:=mustC_camp hc fun k=>p.testBit k && !decide ((k:Int)=x)
 have hs:=mustS_lt hd
 have hbit:∀ j,(mustS (mustC c fun k=>p.testBit k && !decide ((k:Int)=x))).testBit j=(p.testBit j && !decide ((j:Int)=x)):=fun j=>by
  rw [mustS_bit,mustC_len,mustC_cargo]
  dsimp only
  rw [Int.toNat_natCast]
  by_cases hj:j<c.cargos.length
  ·rw [if_pos hj,decide_eq_true hj,Bool.true_and]
  ·rw [decide_eq_false hj,Bool.false_and,Nat.testBit_lt_two_pow (Nat.lt_of_lt_of_le hpl (Nat.pow_le_pow_right (by decide) (by omega))),Bool.false_and]
 have hcan:canB c (mustS (mustC c fun k=>p.testBit k && !decide ((k:Int)=x)))=true:=by
  refine hq _ hs (fun i hi=>?_) fun e=>?_
  ·rw [hbit,Bool.and_eq_true] at hi;exact hi.1
  ·have:=hbit x.toNat
   rw [e,x3,Int.toNat_of_nonneg x1] at this
   simp at this
 cases e:bestB (mustC c fun k=>p.testBit k && !decide ((k:Int)=x)) with
 | some B=>rfl
 | none =>
  have:=(best_none hd).1 e
  rw [mustC_can hc _ hs,hcan] at this;cases this
/-! How often a plan launches cargos. -/
def cntC (l:List Int) (o:Int):Nat:=(l.filter fun i=>decide (i=o)).length
def cntL (l:List LaunchD) (o:Int):Nat:=(l.map fun x=>cntC x.cargos o).sum
def cntO (l:List LaunchD) (out:List Int):Nat:=(out.map (cntL l)).sum
theorem cntC_rise:∀ {l:List Int},l.Pairwise (·<·)→∀ (o:Int),cntC l o=if o ∈ l then 1 else 0
 | [],_,o=>rfl
 | a :: l,h,o=>by
  obtain ⟨h1,h2⟩:=List.pairwise_cons.1 h
  have ih:=cntC_rise h2 o
  unfold cntC at ih ⊢
  rw [List.filter_cons]
  by_cases e:a=o
  ·subst e
   rw [if_pos (by simp),List.length_cons,ih,if_neg (fun hh=>by have:=h1 a hh;omega),if_pos (by simp)]
  ·rw [if_neg (by simpa using e),ih]
   by_cases hm:o ∈ l
   ·rw [if_pos hm,if_pos (List.mem_cons_of_mem _ hm)]
   ·rw [if_neg hm,if_neg (fun hh=>by rcases List.mem_cons.1 hh with h3 | h3;exact e h3.symm;exact hm h3)]
theorem cntL_plan {c:CampD} (hc:campB c=true):∀ {l:List LaunchD},PlanOk c l→∀ (o:Int),cntL l o=if ∃ x ∈ l,o ∈ x.cargos then 1 else 0
 | [],_,o=>by simp [cntL]
 | x :: l,h,o=>by
  have h2:PlanOk c l:=⟨fun y hy=>h.poss y (List.mem_cons_of_mem _ hy),(List.pairwise_cons.1 h.fit).2,(List.pairwise_cons.1 h.sorted).2⟩
  have ih:=cntL_plan hc h2 o
  have hr:=(poss_cargos hc (h.poss x (by simp))).1
  unfold cntL at ih ⊢
  rw [List.map_cons,List.sum_cons,ih,cntC_rise hr]
  by_cases hx:o ∈ x.cargos
  ·rw [if_pos hx,if_neg,if_pos ⟨x,by simp,hx⟩]
   rintro ⟨y,hy,hoy⟩
   exact ((List.pairwise_cons.1 h.fit).1 y hy).apart o hoy hx
  ·rw [if_neg hx]
   by_cases hl:∃ y ∈ l,o ∈ y.cargos
   ·obtain ⟨y,hy,ho⟩:=hl
    rw [if_pos ⟨y,hy,ho⟩,if_pos ⟨y,List.mem_cons_of_mem _ hy,ho⟩]
   ·rw [if_neg hl,if_neg]
    rintro ⟨y,hy,ho⟩
    rcases List.mem_cons.1 hy with e | e
    ·subst e;exact hx ho
    ·exact hl ⟨y,e,ho⟩
theorem cntO_all {c:CampD} (hc:campB c=true) {l:List LaunchD} (h:PlanOk c l):∀ (out:List Int),cntO l out≤out.length∧(cntO l out=out.length→∀ o ∈ out,∃ x ∈ l,o ∈ x.cargos)
 | []=>⟨Nat.le_refl _,fun _ o ho=>(List.not_mem_nil ho).elim⟩
 | a :: out=>by
  obtain ⟨h1,h2⟩:=cntO_all hc h out
  have ha:=cntL_plan hc h a
  have e:cntO l (a :: out)=cntL l a+cntO l out:=rfl
  have hle:cntL l a≤1:=by rw [ha];split <;> omega
  rw [e,List.length_cons]
  refine ⟨by omega,fun h3 o ho=>?_⟩
  rcases List.mem_cons.1 ho with e2 | e2
  ·subst e2
   by_cases hx:∃ x ∈ l,o ∈ x.cargos
   ·exact hx
   ·rw [if_neg hx] at ha;omega
  ·exact h2 (by omega) o e2
/-- No valid plan launches all cargos of a conflict. -/
theorem conf_count {c:CampD} (hc:campB c=true) {p:Nat} (hp:p<64) (hcan:canB c p=false) {l:List LaunchD} (h:PlanOk c l):cntO l (bitsL p) ≠ (bitsL p).length:=fun e=>by
 have h2:=(cntO_all hc h (bitsL p)).2 e
 have:canB c p=true:=(canB_iff hc hp).2 (plan_less hc h fun i hi=>by
  have h6:i<6:=by
   rcases Nat.lt_or_ge i 6 with h | h
   ·exact h
   ·rw [lt64_bit hp h] at hi;cases hi
  rw [setOf_bit]
  exact ⟨h6,h2 (i:Int) (bitsL_mem.2 ⟨by omega,by omega,by simpa using hi⟩)⟩)
 rw [this] at hcan;cases hcan
end Go.Proofs.YtcnjenlojnognaaGreat
