/- What is proved: the texts Li, one behind the other; each says at its head what it proves, and under which conditions. -/
import Derived.Test.YtcnjenlojnognaaGreatg36
/- What is proved: the walk of CampaignLeast: true for every input. Conditions: the arguments lie in memory. -/
namespace Go.Proofs.YtcnjenlojnognaaGreat
open Go.RowKit

/-- The box of a campaign of the law's own (gq), and its cargos' (g), whose Musts are f's. -/
def LsR (wo:World) (gq g:Nat) (V:CV) (c:CampD) (c5:Nat) (f:Nat→Bool) (w':World):Prop :=
 Below gq wo w'∧Bk w' gq 26 #[.slice V.cA c.crafts.length V.cc,.slice V.pA c.pads.length V.pc,.slice (some ⟨g,0,none⟩) c.cargos.length c5,.int .i64 c.margin] ∧
 ∃ cur,Bk w' g 54 cur∧∀ i,i<c.cargos.length→∀ j,j<6→cur[i * 6+j]?=some (cargoC { c.cargoN i with must:=f i } j)
section
variable {wo w':World} {gq g c5:Nat} {V:CV} {c:CampD} {f f':Nat→Bool}
theorem LsR.cell (h:LsR wo gq g V c c5 f w') {k:Nat} (hk:k<c.cargos.length):w'.cell? ⟨g,k * 6+5,none⟩=some (.bool (f k))∧w'.frozen? ⟨g,k * 6+5,none⟩=false:=by
 obtain ⟨_,_,cur,hb,hc⟩:=h
 exact ⟨by rw [hb.cell,hc k hk 5 (by omega)];rfl,hb.free _⟩
theorem LsR.box (h:LsR wo gq g V c c5 f w'):w'.cell? ⟨gq,2,none⟩=some (.slice (some ⟨g,0,none⟩) c.cargos.length c5):=h.2.1.cell 2
theorem LsR.set (h:LsR wo gq g V c c5 f w') (hg:gq<g) {k:Nat} (hk:k<c.cargos.length) (b:Bool):LsR wo gq g V c c5 (fun i=>if i=k then b else f i) (w'.setCell ⟨g,k * 6+5,none⟩ (.bool b)):=by
 obtain ⟨h1,h2,cur,hb,hc⟩:=h
 refine ⟨h1.setCell (p:=⟨g,k * 6+5,none⟩) (by show gq≤g;omega) _,h2.far (p:=⟨g,k * 6+5,none⟩) (by show gq ≠ g;omega) _,_,hb.set _ _,fun i hi j hj=>?_⟩
 have h0:=hc i hi j hj
 have hsz:k * 6+5<cur.size:=(Array.getElem?_eq_some_iff.1 (hc k hk 5 (by omega))).1
 rw [Array.getElem?_setIfInBounds]
 dsimp only
 by_cases e:k * 6+5=i * 6+j
 ·have e1:i=k:=by omega
  have e2:j=5:=by omega
  subst e1 e2
  rw [if_pos e,if_pos hsz,if_pos rfl];rfl
 ·rw [if_neg e,h0]
  by_cases e1:i=k
  ·subst e1
   rw [if_pos rfl]
   match j,hj with
   | 0,_=>rfl
   | 1,_=>rfl
   | 2,_=>rfl
   | 3,_=>rfl
   | 4,_=>rfl
   | 5,_=>exact absurd rfl e
  ·rw [if_neg e1]
theorem LsR.drew (h:LsR wo gq g V c c5 f w'):LsR wo gq g V c c5 f w'.drew:=by
 obtain ⟨h1,h2,cur,hb,hc⟩:=h
 exact ⟨h1.drew,h2,cur,hb,hc⟩
theorem LsR.congr (h:LsR wo gq g V c c5 f w') (e:∀ i,i<c.cargos.length→f i=f' i):LsR wo gq g V c c5 f' w':=by
 obtain ⟨h1,h2,cur,hb,hc⟩:=h
 exact ⟨h1,h2,cur,hb,fun i hi j hj=>by rw [← e i hi];exact hc i hi j hj⟩
theorem mustC_cargoN {i:Nat} (hi:i<c.cargos.length):(mustC c f).cargoN i={ c.cargoN i with must:=f i }:=by
 have h:=mustC_cargo c f (i:Int)
 rw [cargo_nat,cargo_nat,Int.toNat_natCast,if_pos hi] at h;exact h
theorem LsR.camp (h:LsR wo gq g V c c5 f w') (hq:gq=wo.heap.size) (hc:CampAt wo wo.heap.size V c):CampAt w' w'.heap.size { V with gA:=some ⟨g,0,none⟩,gc:=c5 } (mustC c f):=by
 obtain ⟨h1,h2,cur,hb,hr⟩:=h
 have hc':=hc.later (by rw [← hq];exact h1)
 refine ⟨hc'.crafts,hc'.pads,?_,hc'.takes⟩
 rw [mustC_len]
 refine ⟨hc.cargos.1,fun _=>⟨g,0,rfl,hb.lt,fun i hi j hj=>?_⟩⟩
 rw [Nat.zero_add,hb.cell,hr i hi j hj]
 show _=some (cargoC ((mustC c f).cargoN i) j)
 rw [mustC_cargoN hi]
end
/-- The Musts behind k of a conflict's cargos, but that with number ii. -/
def lsF (lo:List Int) (ii:Nat):Nat→Nat→Bool
 | 0,_=>false
 | k+1,i=>if i=(numI lo k).toNat then decide (k ≠ ii) else lsF lo ii k i
theorem lsF_iff {lo:List Int} (hl:lo.Pairwise (·<·)) (h0:∀ x ∈ lo,0≤x) (ii i:Nat):∀ k,k≤lo.length→(lsF lo ii k i=true ↔ ∃ j,j<k∧numI lo j=(i:Int)∧j ≠ ii)
 | 0,_=>⟨fun h=>(by cases h),fun ⟨j,h,_⟩=>absurd h (Nat.not_lt_zero j)⟩
 | k+1,hk=>by
  have ih:=lsF_iff hl h0 ii i k (by omega)
  have hk0:=h0 _ (numI_mem (show k<lo.length by omega))
  unfold lsF
  by_cases e:i=(numI lo k).toNat
  ·rw [if_pos e,decide_eq_true_eq]
   constructor
   ·intro h;exact ⟨k,by omega,by omega,h⟩
   ·rintro ⟨j,hj,h1,h2⟩
    have:j=k:=by
     rcases Nat.lt_trichotomy j k with h3 | h3 | h3
     ·have:=numI_mono hl h3 (by omega);omega
     ·exact h3
     ·omega
    rw [← this];exact h2
  ·rw [if_neg e,ih]
   constructor
   ·rintro ⟨j,h1,h2,h3⟩;exact ⟨j,by omega,h2,h3⟩
   ·rintro ⟨j,h1,h2,h3⟩
    refine ⟨j,?_,h2,h3⟩
    rcases Nat.lt_or_ge j k with h4 | h4
    ·exact h4
    ·have:j=k:=by omega
     subst this;omega
theorem lsF_all {p:Nat} (hp:p<64) {ii:Nat} (hi:ii<(bitsL p).length) (i:Nat):lsF (bitsL p) ii (bitsL p).length i=(p.testBit i && !decide ((i:Int)=numI (bitsL p) ii)):=by
 have hl:=bitsL_rise p
 rw [Bool.eq_iff_iff,lsF_iff hl (fun x hx=>(bitsL_mem.1 hx).1) ii i _ (Nat.le_refl _)]
 have hm:p.testBit i=true ↔ (i:Int) ∈ bitsL p:=by
  rw [bitsL_mem]
  constructor
  ·intro h
   have h6:i<6:=by
    rcases Nat.lt_or_ge i 6 with h1 | h1
    ·exact h1
    ·rw [lt64_bit hp h1] at h;cases h
   exact ⟨by omega,by omega,by simpa using h⟩
  ·rintro ⟨_,_,h⟩;simpa using h
 rw [Bool.and_eq_true,hm,Bool.not_eq_true',decide_eq_false_iff_not]
 constructor
 ·rintro ⟨j,h1,h2,h3⟩
  refine ⟨by rw [← h2];exact numI_mem h1,fun h4=>h3 ?_⟩
  have:=numI_inj hl (i:=(j:Int)) (j:=(ii:Int)) (by omega) (by omega) (by omega) (by omega) (by rw [Int.toNat_natCast,Int.toNat_natCast];omega)
  omega
 ·rintro ⟨h1,h2⟩
  obtain ⟨k1,k2⟩:=findIdx_num h1
  exact ⟨_,k1,k2,fun e=>h2 (by rw [← e,k2])⟩
/-! Counting, step by step. -/
def cntP (l:List LaunchD) (lo:List Int) (i:Nat):Nat:=cntO l (lo.take i)
def cntQ (l:List LaunchD) (lo:List Int) (i k:Nat):Nat:=cntP l lo i+cntL (l.take k) (numI lo i)
def cntR (l:List LaunchD) (lo:List Int) (i k m:Nat):Nat:=cntQ l lo i k+cntC ((l.getD k launch0).cargos.take m) (numI lo i)
theorem cntR_step {l:List LaunchD} {lo:List Int} {i k m:Nat} (h:m<(l.getD k launch0).cargos.length):cntR l lo i k (m+1)=cntR l lo i k m+if numI (l.getD k launch0).cargos m=numI lo i then 1 else 0:=by
 unfold cntR cntC
 generalize l.getD k launch0=X at *
 have e:X.cargos.take (m+1)=X.cargos.take m ++ [numI X.cargos m]:=by
  rw [List.take_succ_eq_append_getElem h];unfold numI;rw [List.getD_eq_getElem?_getD,List.getElem?_eq_getElem h];rfl
 rw [e,List.filter_append,List.length_append]
 by_cases e2:numI X.cargos m=numI lo i
 ·rw [if_pos e2];simp [e2,Nat.add_assoc]
 ·rw [if_neg e2];simp [e2]
theorem cntR_zero (l:List LaunchD) (lo:List Int) (i k:Nat):cntR l lo i k 0=cntQ l lo i k:=by unfold cntR cntC;simp
theorem cntR_all {l:List LaunchD} {lo:List Int} {i k:Nat} (h:k<l.length):cntR l lo i k (l.getD k launch0).cargos.length=cntQ l lo i (k+1):=by
 unfold cntR cntQ cntL
 rw [List.take_length,take_snocL l k h,List.map_append,List.sum_append]
 simp [Nat.add_assoc]
theorem cntQ_zero (l:List LaunchD) (lo:List Int) (i:Nat):cntQ l lo i 0=cntP l lo i:=by unfold cntQ cntL;simp
theorem cntQ_all {l:List LaunchD} {lo:List Int} {i:Nat} (h:i<lo.length):cntQ l lo i l.length=cntP l lo (i+1):=by
 unfold cntQ cntP cntO
 have e:lo.take (i+1)=lo.take i ++ [numI lo i]:=by
  rw [List.take_succ_eq_append_getElem h];unfold numI;rw [List.getD_eq_getElem?_getD,List.getElem?_eq_getElem h];rfl
 rw [e,List.map_append,List.sum_append,List.take_length];simp
theorem cntC_le (l:List Int) (o:Int):cntC l o≤l.length:=List.length_filter_le _ _
theorem cntL_le:∀ {l:List LaunchD} (o:Int),(∀ x ∈ l,x.cargos.length≤6)→cntL l o≤l.length * 6
 | [],_,_=>Nat.zero_le _
 | x :: l,o,h=>by
  have h1:=cntL_le (l:=l) o fun y hy=>h y (List.mem_cons_of_mem _ hy)
  have h2:=cntC_le x.cargos o
  have h3:=h x (by simp)
  show cntC x.cargos o+cntL l o≤_
  rw [List.length_cons];omega
theorem cntO_le {l:List LaunchD} (h:∀ x ∈ l,x.cargos.length≤6):∀ (out:List Int),cntO l out≤out.length * (l.length * 6)
 | []=>Nat.zero_le _
 | a :: out=>by
  have h1:=cntO_le h out
  have h2:=cntL_le a h
  show cntL l a+cntO l out≤_
  rw [List.length_cons,Nat.add_mul,Nat.one_mul];omega
theorem cntR_bd {l:List LaunchD} {lo:List Int} (h:∀ x ∈ l,x.cargos.length≤6) (hl:l.length≤20) (ho:lo.length≤6) (i k m:Nat):cntR l lo i k m≤1000:=by
 unfold cntR cntQ cntP
 have h1:=cntO_le h (lo.take i)
 have h2:=cntL_le (l:=l.take k) (numI lo i) fun x hx=>h x (List.mem_of_mem_take hx)
 have h3:=cntC_le ((l.getD k launch0).cargos.take m) (numI lo i)
 rw [List.length_take] at h1 h2 h3
 have h4:(l.getD k launch0).cargos.length≤6:=by
  rw [List.getD_eq_getElem?_getD]
  cases e:l[k]? with
  | none=>exact Nat.zero_le _
  | some z=>exact h z (List.mem_of_getElem? e)
 have h5:min i lo.length * (l.length * 6)≤6 * 120:=Nat.mul_le_mul (by omega) (by omega)
 omega
/-- What is so in CampaignLeast. -/
theorem least_law (c:CampD):((confB c).2=2∧(bstB c).2=2∧(confB c).1=[]) ∨ ((confB c).2=7∧(bstB c).2=0∧(confB c).1=[]) ∨
  ((confB c).2=0∧(bstB c).2=7∧campB c=true∧∃ p,(confB c).1=bitsL p∧p<2 ^ c.cargos.length∧(∀ i ∈ bitsL p,(c.cargo i).must=true)∧canB c p=false∧∀ q,q<64→(∀ i,q.testBit i=true→p.testBit i=true)→q ≠ p→canB c q=true):=by
 unfold confB bstB
 cases hc:campB c with
 | false=>exact Or.inl ⟨rfl,rfl,rfl⟩
 | true =>
  rw [if_neg (by decide:¬ true=false),if_neg (by decide:¬ true=false)]
  have hbn:=best_none hc
  cases hm:canB c (mustS c) with
  | true =>
   rw [if_pos rfl]
   cases hb:bestB c with
   | none=>rw [hbn.1 hb] at hm;cases hm
   | some B=>exact Or.inr (Or.inl ⟨rfl,rfl,rfl⟩)
  | false =>
   rw [if_neg (by decide:¬ false=true),hbn.2 hm]
   exact Or.inr (Or.inr ⟨rfl,rfl,rfl,conf_spec hc hm⟩)
set_option maxRecDepth 100000 in
set_option maxHeartbeats 32000000 in
theorem leastLaw_any (w:World) (V:CV) (c:CampD) (h:CampAt w w.heap.size V c) (l:List LaunchD) (AL:Option Addr) (cL:Nat) (hp:PlanAt w w.heap.size AL l) (hcap:l.length≤cL)  :
  Calls Tryz.prog 9 #[.agg (campA V c),.slice AL l.length cL] w fun e w'=>e=.returned (.bool true)∧Below w.heap.size w w':=by
 obtain ⟨qb,hqb⟩:∃ qb,w.heap.size=qb:=⟨_,rfl⟩
 obtain ⟨W0,hW0⟩:∃ W0,w.alloc (.cells (campA V c) 26)=W0:=⟨_,rfl⟩
 have hb0:Below w.heap.size w W0:=by rw [← hW0];exact (Below.refl _ w).alloc (Nat.le_refl _) _
 have HKC:Hid (Bk W0 qb 26 (campA V c)):=Lib.hid (by rw [← hW0,← hqb];exact Bk.new _ _ _)
 obtain ⟨PQ,hPQ⟩:∃ Q,(fun (e:Ending) (w':World)=>e=.returned (.bool true)∧Below w.heap.size w w')=Q:=⟨_,rfl⟩
 have HFIN:Hid (∀ w',Below W0.heap.size W0 w'→PQ (.returned (.bool true)) w'):=Lib.hid fun w' h2=>by
  rw [← hPQ];exact ⟨rfl,hb0.trans (h2.mono hb0.size)⟩
 have HCA:=Lib.hid (h.later hb0)
 have HCW:Hid (∀ w1,Below W0.heap.size W0 w1→CampAt w1 w1.heap.size V c):=Lib.hid fun w1 hb=>HCA.out.later hb
 have HPA:=Lib.hid (hp.later hb0)
 have HPW:Hid (∀ w1,Below W0.heap.size W0 w1→PlanAt w1 w1.heap.size AL l):=Lib.hid fun w1 hb=>HPA.out.later hb
 have HCAP:=Lib.hid hcap
 have hll:=hp.len
 obtain ⟨nl,hnl⟩:∃ nl,l.length=nl:=⟨_,rfl⟩
 have HNL:=Lib.hid hnl
 have HGR:Hid (∀ w1,Below W0.heap.size W0 w1→Calls Tryz.prog 13 #[.agg (campA V c)] w1 fun e w'=>∃ b,e=.returned (.bool b)∧Below W0.heap.size W0 w'):=Lib.hid fun w1 hb =>
  (great_any w1 V c (HCW.out w1 hb)).mono fun e w' ⟨b,he,h2⟩=>⟨b,he,hb.trans (h2.mono hb.size)⟩
 have HLG:Hid (∀ w1,Below W0.heap.size W0 w1→Calls Tryz.prog 14 #[.slice AL nl cL] w1 fun e w'=>∃ b,e=.returned (.bool b)∧Below W0.heap.size W0 w'∧(b=false→nl≤20)):=Lib.hid fun w1 hb=>by
  rw [← HNL.out]
  exact (long_any w1 AL cL l (HPW.out w1 hb)).mono fun e w' ⟨b,he,h2,h3⟩=>⟨b,he,hb.trans (h2.mono hb.size),h3⟩
 have HAW:Hid (∀ w1,Below W0.heap.size W0 w1→Calls Tryz.prog 15 #[] w1 fun e w'=>e=.returned (.bool true)∧Below W0.heap.size W0 w'):=Lib.hid fun w1 hb =>
  (awake_any w1).mono fun e w' ⟨he,h2⟩=>⟨he,hb.trans (h2.mono hb.size)⟩
 have HAR:Hid (∀ w1,Below W0.heap.size W0 w1→Calls Tryz.prog 15 #[] w1 fun e w'=>e=.returned (.bool true)∧Below w1.heap.size w1 w'):=Lib.hid fun w1 hb=>awake_any w1
 have HLC:Hid (∀ w1,Below W0.heap.size W0 w1→∀ j u,(campA V c)[j]?=some u→w1.cell? ⟨qb,0+j,none⟩=some u):=Lib.hid fun w1 hb j u hj=>by rw [Nat.zero_add,(HKC.out.below hb HKC.out.lt).cell];exact hj
 obtain ⟨ng,hng⟩:∃ ng,c.cargos.length=ng:=⟨_,rfl⟩
 have HNG:=Lib.hid hng
 have HG2:Hid (∀ w1,Below W0.heap.size W0 w1→w1.cell? ⟨qb,2,none⟩=some (.slice V.gA ng V.gc)):=Lib.hid fun w1 hb=>by rw [← HNG.out];exact HLC.out w1 hb 2 _ rfl
 clear hng
 obtain ⟨lo,hlo⟩:∃ r,(confB c).1=r:=⟨_,rfl⟩
 obtain ⟨fo,hfo⟩:∃ r,(confB c).2=r:=⟨_,rfl⟩
 obtain ⟨no,hno⟩:∃ r,lo.length=r:=⟨_,rfl⟩
 obtain ⟨fb,hfb⟩:∃ r,(bstB c).2=r:=⟨_,rfl⟩
 have HNO:=Lib.hid hno
 have hlaw:=least_law c
 rw [hlo,hfo,hfb] at hlaw
 have HLAW:=Lib.hid hlaw
 have HCF:Hid (∀ w1,Below W0.heap.size W0 w1→Calls Tryz.prog 29 #[.agg (campA V c)] w1 fun e w'=>∃ A c',e=.returned (.tuple #[.slice A no c',.int .i64 fo])∧IntsAt w' w'.heap.size A lo∧Below w1.heap.size w1 w'):=Lib.hid fun w1 hb=>by
  refine (conflict_any w1 V c (HCW.out w1 hb)).mono fun e w' ⟨A,c',he,_,hi,h2⟩=>?_
  rw [hfo,hlo,hno] at he
  rw [hlo] at hi
  exact ⟨A,c',he,hi.at,h2⟩
 have HBE:Hid (∀ w1,Below W0.heap.size W0 w1→Calls Tryz.prog 25 #[.agg (campA V c)] w1 fun e w'=>∃ A n c',e=.returned (.tuple #[.slice A n c',.int .i64 fb])∧Below w1.heap.size w1 w'):=Lib.hid fun w1 hb=>by
  refine (Best_any w1 V c (HCW.out w1 hb)).mono fun e w' ⟨A,n,c',he,hn,_,hp,h2⟩=>?_
  rw [hfb] at he
  exact ⟨A,n,c',he,h2⟩
 obtain ⟨vl,hvl⟩:∃ r,validB c l=r:=⟨_,rfl⟩
 have HVL:=Lib.hid hvl
 have HVA:Hid (∀ w1,Below W0.heap.size W0 w1→Calls Tryz.prog 31 #[.agg (campA V c),.slice AL nl cL] w1 fun e w'=>e=.returned (.bool vl)∧Below w1.heap.size w1 w'):=Lib.hid fun w1 hb=>by
  rw [← HNL.out,← hvl]
  exact refValid_any w1 V c (HCW.out w1 hb) l AL cL (HPW.out w1 hb) HCAP.out
 obtain ⟨nc,hnc⟩:∃ n,c.crafts.length=n:=⟨_,rfl⟩
 obtain ⟨np,hnp⟩:∃ n,c.pads.length=n:=⟨_,rfl⟩
 have HNC:=Lib.hid hnc
 have HNP:=Lib.hid hnp
 have HCB:Hid (∀ w1,Below W0.heap.size W0 w1→w1.cell? ⟨qb,0,none⟩=some (.slice V.cA nc V.cc)∧w1.cell? ⟨qb,1,none⟩=some (.slice V.pA np V.pc)∧w1.cell? ⟨qb,2,none⟩=some (.slice V.gA ng V.gc)∧w1.cell? ⟨qb,3,none⟩=some (.int .i64 c.margin)):=Lib.hid fun w1 hb=>by
  rw [← HNG.out,← hnc,← hnp]
  exact ⟨HLC.out w1 hb 0 _ rfl,HLC.out w1 hb 1 _ rfl,HLC.out w1 hb 2 _ rfl,HLC.out w1 hb 3 _ rfl⟩
 clear hlo hfo hno hfb hvl hlaw hnc hnp
 rw [hnl,hPQ]
 clear h hp hcap hb0 hPQ hnl
 simp only [campA] at hW0 ⊢
 go_enter Tryz.func9,Tryz.ntmps9
 go_upto_region 1 with (fail)
 clear hW0 hqb
 have HBR0:Hid (Below W0.heap.size W0 W0):=Lib.hid (Below.refl _ _)
 go_wp2_with (first | (refine wpLoadAt rfl 26 _ rfl qb 0 rfl (campA V c) _ (HLC.out _ HBR0.out) und_camp rfl (info_campA V c) ?_))
 refine (HGR.out _ HBR0.out).mono ?_
 rintro e WG ⟨bg,rfl,hb1⟩
 have HBWG:=Lib.hid hb1
 clear hb1
 cases bg with
 | true =>
  go_wp2_with (first | (refine wpLoadAt rfl 26 _ rfl qb 0 rfl (campA V c) _ (HLC.out _ HBWG.out) und_camp rfl (info_campA V c) ?_))
  refine (HAW.out _ HBWG.out).mono ?_
  rintro e WZ ⟨rfl,hb1⟩
  have HBWZ:=Lib.hid hb1
  clear hb1
  go_wp2_with fail
  first | exact HFIN.out _ HBWZ.out | (go_ret;exact HFIN.out _ HBWZ.out)
 | false =>
 go_wp2_with (first | (refine wpLoadAt rfl 26 _ rfl qb 0 rfl (campA V c) _ (HLC.out _ HBWG.out) und_camp rfl (info_campA V c) ?_))
 refine (HLG.out _ HBWG.out).mono ?_
 rintro e WL ⟨bl,rfl,hb1,hl20⟩
 have HBWL:=Lib.hid hb1
 clear hb1
 cases bl with
 | true =>
  clear hl20
  go_wp2_with (first | (refine wpLoadAt rfl 26 _ rfl qb 0 rfl (campA V c) _ (HLC.out _ HBWL.out) und_camp rfl (info_campA V c) ?_))
  refine (HAW.out _ HBWL.out).mono ?_
  rintro e WZ ⟨rfl,hb1⟩
  have HBWZ:=Lib.hid hb1
  clear hb1
  go_wp2_with fail
  first | exact HFIN.out _ HBWZ.out | (go_ret;exact HFIN.out _ HBWZ.out)
 | false =>
 have hn20:nl≤20:=hl20 rfl
 clear hl20
 have hc2:=HG2.out _ HBWL.out
 by_cases hg:5<ng
 ·have hgi:(5:Int)<(ng:Int):=by omega
  have hgd:decide ((5:Int)<(ng:Int))=true:=decide_eq_true hgi
  go_wp2_with (first | (refine wpLoadAt rfl 26 _ rfl qb 0 rfl (campA V c) _ (HLC.out _ HBWL.out) und_camp rfl (info_campA V c) ?_))
  refine (HAW.out _ HBWL.out).mono ?_
  rintro e WZ ⟨rfl,hb1⟩
  have HBWZ:=Lib.hid hb1
  clear hb1
  go_wp2_with fail
  first | exact HFIN.out _ HBWZ.out | (go_ret;exact HFIN.out _ HBWZ.out)
 have hgi:¬ (5:Int)<(ng:Int):=by omega
 have hgd:decide ((5:Int)<(ng:Int))=false:=decide_eq_false hgi
 have hgn:decide (5<ng)=false:=decide_eq_false hg
 go_wp2_with (first | (refine wpLoadAt rfl 26 _ rfl qb 0 rfl (campA V c) _ (HLC.out _ HBWL.out) und_camp rfl (info_campA V c) ?_))
 refine (HCF.out _ HBWL.out).mono ?_
 rintro e W3 ⟨A3,c3,rfl,hi3,hb1⟩
 have HB3:=Lib.hid (HBWL.out.trans (hb1.mono HBWL.out.size))
 have HI3:=Lib.hid hi3
 have HNG5:Hid (ng≤5):=Lib.hid (by omega)
 clear hb1 hi3 hc2 hgd hgi hgn hg
 go_wp2_with (first | (refine wpLoadAt rfl 26 _ rfl qb 0 rfl (campA V c) _ (HLC.out _ HB3.out) und_camp rfl (info_campA V c) ?_))
 refine (HBE.out _ HB3.out).mono ?_
 rintro e W4 ⟨A4,n4,c4,rfl,hb1⟩
 have HBW4:=Lib.hid (HB3.out.trans (hb1.mono HB3.out.size))
 have HI4:=Lib.hid (HI3.out.later hb1)
 clear hb1
 rcases HLAW.out with ⟨h1,h2,h3⟩ | ⟨h1,h2,h3⟩ | ⟨h1,h2,hcc,p,hlp,hp2,hmu,hcp,hqq⟩
 ·subst h1 h2
  obtain rfl:0=no:=by rw [← HNO.out,h3];rfl
  clear h3
  go_wp2_with (first | (refine wpLoadAt rfl 26 _ rfl qb 0 rfl (campA V c) _ (HLC.out _ HBW4.out) und_camp rfl (info_campA V c) ?_))
  refine (HAW.out _ HBW4.out).mono ?_
  rintro e WZ ⟨rfl,hb1⟩
  have HBWZ:=Lib.hid hb1
  clear hb1
  go_wp2_with fail
  first | exact HFIN.out _ HBWZ.out | (go_ret;exact HFIN.out _ HBWZ.out)
 ·subst h1 h2
  obtain rfl:0=no:=by rw [← HNO.out,h3];rfl
  clear h3
  go_wp2_with (first | (refine wpLoadAt rfl 26 _ rfl qb 0 rfl (campA V c) _ (HLC.out _ HBW4.out) und_camp rfl (info_campA V c) ?_))
  refine (HAW.out _ HBW4.out).mono ?_
  rintro e WZ ⟨rfl,hb1⟩
  have HBWZ:=Lib.hid hb1
  clear hb1
  go_wp2_with fail
  first | exact HFIN.out _ HBWZ.out | (go_ret;exact HFIN.out _ HBWZ.out)
 subst h1 h2
 have HCC:=Lib.hid hcc
 have HLP:=Lib.hid hlp
 have HP2:=Lib.hid hp2
 have HMU:=Lib.hid hmu
 have HCP:=Lib.hid hcp
 have HQQ:=Lib.hid hqq
 have HN6:Hid (no≤6):=Lib.hid (by rw [← HNO.out,hlp];exact bitsQ_len6 p)
 have hno6:=HN6.out
 have HP64:Hid (p<64):=Lib.hid (Nat.lt_of_lt_of_le hp2 (Nat.pow_le_pow_right (by decide) (camp_len hcc).2.2.2.2.2.1))
 have HRNG:Hid (∀ i ∈ lo,0≤i∧i<(ng:Int)):=Lib.hid (by rw [hlp,← HNG.out];exact bitsQ_rng hp2)
 clear hcc hlp hp2 hmu hcp hqq
 go_wp2_with (first | (refine wpLoadAt rfl 26 _ rfl qb 0 rfl (campA V c) _ (HLC.out _ HBW4.out) und_camp rfl (info_campA V c) ?_))
 refine (HVA.out _ HBW4.out).mono ?_
 rintro e W5 ⟨rfl,hb1⟩
 have HBW5:=Lib.hid (HBW4.out.trans (hb1.mono HBW4.out.size))
 have HI5:=Lib.hid (HI4.out.later hb1)
 clear hb1
 go_upto_if 58 with (fail)
 go_cut [96] (fun _ w'=>Hid (Below W5.heap.size W5 w'))
 case first =>
  cases vl with
  | false =>
   go_wp2_with fail
   go_meet
   case rel=>exact Lib.hid (Below.refl _ _)
  | true =>
   have hvp:=(valid_iff.1 HVL.out).2
   have HCNT:Hid (cntO l lo ≠ no):=Lib.hid (by
    have:=conf_count HCC.out HP64.out HCP.out hvp
    rw [← HLP.out,HNO.out] at this;exact this)
   have HX6:Hid (∀ x ∈ l,x.cargos.length≤6):=Lib.hid fun x hx=>by
    obtain ⟨r1,r2⟩:=poss_cargos HCC.out (hvp.poss x hx)
    rw [← rise_bits r1 r2];exact bitsQ_len6 _
   have HBD:Hid (∀ i k m,cntR l lo i k m≤1000):=Lib.hid fun i k m=>cntR_bd HX6.out (by rw [HNL.out];exact hn20) (by rw [HNO.out];exact HN6.out) i k m
   clear hvp
   go_wp2_with fail
   go_loopw [9,10] (fun zv iv wr=>∃ (q:Nat) (z:Int),q≤no∧zv=.int .i64 z∧iv=.int .i64 (q:Int)∧Hid (z=(cntP l lo q:Nat))∧Hid (Below W5.heap.size W5 wr)) (fun _ iv _=>no - (intOf iv).toNat)
   case atStart=>exact ⟨0,0,Nat.zero_le _,rfl,rfl,Lib.hid (by unfold cntP cntO;simp),Lib.hid (Below.refl _ _)⟩
   case round =>
    obtain ⟨q,z,hq,rfl,rfl,HZ,HBQ⟩:=hrel
    obtain ⟨W6,rfl⟩:∃ W:World,W=wr:=⟨_,rfl⟩
    have h0q:(0:Int)≤(q:Int):=by omega
    by_cases hqt:q<no
    case neg =>
     obtain rfl:q=no:=by omega
     have hzz:(z == (q:Int))=false:=by
      rw [beq_eq_false_iff_ne]
      have h1:=HCNT.out
      have h2:cntP l lo q=cntO l lo:=by unfold cntP;rw [List.take_of_length_le (by rw [HNO.out];exact Nat.le_refl q)]
      have h3:=HZ.out
      rw [h2] at h3
      omega
     go_wp2_with fail
     go_meet
     case rel=>exact HBQ
    case pos =>
     have hqi:(q:Int)<(no:Int):=by omega
     obtain ⟨ov,hov⟩:∃ x,numI lo q=x:=⟨_,rfl⟩
     have HOV:=Lib.hid hov
     obtain ⟨b3,o3,hA3,_,_⟩:=HI5.out.2 (by rw [HNO.out];omega)
     subst hA3
     have HCO:Hid (∀ w1,Below W5.heap.size W5 w1→w1.cell? ⟨b3,o3+q,none⟩=some (.int .i64 ov)):=Lib.hid fun w1 h1=>by
      obtain ⟨b,off,e,_,hc⟩:=(HI5.out.later h1).2 (by rw [HNO.out];omega)
      injection e with e
      injection e with e1 e2
      subst e1 e2
      have:=hc q (by rw [HNO.out];exact hqt) 0 (by omega)
      rw [← HOV.out]
      simpa using this
     clear hov
     go_wp2_with fail
     go_loopw [9,11] (fun zv kv wr=>∃ (k:Nat) (z:Int),k≤nl∧zv=.int .i64 z∧kv=.int .i64 (k:Int)∧Hid (z=(cntQ l lo q k:Nat))∧Hid (Below W5.heap.size W5 wr)) (fun _ kv _=>nl - (intOf kv).toNat)
     case atStart=>exact ⟨0,z,Nat.zero_le _,rfl,rfl,Lib.hid (by rw [cntQ_zero];exact HZ.out),HBQ⟩
     case round =>
      obtain ⟨k,z2,hk,rfl,rfl,HZ2,HBK⟩:=hrel
      obtain ⟨W7,rfl⟩:∃ W:World,W=wr:=⟨_,rfl⟩
      have h0k:(0:Int)≤(k:Int):=by omega
      by_cases hkt:k<nl
      case neg =>
       obtain rfl:k=nl:=by omega
       have HZN:Hid (z2=(cntP l lo (q+1):Nat)):=Lib.hid (by rw [HZ2.out,← HNL.out,cntQ_all (by rw [HNO.out];exact hqt)])
       go_wp2_with fail
       go_roundw
       case rel=>first | exact ⟨q+1,z2,by omega,rfl,by go_num,HZN,HBK⟩ | ((repeat apply Exists.intro);exact ⟨⟨q+1,z2,by omega,rfl,by go_num,HZN,HBK⟩,rfl⟩)
       case measure=>simp [intOf];omega
      case pos =>
       have hki:(k:Int)<(nl:Int):=by omega
       have hkl:k<l.length:=by rw [HNL.out];exact hkt
       obtain ⟨X,hX⟩:∃ x,l.getD k launch0=x:=⟨_,rfl⟩
       have HXK:=Lib.hid hX
       obtain ⟨lb,lof,LP,LQ,hAL,_,_,_⟩:=(HPW.out W7 (HBW5.out.trans (HBK.out.mono HBW5.out.size))).at hkl
       subst hAL
       obtain ⟨nx,hnx⟩:∃ n,X.cargos.length=n:=⟨_,rfl⟩
       have HNX:=Lib.hid hnx
       have HXC:Hid (∀ w1,Below W5.heap.size W5 w1→∃ P Q,w1.cell? ⟨lb,lof+k * 4+3,none⟩=some (.slice P nx Q)∧IntsAt w1 w1.heap.size P X.cargos):=Lib.hid fun w1 h1=>by
        obtain ⟨lb',lof',P,Q,e,_,lc,hi⟩:=(HPW.out w1 (HBW5.out.trans (h1.mono HBW5.out.size))).at hkl
        injection e with e
        injection e with e1 e2
        subst e1 e2
        rw [hX] at lc hi
        exact ⟨P,Q,by rw [← hnx];exact lc 3 _ rfl,hi⟩
       obtain ⟨P7,Q7,hx7,hi7⟩:=HXC.out W7 HBK.out
       have HC3:Hid (∀ w1,Below W7.heap.size W7 w1→w1.cell? ⟨lb,lof+k * 4+3,none⟩=some (.slice P7 nx Q7)):=Lib.hid fun w1 h1=>by
        rw [← hx7];exact h1.cell (World.block_lt_of_cell? W7 ⟨lb,lof+k * 4+3,none⟩ hx7)
       have HI7:=Lib.hid hi7
       have hnx6:nx≤6:=by
        rw [← hnx,← hX];exact HX6.out _ (by rw [List.getD_eq_getElem?_getD,List.getElem?_eq_getElem hkl];exact List.getElem_mem hkl)
       have HKL:=Lib.hid hkl
       clear hX hnx hi7 hx7 hkl
       go_wp2_with fail
       go_loopw [9,12] (fun zv mv wr=>∃ (m:Nat) (z:Int),m≤nx∧zv=.int .i64 z∧mv=.int .i64 (m:Int)∧Hid (z=(cntR l lo q k m:Nat))∧Hid (Below W7.heap.size W7 wr)) (fun _ mv _=>nx - (intOf mv).toNat)
       case atStart=>exact ⟨0,z2,Nat.zero_le _,rfl,rfl,Lib.hid (by rw [cntR_zero];exact HZ2.out),Lib.hid (Below.refl _ _)⟩
       case round =>
        obtain ⟨m,z3,hm,rfl,rfl,HZ3,HBM⟩:=hrel
        obtain ⟨W8,rfl⟩:∃ W:World,W=wr:=⟨_,rfl⟩
        have h0m:(0:Int)≤(m:Int):=by omega
        have x3:=HC3.out W8 HBM.out
        by_cases hmt:m<nx
        case neg =>
         obtain rfl:m=nx:=by omega
         have HZN:Hid (z3=(cntQ l lo q (k+1):Nat)):=Lib.hid (by rw [HZ3.out,← cntR_all HKL.out,HXK.out,HNX.out])
         have HBN:Hid (Below W5.heap.size W5 W8):=Lib.hid (HBK.out.trans (HBM.out.mono HBK.out.size))
         go_wp2_with fail
         go_roundw
         case rel=>first | exact ⟨k+1,z3,by omega,rfl,by go_num,HZN,HBN⟩ | ((repeat apply Exists.intro);exact ⟨⟨k+1,z3,by omega,rfl,by go_num,HZN,HBN⟩,rfl⟩)
         case measure=>simp [intOf];omega
        case pos =>
         have hmi:(m:Int)<(nx:Int):=by omega
         obtain ⟨xv,hxv⟩:∃ x,numI X.cargos m=x:=⟨_,rfl⟩
         have HXV:=Lib.hid hxv
         obtain ⟨b7,o7,hP7,_,_⟩:=HI7.out.2 (by rw [HNX.out];omega)
         subst hP7
         have HCM:Hid (∀ w1,Below W8.heap.size W8 w1→w1.cell? ⟨lb,lof+k * 4+3,none⟩=some (.slice (some ⟨b7,o7,none⟩) nx Q7)∧w1.cell? ⟨b7,o7+m,none⟩=some (.int .i64 xv)∧w1.cell? ⟨b3,o3+q,none⟩=some (.int .i64 ov)):=Lib.hid fun w1 h1=>by
          have h2:Below W7.heap.size W7 w1:=HBM.out.trans (h1.mono HBM.out.size)
          refine ⟨HC3.out w1 h2,?_,HCO.out w1 (HBK.out.trans (h2.mono HBK.out.size))⟩
          obtain ⟨b,off,e,_,hc⟩:=(HI7.out.later h2).2 (by rw [HNX.out];omega)
          injection e with e
          injection e with e1 e2
          subst e1 e2
          have:=hc m (by rw [HNX.out];exact hmt) 0 (by omega)
          rw [← HXV.out]
          simpa using this
         obtain ⟨eb,heb⟩:∃ b,(xv == ov)=b:=⟨_,rfl⟩
         have HEB:=Lib.hid heb
         have HZS:Hid (cntR l lo q k (m+1)=cntR l lo q k m+if eb=true then 1 else 0):=Lib.hid (by
          rw [cntR_step (by rw [HXK.out,HNX.out];exact hmt),HXK.out,HXV.out,HOV.out,← heb]
          simp only [beq_iff_eq])
         have hzb:0≤z3∧z3≤1000:=by
          have:=HBD.out q k m
          have h2:=HZ3.out
          omega
         clear hxv heb
         go_wp2_with fail
         go_upto_region 20 with (fail)
         clear x3
         refine wp_region_steps (by kernel_rfl) (by kernel_rfl) (fun w1=>Below W8.heap.size W8 w1) (fun _ _ _=>True)
          (fun ix u _ _=>match ix with
           | 0=>u=.slice (some ⟨lb,lof,none⟩) nl cL
           | 1=>u=.int .i64 (k:Int)
           | 2=>u=.pointer (some ⟨lb,lof+k * 4,none⟩)
           | 3=>u=.pointer (some ⟨lb,lof+k * 4+3,none⟩)
           | 4=>u=.slice (some ⟨b7,o7,none⟩) nx Q7
           | 5=>u=.int .i64 (m:Int)
           | 6=>u=.pointer (some ⟨b7,o7+m,none⟩)
           | 7=>u=.int .i64 xv
           | 8=>u=.slice (some ⟨b3,o3,none⟩) no c3
           | 9=>u=.int .i64 (q:Int)
           | 10=>u=.pointer (some ⟨b3,o3+q,none⟩)
           | 11=>u=.int .i64 ov
           | _=>u=.bool eb) (Below.refl _ _).drew (fun _ _ _ _ _ _ _ _ h _ _=>h) ?_ ?_
         ·refine ⟨?_,?_,?_,?_,?_,?_,?_,?_,?_,?_,?_,?_,?_,trivial⟩
          ·intro a w1 vs K HJ HK HD HN kk
           have e1:=HK 1 (by decide)
           go_simp;exact kk _ _ (by simp) HJ trivial rfl
          ·intro a w1 vs K HJ HK HD HN kk
           have e11:=HK 11 (by decide)
           go_simp;exact kk _ _ (by simp) HJ trivial rfl
          ·intro a w1 vs K HJ HK HD HN kk
           have e81:=hdE (HD 0 _ 81 rfl rfl rfl)
           have e82:=hdE (HD 1 _ 82 rfl rfl rfl)
           go_simp;exact kk _ _ (by simp) HJ trivial rfl
          ·intro a w1 vs K HJ HK HD HN kk
           have e83:=hdE (HD 2 _ 83 rfl rfl rfl)
           go_simp;exact kk _ _ (by simp) HJ trivial rfl
          ·intro a w1 vs K HJ HK HD HN kk
           have e84:=hdE (HD 3 _ 84 rfl rfl rfl)
           have ca:w1.cell? ⟨lb,lof+k * 4+3,none⟩=some (.slice (some ⟨b7,o7,none⟩) nx Q7):=(HCM.out w1 HJ).1
           go_simp;exact kk _ _ (by simp) HJ trivial rfl
          ·intro a w1 vs K HJ HK HD HN kk
           have e12:=HK 12 (by decide)
           go_simp;exact kk _ _ (by simp) HJ trivial rfl
          ·intro a w1 vs K HJ HK HD HN kk
           have e85:=hdE (HD 4 _ 85 rfl rfl rfl)
           have e86:=hdE (HD 5 _ 86 rfl rfl rfl)
           go_simp;exact kk _ _ (by simp) HJ trivial rfl
          ·intro a w1 vs K HJ HK HD HN kk
           have e87:=hdE (HD 6 _ 87 rfl rfl rfl)
           have ca:w1.cell? ⟨b7,o7+m,none⟩=some (.int .i64 xv):=(HCM.out w1 HJ).2.1
           go_simp;exact kk _ _ (by simp) HJ trivial rfl
          ·intro a w1 vs K HJ HK HD HN kk
           have e5:=HK 5 (by decide)
           go_simp;exact kk _ _ (by simp) HJ trivial rfl
          ·intro a w1 vs K HJ HK HD HN kk
           have e10:=HK 10 (by decide)
           go_simp;exact kk _ _ (by simp) HJ trivial rfl
          ·intro a w1 vs K HJ HK HD HN kk
           have e89:=hdE (HD 8 _ 89 rfl rfl rfl)
           have e90:=hdE (HD 9 _ 90 rfl rfl rfl)
           go_simp;exact kk _ _ (by simp) HJ trivial rfl
          ·intro a w1 vs K HJ HK HD HN kk
           have e91:=hdE (HD 10 _ 91 rfl rfl rfl)
           have ca:w1.cell? ⟨b3,o3+q,none⟩=some (.int .i64 ov):=(HCM.out w1 HJ).2.2
           go_simp;exact kk _ _ (by simp) HJ trivial rfl
          ·intro a w1 vs K HJ HK HD HN kk
           have e88:=hdE (HD 7 _ 88 rfl rfl rfl)
           have e92:=hdE (HD 11 _ 92 rfl rfl rfl)
           have heb:=HEB.out
           go_simp;exact kk _ _ (by simp) HJ trivial rfl
         ·intro vs W9 hJ hrr
          have e12:vs 12=.bool eb:=hrr 12 _ rfl
          have HB9:Hid (Below W7.heap.size W7 W9):=Lib.hid (HBM.out.trans (Below.mono hJ HBM.out.size))
          clear hrr hJ
          simp only [putAll,Act.put,List.setIfInBounds_toArray,List.set_cons_zero,List.set_cons_succ]
          rw [e12]
          clear e12
          cases eb with
          | true =>
           have hws:IntKind.i64.wrap (z3+1)=z3+1:=IntWalk.i64_in _ (by omega)
           have HZN:Hid (z3+1=(cntR l lo q k (m+1):Nat)):=Lib.hid (by rw [HZS.out,if_pos rfl,HZ3.out];omega)
           go_wp2_with fail
           go_roundw
           case rel=>first | exact ⟨m+1,z3+1,by omega,rfl,by go_num,HZN,HB9⟩ | ((repeat apply Exists.intro);exact ⟨⟨m+1,z3+1,by omega,rfl,by go_num,HZN,HB9⟩,rfl⟩)
           case measure=>simp [intOf];omega
          | false =>
           have HZN:Hid (z3=(cntR l lo q k (m+1):Nat)):=Lib.hid (by rw [HZS.out,if_neg (by decide),HZ3.out];omega)
           go_wp2_with fail
           go_roundw
           case rel=>first | exact ⟨m+1,z3,by omega,rfl,by go_num,HZN,HB9⟩ | ((repeat apply Exists.intro);exact ⟨⟨m+1,z3,by omega,rfl,by go_num,HZN,HB9⟩,rfl⟩)
           case measure=>simp [intOf];omega
 case rest =>
 have HB6:=hcut
 clear hcut
 obtain ⟨W6,rfl⟩:∃ W:World,W=wc:=⟨_,rfl⟩
 have HBW6:Hid (Below W0.heap.size W0 W6):=Lib.hid (HBW5.out.trans (HB6.out.mono HBW5.out.size))
 have HI6:=Lib.hid (HI5.out.later HB6.out)
 go_wp2_with fail
 go_loopw [13] (fun iv wr=>∃ q:Nat,q≤no∧iv=.int .i64 (q:Int)∧Hid (Below W6.heap.size W6 wr)) (fun iv _=>no - (intOf iv).toNat)
 case atStart=>exact ⟨0,Nat.zero_le _,rfl,Lib.hid (Below.refl _ _)⟩
 case round =>
  obtain ⟨q,hq,rfl,HBQ⟩:=hrel
  obtain ⟨W7,rfl⟩:∃ W:World,W=wr:=⟨_,rfl⟩
  have h0q:(0:Int)≤(q:Int):=by omega
  by_cases hqt:q<no
  case pos =>
   have hqi:(q:Int)<(no:Int):=by omega
   have hmem:numI lo q ∈ lo:=numI_mem (by rw [HNO.out];exact hqt)
   have hrng:=HRNG.out _ hmem
   obtain ⟨mm,hmm⟩:∃ mm:Nat,numI lo q=(mm:Int):=⟨(numI lo q).toNat,by omega⟩
   have HMM:=Lib.hid hmm
   have hmg:(mm:Int)<(ng:Int):=by omega
   have h0mm:(0:Int)≤(mm:Int):=by omega
   have hmust:(c.cargoN mm).must=true:=by
    have:=HMU.out (numI lo q) (by rw [← HLP.out];exact hmem)
    rw [hmm,cargo_nat] at this;exact this
   obtain ⟨b3,o3,hA3,_,_⟩:=HI6.out.2 (by rw [HNO.out];omega)
   subst hA3
   obtain ⟨gb,go,hgA,_⟩:=HCA.out.cargos.2 (by rw [HNG.out];omega)
   have HCL:Hid (∀ w1,Below W7.heap.size W7 w1→w1.cell? ⟨b3,o3+q,none⟩=some (.int .i64 (mm:Int))∧w1.cell? ⟨qb,2,none⟩=some (.slice (some ⟨gb,go,none⟩) ng V.gc)∧w1.cell? ⟨gb,go+mm * 6+5,none⟩=some (.bool true)):=Lib.hid fun w1 h1=>by
    have hb6:Below W6.heap.size W6 w1:=HBQ.out.trans (h1.mono HBQ.out.size)
    have hb0:Below W0.heap.size W0 w1:=HBW6.out.trans (hb6.mono HBW6.out.size)
    refine ⟨?_,by rw [← hgA];exact (HCB.out w1 hb0).2.2.1,?_⟩
    ·obtain ⟨b,off,e,_,hc⟩:=(HI6.out.later hb6).2 (by rw [HNO.out];omega)
     injection e with e
     injection e with e1 e2
     subst e1 e2
     have:=hc q (by rw [HNO.out];exact hqt) 0 (by omega)
     rw [← HMM.out]
     simpa using this
    ·obtain ⟨b',o',e,_,hc'⟩:=(HCW.out w1 hb0).cargos.2 (by rw [HNG.out];omega)
     rw [hgA] at e
     injection e with e
     injection e with e1 e2
     subst e1 e2
     rw [hc' mm (by rw [HNG.out];omega) 5 (by omega),← hmust];rfl
   have hlt0:decide ((mm:Int)<0)=false:=decide_eq_false (by omega)
   have hltn:¬ (mm:Int)<0:=by omega
   have hge0:decide ((ng:Int)≤(mm:Int))=false:=decide_eq_false (by omega)
   have hgen:¬ (ng:Int)≤(mm:Int):=by omega
   have hgen2:¬ ng≤mm:=by omega
   clear hmem hrng hmm hmust hgA
   go_upto_region 27 with (fail)
   refine wp_region_steps (by kernel_rfl) (by kernel_rfl) (fun w1=>Below W7.heap.size W7 w1) (fun _ _ _=>True)
    (fun ix u _ _=>match ix with
     | 0=>u=.slice (some ⟨b3,o3,none⟩) no c3
     | 1=>u=.int .i64 (q:Int)
     | 2=>u=.pointer (some ⟨b3,o3+q,none⟩)
     | 3=>u=.int .i64 (mm:Int)
     | 4=>u=.bool false
     | 5=>u=.bool false
     | 6=>u=.slice (some ⟨b3,o3,none⟩) no c3
     | 7=>u=.int .i64 (q:Int)
     | 8=>u=.pointer (some ⟨b3,o3+q,none⟩)
     | 9=>u=.int .i64 (mm:Int)
     | 10=>u=.pointer (some ⟨qb,2,none⟩)
     | 11=>u=.slice (some ⟨gb,go,none⟩) ng V.gc
     | 12=>u=.int .i64 ng
     | 13=>u=.bool false
     | 14=>u=.bool false
     | 15=>u=.bool false
     | 16=>u=.pointer (some ⟨qb,2,none⟩)
     | 17=>u=.slice (some ⟨gb,go,none⟩) ng V.gc
     | 18=>u=.slice (some ⟨b3,o3,none⟩) no c3
     | 19=>u=.int .i64 (q:Int)
     | 20=>u=.pointer (some ⟨b3,o3+q,none⟩)
     | 21=>u=.int .i64 (mm:Int)
     | 22=>u=.pointer (some ⟨gb,go+mm * 6,none⟩)
     | 23=>u=.pointer (some ⟨gb,go+mm * 6+5,none⟩)
     | 24=>u=.bool true
     | 25=>u=.bool false
     | _=>u=.bool false) (Below.refl _ _).drew (fun _ _ _ _ _ _ _ _ h _ _=>h) ?_ ?_
   ·refine ⟨?_,?_,?_,?_,?_,?_,?_,?_,?_,?_,?_,?_,?_,?_,?_,?_,?_,?_,?_,?_,?_,?_,?_,?_,?_,?_,?_,trivial⟩
    ·intro a w1 vs K HJ HK HD HN kk
     have e5:=HK 5 (by decide)
     go_simp;exact kk _ _ (by simp) HJ trivial rfl
    ·intro a w1 vs K HJ HK HD HN kk
     have e13:=HK 13 (by decide)
     go_simp;exact kk _ _ (by simp) HJ trivial rfl
    ·intro a w1 vs K HJ HK HD HN kk
     have e106:=hdE (HD 0 _ 106 rfl rfl rfl)
     have e107:=hdE (HD 1 _ 107 rfl rfl rfl)
     go_simp;exact kk _ _ (by simp) HJ trivial rfl
    ·intro a w1 vs K HJ HK HD HN kk
     have e108:=hdE (HD 2 _ 108 rfl rfl rfl)
     have ca:w1.cell? ⟨b3,o3+q,none⟩=some (.int .i64 (mm:Int)):=(HCL.out w1 HJ).1
     go_simp;exact kk _ _ (by simp) HJ trivial rfl
    ·intro a w1 vs K HJ HK HD HN kk
     have e109:=hdE (HD 3 _ 109 rfl rfl rfl)
     go_simp;exact kk _ _ (by simp) HJ trivial rfl
    ·intro a w1 vs K HJ HK HD HN kk
     have e110:=hdE (HD 4 _ 110 rfl rfl rfl)
     go_simp;exact kk _ _ (by simp) HJ trivial rfl
    ·intro a w1 vs K HJ HK HD HN kk
     have e111:=hdE (HD 5 _ 111 rfl rfl rfl)
     rw [if_pos (wanted_yes 5 false rfl rfl rfl e111)]
     have e5:=HK 5 (by decide)
     go_simp;exact kk _ _ (by simp) HJ trivial rfl
    ·intro a w1 vs K HJ HK HD HN kk
     have e111:=hdE (HD 5 _ 111 rfl rfl rfl)
     rw [if_pos (wanted_yes 5 false rfl rfl rfl e111)]
     have e13:=HK 13 (by decide)
     go_simp;exact kk _ _ (by simp) HJ trivial rfl
    ·intro a w1 vs K HJ HK HD HN kk
     have e111:=hdE (HD 5 _ 111 rfl rfl rfl)
     rw [if_pos (wanted_yes 5 false rfl rfl rfl e111)]
     have e112:=hdE (HD 6 _ 112 rfl rfl rfl)
     have e113:=hdE (HD 7 _ 113 rfl rfl rfl)
     go_simp;exact kk _ _ (by simp) HJ trivial rfl
    ·intro a w1 vs K HJ HK HD HN kk
     have e111:=hdE (HD 5 _ 111 rfl rfl rfl)
     rw [if_pos (wanted_yes 5 false rfl rfl rfl e111)]
     have e114:=hdE (HD 8 _ 114 rfl rfl rfl)
     have ca:w1.cell? ⟨b3,o3+q,none⟩=some (.int .i64 (mm:Int)):=(HCL.out w1 HJ).1
     go_simp;exact kk _ _ (by simp) HJ trivial rfl
    ·intro a w1 vs K HJ HK HD HN kk
     have e111:=hdE (HD 5 _ 111 rfl rfl rfl)
     rw [if_pos (wanted_yes 5 false rfl rfl rfl e111)]
     have e2:=HK 2 (by decide)
     go_simp;exact kk _ _ (by simp) HJ trivial rfl
    ·intro a w1 vs K HJ HK HD HN kk
     have e111:=hdE (HD 5 _ 111 rfl rfl rfl)
     rw [if_pos (wanted_yes 5 false rfl rfl rfl e111)]
     have e116:=hdE (HD 10 _ 116 rfl rfl rfl)
     have ca:w1.cell? ⟨qb,2,none⟩=some (.slice (some ⟨gb,go,none⟩) ng V.gc):=(HCL.out w1 HJ).2.1
     go_simp;exact kk _ _ (by simp) HJ trivial rfl
    ·intro a w1 vs K HJ HK HD HN kk
     have e111:=hdE (HD 5 _ 111 rfl rfl rfl)
     rw [if_pos (wanted_yes 5 false rfl rfl rfl e111)]
     have e117:=hdE (HD 11 _ 117 rfl rfl rfl)
     go_simp;exact kk _ _ (by simp) HJ trivial rfl
    ·intro a w1 vs K HJ HK HD HN kk
     have e111:=hdE (HD 5 _ 111 rfl rfl rfl)
     rw [if_pos (wanted_yes 5 false rfl rfl rfl e111)]
     have e115:=hdE (HD 9 _ 115 rfl rfl rfl)
     have e118:=hdE (HD 12 _ 118 rfl rfl rfl)
     go_simp;exact kk _ _ (by simp) HJ trivial rfl
    ·intro a w1 vs K HJ HK HD HN kk
     have e111:=hdE (HD 5 _ 111 rfl rfl rfl)
     have e119:=hdE (HD 13 _ 119 rfl rfl rfl)
     go_simp;exact kk _ _ (by simp) HJ trivial rfl
    ·intro a w1 vs K HJ HK HD HN kk
     have e120:=hdE (HD 14 _ 120 rfl rfl rfl)
     go_simp;exact kk _ _ (by simp) HJ trivial rfl
    ·intro a w1 vs K HJ HK HD HN kk
     have e121:=hdE (HD 15 _ 121 rfl rfl rfl)
     rw [if_pos (wanted_yes 15 false rfl rfl rfl e121)]
     have e2:=HK 2 (by decide)
     go_simp;exact kk _ _ (by simp) HJ trivial rfl
    ·intro a w1 vs K HJ HK HD HN kk
     have e121:=hdE (HD 15 _ 121 rfl rfl rfl)
     rw [if_pos (wanted_yes 15 false rfl rfl rfl e121)]
     have e122:=hdE (HD 16 _ 122 rfl rfl rfl)
     have ca:w1.cell? ⟨qb,2,none⟩=some (.slice (some ⟨gb,go,none⟩) ng V.gc):=(HCL.out w1 HJ).2.1
     go_simp;exact kk _ _ (by simp) HJ trivial rfl
    ·intro a w1 vs K HJ HK HD HN kk
     have e121:=hdE (HD 15 _ 121 rfl rfl rfl)
     rw [if_pos (wanted_yes 15 false rfl rfl rfl e121)]
     have e5:=HK 5 (by decide)
     go_simp;exact kk _ _ (by simp) HJ trivial rfl
    ·intro a w1 vs K HJ HK HD HN kk
     have e121:=hdE (HD 15 _ 121 rfl rfl rfl)
     rw [if_pos (wanted_yes 15 false rfl rfl rfl e121)]
     have e13:=HK 13 (by decide)
     go_simp;exact kk _ _ (by simp) HJ trivial rfl
    ·intro a w1 vs K HJ HK HD HN kk
     have e121:=hdE (HD 15 _ 121 rfl rfl rfl)
     rw [if_pos (wanted_yes 15 false rfl rfl rfl e121)]
     have e124:=hdE (HD 18 _ 124 rfl rfl rfl)
     have e125:=hdE (HD 19 _ 125 rfl rfl rfl)
     go_simp;exact kk _ _ (by simp) HJ trivial rfl
    ·intro a w1 vs K HJ HK HD HN kk
     have e121:=hdE (HD 15 _ 121 rfl rfl rfl)
     rw [if_pos (wanted_yes 15 false rfl rfl rfl e121)]
     have e126:=hdE (HD 20 _ 126 rfl rfl rfl)
     have ca:w1.cell? ⟨b3,o3+q,none⟩=some (.int .i64 (mm:Int)):=(HCL.out w1 HJ).1
     go_simp;exact kk _ _ (by simp) HJ trivial rfl
    ·intro a w1 vs K HJ HK HD HN kk
     have e121:=hdE (HD 15 _ 121 rfl rfl rfl)
     rw [if_pos (wanted_yes 15 false rfl rfl rfl e121)]
     have e123:=hdE (HD 17 _ 123 rfl rfl rfl)
     have e127:=hdE (HD 21 _ 127 rfl rfl rfl)
     go_simp;exact kk _ _ (by simp) HJ trivial rfl
    ·intro a w1 vs K HJ HK HD HN kk
     have e121:=hdE (HD 15 _ 121 rfl rfl rfl)
     rw [if_pos (wanted_yes 15 false rfl rfl rfl e121)]
     have e128:=hdE (HD 22 _ 128 rfl rfl rfl)
     go_simp;exact kk _ _ (by simp) HJ trivial rfl
    ·intro a w1 vs K HJ HK HD HN kk
     have e121:=hdE (HD 15 _ 121 rfl rfl rfl)
     rw [if_pos (wanted_yes 15 false rfl rfl rfl e121)]
     have e129:=hdE (HD 23 _ 129 rfl rfl rfl)
     have ca:w1.cell? ⟨gb,go+mm * 6+5,none⟩=some (.bool true):=(HCL.out w1 HJ).2.2
     go_simp;exact kk _ _ (by simp) HJ trivial rfl
    ·intro a w1 vs K HJ HK HD HN kk
     have e121:=hdE (HD 15 _ 121 rfl rfl rfl)
     rw [if_pos (wanted_yes 15 false rfl rfl rfl e121)]
     have e130:=hdE (HD 24 _ 130 rfl rfl rfl)
     go_simp;exact kk _ _ (by simp) HJ trivial rfl
    ·intro a w1 vs K HJ HK HD HN kk
     have e121:=hdE (HD 15 _ 121 rfl rfl rfl)
     have e131:=hdE (HD 25 _ 131 rfl rfl rfl)
     go_simp;exact kk _ _ (by simp) HJ trivial rfl
   ·intro vs W9 hJ hrr
    have e26:vs 26=.bool false:=hrr 26 _ rfl
    have HB9:Hid (Below W6.heap.size W6 W9):=Lib.hid (HBQ.out.trans (Below.mono hJ HBQ.out.size))
    clear hrr hJ
    simp only [putAll,Act.put,List.setIfInBounds_toArray,List.set_cons_zero,List.set_cons_succ]
    rw [e26]
    clear e26
    go_wp2_with fail
    go_roundw
    case rel=>first | exact ⟨q+1,by omega,by go_num,HB9⟩ | ((repeat apply Exists.intro);exact ⟨⟨q+1,by omega,by go_num,HB9⟩,rfl⟩)
    case measure=>simp [intOf];omega
  case neg =>
   obtain rfl:q=no:=by omega
   have HBW7:Hid (Below W0.heap.size W0 W7):=Lib.hid (HBW6.out.trans (HBQ.out.mono HBW6.out.size))
   have HI7:=Lib.hid (HI6.out.later HBQ.out)
   go_wp2_with fail
   go_loopw [14] (fun iv wr=>∃ ii:Nat,ii≤q∧iv=.int .i64 (ii:Int)∧Hid (Below W7.heap.size W7 wr)) (fun iv _=>q - (intOf iv).toNat)
   case atStart=>exact ⟨0,Nat.zero_le _,rfl,Lib.hid (Below.refl _ _)⟩
   case round =>
    obtain ⟨ii,hii,rfl,HBI⟩:=hrel
    obtain ⟨W8,rfl⟩:∃ W:World,W=wr:=⟨_,rfl⟩
    have h0ii:(0:Int)≤(ii:Int):=by omega
    have HBW8:Hid (Below W0.heap.size W0 W8):=Lib.hid (HBW7.out.trans (HBI.out.mono HBW7.out.size))
    by_cases hit:ii<q
    case neg =>
     obtain rfl:ii=q:=by omega
     go_wp2_with (first | (refine wpLoadAt rfl 26 _ rfl qb 0 rfl (campA V c) _ (HLC.out _ HBW8.out) und_camp rfl (info_campA V c) ?_))
     refine (HAW.out _ HBW8.out).mono ?_
     rintro e WZ ⟨rfl,hb1⟩
     have HBWZ:=Lib.hid hb1
     clear hb1
     go_wp2_with fail
     first | exact HFIN.out _ HBWZ.out | (go_ret;exact HFIN.out _ HBWZ.out)
    case pos =>
     have hiti:(ii:Int)<(q:Int):=by omega
     obtain ⟨gq,hgq⟩:∃ x,W8.heap.size=x:=⟨_,rfl⟩
     obtain ⟨k0,k1,k2,k3⟩:=HCB.out W8 HBW8.out
     go_upto_region 33 with (fail)
     clear k0 k1 k2 k3
     obtain ⟨W9,hW9⟩:∃ W,W8.alloc (.cells #[.slice V.cA nc V.cc,.slice V.pA np V.pc,.slice V.gA ng V.gc,.int .i64 c.margin] 26)=W:=⟨_,rfl⟩
     have hb9:Below W8.heap.size W8 W9:=by rw [← hW9];exact (Below.refl _ W8).alloc (Nat.le_refl _) _
     have HK9:Hid (Bk W9 gq 26 #[.slice V.cA nc V.cc,.slice V.pA np V.pc,.slice V.gA ng V.gc,.int .i64 c.margin]):=Lib.hid (by rw [← hW9,← hgq];exact Bk.new _ _ _)
     have HB9:Hid (Below W0.heap.size W0 W9):=Lib.hid (HBW8.out.trans (hb9.mono HBW8.out.size))
     have HB89:=Lib.hid hb9
     have HGQ:=Lib.hid hgq
     have HQ9:Hid (W9.heap.size=gq+1):=Lib.hid (by rw [← hW9,← hgq,World.size_alloc])
     rw [hW9]
     clear hW9 hb9 hgq
     obtain ⟨iC,zC,hiC,hzC,hsC,hyC⟩:=info_ex info_cargox
     obtain ⟨_,_,k2,_⟩:=HCB.out W9 HB9.out
     have k2':(W9.alloc (.cells #[] 54)).cell? ⟨qb,2,none⟩=some (.slice V.gA ng V.gc):=(HCB.out _ (HB9.out.alloc HB9.out.size _)).2.2.1
     have HSL:Hid (∀ w1,Below W0.heap.size W0 w1→Sl w1 w1.heap.size 6 V.gA ng fun i=>cargoC (c.cargoN i)):=Lib.hid fun w1 hb=>by rw [← HNG.out];exact (HCW.out w1 hb).cargos
     have hs9:W0.heap.size≤W9.heap.size:=HB9.out.size
     have hng5:ng≤5:=HNG5.out
     have hng4:ng≤4096:=by omega
     go_wp2_with (at_builtin;refine wpList_copyAll rfl 24 _ _ rfl 54 iC zC Tryz.underlying24 hiC hzC 6 hsC hyC ⟨W9.heap.size,0,none⟩ rfl V.gA ng V.gc rfl (fun i=>cargoC (c.cargoN i)) (HSL.out _ (HB9.out.alloc hs9 _)) hng4 ?_)
     intro A5 c5 Wa hcl5 hb5
     have hlen:=camp_len HCC.out
     have hng1:1≤ng:=by have:=HNG.out;omega
     obtain ⟨g,cur,rfl,hg1,hbk,hrow⟩:=hcl5.2 (by omega)
     have hq9:W9.heap.size=gq+1:=HQ9.out
     have hgg:gq<g:=by first | omega | (rw [World.size_alloc] at hg1;omega) | (simp at hg1;omega)
     have HKA:Hid (Bk Wa gq 26 #[.slice V.cA nc V.cc,.slice V.pA np V.pc,.slice V.gA ng V.gc,.int .i64 c.margin]):=Lib.hid ((HK9.out.alloc _).below hb5 (by first | omega | (rw [World.size_alloc];omega) | (simp;omega)))
     have q2:Wa.cell? ⟨gq,2,none⟩=some (.slice V.gA ng V.gc):=HKA.out.cell 2
     have f2:Wa.frozen? ⟨gq,2,none⟩=false:=HKA.out.free 2
     have HB8a:Hid (Below gq W8 Wa):=Lib.hid (by
      have h1:Below gq W8 W9:=by rw [← HGQ.out];exact HB89.out
      exact (h1.alloc (by omega) _).trans (hb5.mono (by first | omega | (rw [World.size_alloc];omega) | (simp;omega))))
     have HROW:=Lib.hid hrow
     have HBK:=Lib.hid hbk
     have HGG:=Lib.hid hgg
     clear hcl5 hb5 hrow hbk hg1 hq9 k2 k2' hiC hzC hsC hyC hs9 hlen
     go_upto_region 34 with (fail)
     obtain ⟨Wb,hWb⟩:∃ W,Wa.setCell ⟨gq,2,none⟩ (.slice (some ⟨g,0,none⟩) ng c5)=W:=⟨_,rfl⟩
     have HRb:Hid (LsR W8 gq g V c c5 (fun i=>if i<0 then false else (c.cargoN i).must) Wb):=Lib.hid (by
      rw [← hWb]
      refine ⟨HB8a.out.setCell (p:=⟨gq,2,none⟩) (Nat.le_refl _) _,?_,cur,HBK.out.far (p:=⟨gq,2,none⟩) (by show g ≠ gq;have:=HGG.out;omega) _,fun i hi j hj=>?_⟩
      ·rw [HNC.out,HNP.out,HNG.out]
       have:=HKA.out.set 2 (.slice (some ⟨g,0,none⟩) ng c5);exact this
      ·show cur[i * 6+j]?=some (cargoC { c.cargoN i with must:=if i<0 then false else (c.cargoN i).must } j)
       rw [if_neg (Nat.not_lt_zero i)];exact HROW.out i (by rw [← HNG.out];exact hi) j hj)
     have HRB:Hid (∀ f w1,LsR W8 gq g V c c5 f w1→Below W8.heap.size W8 w1∧Below W0.heap.size W0 w1∧w1.cell? ⟨gq,2,none⟩=some (.slice (some ⟨g,0,none⟩) ng c5)):=Lib.hid fun f w1 h=>by
      have h1:Below W8.heap.size W8 w1:=by rw [HGQ.out];exact h.1
      exact ⟨h1,HBW8.out.trans (h1.mono HBW8.out.size),by rw [← HNG.out];exact h.box⟩
     rw [hWb]
     clear hWb q2 f2
     go_wp2_with fail
     go_loopw [16] (fun kv wr=>∃ k:Nat,k≤ng∧kv=.int .i64 (k:Int)∧Hid (LsR W8 gq g V c c5 (fun i=>if i<k then false else (c.cargoN i).must) wr)) (fun kv _=>ng - (intOf kv).toNat)
     case atStart=>exact ⟨0,Nat.zero_le _,rfl,HRb⟩
     case round =>
      obtain ⟨k,hk,rfl,HR⟩:=hrel
      obtain ⟨Wd,rfl⟩:∃ W:World,W=wr:=⟨_,rfl⟩
      have h0k:(0:Int)≤(k:Int):=by omega
      obtain ⟨_,_,q2⟩:=HRB.out _ Wd HR.out
      by_cases hkt:k<ng
      case pos =>
       have hki:(k:Int)<(ng:Int):=by omega
       have HKC':Hid (k<c.cargos.length):=Lib.hid (by rw [HNG.out];exact hkt)
       obtain ⟨r1,fr⟩:=HR.out.cell HKC'.out
       obtain ⟨bv,hbv⟩:∃ x,(if k<k then false else (c.cargoN k).must)=x:=⟨_,rfl⟩
       rw [hbv] at r1
       clear hbv
       have HRN:Hid (LsR W8 gq g V c c5 (fun i=>if i<k+1 then false else (c.cargoN i).must) (Wd.setCell ⟨g,k * 6+5,none⟩ (.bool false))):=Lib.hid ((HR.out.set HGG.out HKC'.out false).congr fun i _=>by
        by_cases e1:i=k
        ·subst e1;rw [if_pos rfl,if_pos (by omega)]
        ·rw [if_neg e1]
         by_cases e2:i<k
         ·rw [if_pos e2,if_pos (by omega)]
         ·rw [if_neg e2,if_neg (by omega)])
       go_wp2_with fail
       go_roundw
       case rel=>first | exact ⟨k+1,by omega,by go_num,HRN⟩ | ((repeat apply Exists.intro);exact ⟨⟨k+1,by omega,by go_num,HRN⟩,rfl⟩)
       case measure=>simp [intOf];omega
      case neg =>
       obtain rfl:k=ng:=by omega
       have HR0:Hid (LsR W8 gq g V c c5 (lsF lo ii 0) Wd):=Lib.hid (HR.out.congr fun i hi=>by
        rw [HNG.out] at hi
        rw [if_pos hi];rfl)
       clear HR
       obtain ⟨b3,o3,hA3,_,_⟩:=HI7.out.2 (by rw [HNO.out];omega)
       subst hA3
       go_wp2_with fail
       go_loopw [17] (fun sv wr=>∃ s:Nat,s≤q∧sv=.int .i64 (s:Int)∧Hid (LsR W8 gq g V c c5 (lsF lo ii s) wr)) (fun sv _=>q - (intOf sv).toNat)
       case atStart=>exact ⟨0,Nat.zero_le _,rfl,HR0⟩
       case round =>
        obtain ⟨s,hs,rfl,HLK⟩:=hrel
        obtain ⟨We,rfl⟩:∃ W:World,W=wr:=⟨_,rfl⟩
        have h0s:(0:Int)≤(s:Int):=by omega
        by_cases hst:s<q
        case pos =>
         have hsi:(s:Int)<(q:Int):=by omega
         have hmem:numI lo s ∈ lo:=numI_mem (by rw [HNO.out];exact hst)
         have hrng:=HRNG.out _ hmem
         obtain ⟨mm,hmm⟩:∃ mm:Nat,numI lo s=(mm:Int):=⟨(numI lo s).toNat,by omega⟩
         have HMM:=Lib.hid hmm
         have hmg:(mm:Int)<(k:Int):=by omega
         have h0mm:(0:Int)≤(mm:Int):=by omega
         have HMN:Hid (mm<c.cargos.length):=Lib.hid (by rw [HNG.out];omega)
         obtain ⟨dv,hdv⟩:∃ b,((s:Int) != (ii:Int))=b:=⟨_,rfl⟩
         have HDV:=Lib.hid hdv
         have HFN:Hid (∀ i,i<c.cargos.length→(if i=mm then dv else lsF lo ii s i)=lsF lo ii (s+1) i):=Lib.hid fun i _=>by
          show _=(if i=(numI lo s).toNat then decide (s ≠ ii) else lsF lo ii s i)
          rw [HMM.out,Int.toNat_natCast,← hdv]
          have e:((s:Int) != (ii:Int))=decide (s ≠ ii):=by rw [Bool.eq_iff_iff,bne_iff_ne,decide_eq_true_eq];omega
          rw [e]
         have HCK:Hid (∀ w1,LsR W8 gq g V c c5 (lsF lo ii s) w1→w1.cell? ⟨gq,2,none⟩=some (.slice (some ⟨g,0,none⟩) k c5)∧w1.cell? ⟨b3,o3+s,none⟩=some (.int .i64 (mm:Int))∧w1.cell? ⟨g,mm * 6+5,none⟩=some (.bool (lsF lo ii s mm))∧w1.frozen? ⟨g,mm * 6+5,none⟩=false):=Lib.hid fun w1 h1=>by
          obtain ⟨h2,_,h4⟩:=HRB.out _ w1 h1
          refine ⟨h4,?_,h1.cell HMN.out⟩
          have h7:Below W7.heap.size W7 w1:=HBI.out.trans (h2.mono HBI.out.size)
          obtain ⟨b,off,e,_,hc⟩:=(HI7.out.later h7).2 (by rw [HNO.out];omega)
          injection e with e
          injection e with e1 e2
          subst e1 e2
          have:=hc s (by rw [HNO.out];exact hst) 0 (by omega)
          rw [← HMM.out]
          simpa using this
         clear hmem hrng hmm hdv q2
         go_wp2_with fail
         go_upto_region 41 with (fail)
         refine wp_region_stepsM (by kernel_rfl) (by kernel_rfl) 11 (by decide) (fun bq w1=>if bq=true then LsR W8 gq g V c c5 (lsF lo ii (s+1)) w1 else LsR W8 gq g V c c5 (lsF lo ii s) w1) (fun _ _ _=>True)
          (fun ix u _ _=>match ix with
           | 0=>u=.pointer (some ⟨gq,2,none⟩)
           | 1=>u=.slice (some ⟨g,0,none⟩) k c5
           | 2=>u=.slice (some ⟨b3,o3,none⟩) q c3
           | 3=>u=.int .i64 (s:Int)
           | 4=>u=.pointer (some ⟨b3,o3+s,none⟩)
           | 5=>u=.int .i64 (mm:Int)
           | 6=>u=.int .i64 (s:Int)
           | 7=>u=.int .i64 (ii:Int)
           | 8=>u=.bool dv
           | 9=>u=.pointer (some ⟨g,mm * 6,none⟩)
           | 10=>u=.pointer (some ⟨g,mm * 6+5,none⟩)
           | _=>True) HLK.out.drew (fun _ _ _ _ _ _ _ _ h _=>h) ?_ ?_
         ·refine ⟨?_,?_,?_,?_,?_,?_,?_,?_,?_,?_,?_,?_,trivial⟩
          ·intro a w1 vs K bq Hb HJ HK HD HN kk
           obtain rfl:bq=false:=by cases bq with | false=>rfl | true=>exact absurd (Hb rfl).2 (by decide)
           have HJ':LsR W8 gq g V c c5 (lsF lo ii s) w1:=HJ
           have e15:=HK 15 (by decide)
           go_simp;exact kk _ _ (by simp) HJ trivial rfl
          ·intro a w1 vs K bq Hb HJ HK HD HN kk
           obtain rfl:bq=false:=by cases bq with | false=>rfl | true=>exact absurd (Hb rfl).2 (by decide)
           have HJ':LsR W8 gq g V c c5 (lsF lo ii s) w1:=HJ
           have e163:=hdE (HD 0 _ 163 rfl rfl rfl)
           have ca:w1.cell? ⟨gq,2,none⟩=some (.slice (some ⟨g,0,none⟩) k c5):=(HCK.out w1 HJ').1
           go_simp;exact kk _ _ (by simp) HJ trivial rfl
          ·intro a w1 vs K bq Hb HJ HK HD HN kk
           obtain rfl:bq=false:=by cases bq with | false=>rfl | true=>exact absurd (Hb rfl).2 (by decide)
           have HJ':LsR W8 gq g V c c5 (lsF lo ii s) w1:=HJ
           have e5:=HK 5 (by decide)
           go_simp;exact kk _ _ (by simp) HJ trivial rfl
          ·intro a w1 vs K bq Hb HJ HK HD HN kk
           obtain rfl:bq=false:=by cases bq with | false=>rfl | true=>exact absurd (Hb rfl).2 (by decide)
           have HJ':LsR W8 gq g V c c5 (lsF lo ii s) w1:=HJ
           have e17:=HK 17 (by decide)
           go_simp;exact kk _ _ (by simp) HJ trivial rfl
          ·intro a w1 vs K bq Hb HJ HK HD HN kk
           obtain rfl:bq=false:=by cases bq with | false=>rfl | true=>exact absurd (Hb rfl).2 (by decide)
           have HJ':LsR W8 gq g V c c5 (lsF lo ii s) w1:=HJ
           have e165:=hdE (HD 2 _ 165 rfl rfl rfl)
           have e166:=hdE (HD 3 _ 166 rfl rfl rfl)
           go_simp;exact kk _ _ (by simp) HJ trivial rfl
          ·intro a w1 vs K bq Hb HJ HK HD HN kk
           obtain rfl:bq=false:=by cases bq with | false=>rfl | true=>exact absurd (Hb rfl).2 (by decide)
           have HJ':LsR W8 gq g V c c5 (lsF lo ii s) w1:=HJ
           have e167:=hdE (HD 4 _ 167 rfl rfl rfl)
           have ca:w1.cell? ⟨b3,o3+s,none⟩=some (.int .i64 (mm:Int)):=(HCK.out w1 HJ').2.1
           go_simp;exact kk _ _ (by simp) HJ trivial rfl
          ·intro a w1 vs K bq Hb HJ HK HD HN kk
           obtain rfl:bq=false:=by cases bq with | false=>rfl | true=>exact absurd (Hb rfl).2 (by decide)
           have HJ':LsR W8 gq g V c c5 (lsF lo ii s) w1:=HJ
           have e17:=HK 17 (by decide)
           go_simp;exact kk _ _ (by simp) HJ trivial rfl
          ·intro a w1 vs K bq Hb HJ HK HD HN kk
           obtain rfl:bq=false:=by cases bq with | false=>rfl | true=>exact absurd (Hb rfl).2 (by decide)
           have HJ':LsR W8 gq g V c c5 (lsF lo ii s) w1:=HJ
           have e14:=HK 14 (by decide)
           go_simp;exact kk _ _ (by simp) HJ trivial rfl
          ·intro a w1 vs K bq Hb HJ HK HD HN kk
           obtain rfl:bq=false:=by cases bq with | false=>rfl | true=>exact absurd (Hb rfl).2 (by decide)
           have HJ':LsR W8 gq g V c c5 (lsF lo ii s) w1:=HJ
           have e169:=hdE (HD 6 _ 169 rfl rfl rfl)
           have e170:=hdE (HD 7 _ 170 rfl rfl rfl)
           have hdv:=HDV.out
           go_simp;exact kk _ _ (by simp) HJ trivial rfl
          ·intro a w1 vs K bq Hb HJ HK HD HN kk
           obtain rfl:bq=false:=by cases bq with | false=>rfl | true=>exact absurd (Hb rfl).2 (by decide)
           have HJ':LsR W8 gq g V c c5 (lsF lo ii s) w1:=HJ
           have e164:=hdE (HD 1 _ 164 rfl rfl rfl)
           have e168:=hdE (HD 5 _ 168 rfl rfl rfl)
           go_simp;exact kk _ _ (by simp) HJ trivial rfl
          ·intro a w1 vs K bq Hb HJ HK HD HN kk
           obtain rfl:bq=false:=by cases bq with | false=>rfl | true=>exact absurd (Hb rfl).2 (by decide)
           have HJ':LsR W8 gq g V c c5 (lsF lo ii s) w1:=HJ
           have e172:=hdE (HD 9 _ 172 rfl rfl rfl)
           go_simp;exact kk _ _ (by simp) HJ trivial rfl
          ·intro a w1 vs K bq Hb HJ HK HD HN kk
           obtain rfl:bq=false:=by cases bq with | false=>rfl | true=>exact absurd rfl (Hb rfl).1
           have HJ':LsR W8 gq g V c c5 (lsF lo ii s) w1:=HJ
           have e173:=hdE (HD 10 _ 173 rfl rfl rfl)
           have e171:=hdE (HD 8 _ 171 rfl rfl rfl)
           have hcz:=HCK.out w1 HJ'
           have ca:=hcz.2.2.1
           have fz:=hcz.2.2.2
           have hset:=HJ'.set HGG.out HMN.out dv
           go_simp
           exact kk undef _ (by simp) (hset.congr HFN.out) trivial trivial
         ·intro vs Wf hJ hrr
          have HJ4:Hid (LsR W8 gq g V c c5 (lsF lo ii (s+1)) Wf):=Lib.hid hJ
          clear hJ hrr
          simp only [putAll,Act.put,List.setIfInBounds_toArray,List.set_cons_zero,List.set_cons_succ]
          go_wp2_with fail
          go_roundw
          case rel=>first | exact ⟨s+1,by omega,by go_num,HJ4⟩ | ((repeat apply Exists.intro);exact ⟨⟨s+1,by omega,by go_num,HJ4⟩,rfl⟩)
          case measure=>simp [intOf];omega
        case neg =>
         obtain rfl:s=q:=by omega
         obtain ⟨d,hd⟩:∃ d,mustC c (fun i=>p.testBit i && !decide ((i:Int)=numI lo ii))=d:=⟨_,rfl⟩
         have HLD:Hid (LsR W8 gq g V c c5 (fun i=>p.testBit i && !decide ((i:Int)=numI lo ii)) We):=Lib.hid (HLK.out.congr fun i _=>by
          have h1:=lsF_all (p:=p) HP64.out (ii:=ii) (by rw [← HLP.out,HNO.out];exact hit) i
          rw [← HLP.out,HNO.out] at h1;exact h1)
         have HDO:Hid ((bstB d).2=0):=Lib.hid (by
          have h1:=conf_without HCC.out HP2.out HQQ.out (x:=numI lo ii) (by rw [← HLP.out];exact numI_mem (by rw [HNO.out];exact hit))
          rw [hd] at h1
          rw [bstQ_some (by rw [← hd];exact mustC_camp HCC.out _),if_pos h1])
         obtain ⟨V9,hV9⟩:∃ v:CV,{ V with gA:=some ⟨g,0,none⟩,gc:=c5 }=v:=⟨_,rfl⟩
         have hcg:CampAt We We.heap.size V9 d:=by rw [← hd,← hV9];exact HLD.out.camp HGQ.out.symm (HCW.out W8 HBW8.out)
         have HLG:Hid (∀ j u,(campA V9 d)[j]?=some u→We.cell? ⟨gq,0+j,none⟩=some u):=Lib.hid fun j u hj=>by
          rw [Nat.zero_add,HLD.out.2.1.cell,← hj,← hV9,← hd]
          unfold campA
          rw [mustC_len]
          rfl
         have hbd:=Best_any We V9 d hcg
         unfold BestPost at hbd
         rw [HDO.out] at hbd
         have HBD:=Lib.hid hbd
         have HBE9:Hid (Below W7.heap.size W7 We):=Lib.hid (by
          have h2:=(HRB.out _ We HLD.out).1
          exact HBI.out.trans (h2.mono HBI.out.size))
         clear hcg hbd hd hV9 q2
         go_wp2_with (first | (refine wpLoadAt rfl 26 _ rfl gq 0 rfl (campA V9 d) _ HLG.out und_camp rfl (info_campA V9 d) ?_))
         refine HBD.out.mono ?_
         rintro e Wg ⟨A9,n9,c9,rfl,_,_,_,hb9⟩
         have HBG9:Hid (Below W7.heap.size W7 Wg):=Lib.hid (HBE9.out.trans (hb9.mono HBE9.out.size))
         clear hb9
         go_wp2_with fail
         go_roundw
         case rel=>first | exact ⟨ii+1,by omega,by go_num,HBG9⟩ | ((repeat apply Exists.intro);exact ⟨⟨ii+1,by omega,by go_num,HBG9⟩,rfl⟩)
         case measure=>simp [intOf];omega
end Go.Proofs.YtcnjenlojnognaaGreat
