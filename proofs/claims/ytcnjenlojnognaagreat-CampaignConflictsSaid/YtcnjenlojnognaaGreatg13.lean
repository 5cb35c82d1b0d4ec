/- What is proved: the texts Di, one behind the other; each says at its head what it proves, and under which conditions. -/
import Derived.Test.YtcnjenlojnognaaGreatg10
/- What is proved: the contract of the document's Better. Conditions: the campaign and the two plans lie in memory. -/
namespace Go.Proofs.YtcnjenlojnognaaGreat
open Go.RowKit

theorem cmpP_hit:∀ (a b:List LaunchD),a.length=b.length→∀ k,k<a.length→(∀ j,j<k→cmpL (a.getD j launch0) (b.getD j launch0)=0)→cmpL (a.getD k launch0) (b.getD k launch0) ≠ 0→cmpP a b=cmpL (a.getD k launch0) (b.getD k launch0)
 | [],_,_,k,hk,_,_=>absurd hk (Nat.not_lt_zero k)
 | _ :: _,[],h,_,_,_,_=>by simp at h
 | x :: a,y :: b,h,0,_,_,hz=>by show orI (cmpL x y) (cmpP a b)=cmpL x y;unfold orI;rw [if_neg (show ¬ cmpL x y=0 from hz)]
 | x :: a,y :: b,h,k+1,hk,hj,hz=>by
  show orI (cmpL x y) (cmpP a b)=_
  unfold orI
  rw [if_pos (show cmpL x y=0 from hj 0 (by omega))]
  exact cmpP_hit a b (by simpa using h) k (by simpa using hk) (fun j hjk=>hj (j+1) (by omega)) hz
theorem cmpP_all:∀ (a b:List LaunchD),a.length=b.length→(∀ j,j<a.length→cmpL (a.getD j launch0) (b.getD j launch0)=0)→cmpP a b=0
 | [],[],_,_=>rfl
 | [],_ :: _,h,_=>by simp at h
 | _ :: _,[],h,_=>by simp at h
 | x :: a,y :: b,h,hj=>by
  show orI (cmpL x y) (cmpP a b)=0
  unfold orI
  rw [if_pos (show cmpL x y=0 from hj 0 (by simp))]
  exact cmpP_all a b (by simpa using h) fun j hjk=>hj (j+1) (by simpa using hjk)
theorem better_worth {c:CampD} {a b:List LaunchD} (h:(worthB c a).1 ≠ (worthB c b).1):betterB c a b=decide ((worthB c b).1<(worthB c a).1):=by
 unfold betterB keyP orI cmpI
 refine decide_eq_decide.2 ?_
 by_cases h1:(worthB c b).1<(worthB c a).1
 ·rw [if_pos h1];simp [h1]
 ·have h2:(worthB c a).1<(worthB c b).1:=by omega
  rw [if_neg h1,if_pos h2];simp [h1]
theorem better_len {c:CampD} {a b:List LaunchD} (h:(worthB c a).1=(worthB c b).1) (hn:a.length ≠ b.length):betterB c a b=decide (a.length<b.length):=by
 unfold betterB keyP orI cmpI
 rw [h,if_neg (Int.lt_irrefl _),if_neg (Int.lt_irrefl _),if_pos rfl]
 refine decide_eq_decide.2 ?_
 by_cases h1:(a.length:Int)<(b.length:Int)
 ·rw [if_pos h1];simp;omega
 ·have h2:(b.length:Int)<(a.length:Int):=by omega
  rw [if_neg h1,if_pos h2];simp;omega
theorem better_cmp {c:CampD} {a b:List LaunchD} (h:(worthB c a).1=(worthB c b).1) (hn:a.length=b.length):betterB c a b=decide (cmpP a b<0):=by
 unfold betterB keyP orI cmpI
 rw [h,if_neg (Int.lt_irrefl _),if_neg (Int.lt_irrefl _),if_pos rfl,hn,if_neg (Int.lt_irrefl _),if_neg (Int.lt_irrefl _),if_pos rfl]
set_option maxRecDepth 100000 in
set_option maxHeartbeats 8000000 in
theorem refBetter_any (w:World) (V:CV) (c:CampD) (h:CampAt w w.heap.size V c) (a:List LaunchD) (AL:Option Addr) (cL:Nat) (hp:PlanAt w w.heap.size AL a) (hcap:a.length≤cL) (b:List LaunchD) (BL:Option Addr) (dL:Nat) (hq:PlanAt w w.heap.size BL b) (hcaq:b.length≤dL) :
  Calls Tryz.prog 28 #[.agg (campA V c),.slice AL a.length cL,.slice BL b.length dL] w fun e w'=>e=.returned (.bool (betterB c a b))∧Below w.heap.size w w':=by
 obtain ⟨qb,hqb⟩:∃ qb,w.heap.size=qb:=⟨_,rfl⟩
 obtain ⟨W0,hW0⟩:∃ W0,w.alloc (.cells (campA V c) 26)=W0:=⟨_,rfl⟩
 have hb0:Below w.heap.size w W0:=by rw [← hW0];exact (Below.refl _ w).alloc (Nat.le_refl _) _
 have HKC:Hid (Bk W0 qb 26 (campA V c)):=Lib.hid (by rw [← hW0,← hqb];exact Bk.new _ _ _)
 obtain ⟨R,hR⟩:∃ R,betterB c a b=R:=⟨_,rfl⟩
 have HR:=Lib.hid hR
 obtain ⟨PQ,hPQ⟩:∃ Q,(fun (e:Ending) (w':World)=>e=.returned (.bool R)∧Below w.heap.size w w')=Q:=⟨_,rfl⟩
 have HFIN:Hid (∀ (t:Bool) (w':World),R=t→Below W0.heap.size W0 w'→PQ (.returned (.bool t)) w'):=Lib.hid fun t w' h1 h2=>by
  rw [← hPQ,h1];exact ⟨rfl,hb0.trans (h2.mono hb0.size)⟩
 have HCA:=Lib.hid (h.later hb0)
 have HPA:=Lib.hid (hp.later hb0)
 have HPB:=Lib.hid (hq.later hb0)
 have hll:=hp.len
 have hlm:=hq.len
 obtain ⟨na,hna⟩:∃ n,a.length=n:=⟨_,rfl⟩
 obtain ⟨nb,hnb⟩:∃ n,b.length=n:=⟨_,rfl⟩
 have HNA:=Lib.hid hna
 have HNB:=Lib.hid hnb
 have hwa:=refWorth_any W0 V c HCA.out a AL cL HPA.out hcap
 have hwb:∀ w1,Below W0.heap.size W0 w1→Calls Tryz.prog 21 #[.agg (campA V c),.slice BL b.length dL] w1 (WorthPost c b w1.heap.size w1):=fun w1 hb=>refWorth_any w1 V c (HCA.out.later hb) b BL dL (HPB.out.later hb) hcaq
 unfold WorthPost at hwa hwb
 obtain ⟨va,hva⟩:∃ r,(worthB c a).1=r:=⟨_,rfl⟩
 obtain ⟨a2,ha2⟩:∃ r,(worthB c a).2.1=r:=⟨_,rfl⟩
 obtain ⟨a3,ha3⟩:∃ r,(worthB c a).2.2=r:=⟨_,rfl⟩
 obtain ⟨vb,hvb⟩:∃ r,(worthB c b).1=r:=⟨_,rfl⟩
 obtain ⟨b2,hb2⟩:∃ r,(worthB c b).2.1=r:=⟨_,rfl⟩
 obtain ⟨b3,hb3⟩:∃ r,(worthB c b).2.2=r:=⟨_,rfl⟩
 have HVA:=Lib.hid hva
 have HVB:=Lib.hid hvb
 rw [hva,ha2,ha3,hna] at hwa
 rw [hvb,hb2,hb3,hnb] at hwb
 have HWA:=Lib.hid hwa
 have HWB:=Lib.hid hwb
 rw [hna] at hll ⊢
 rw [hnb] at hlm ⊢
 have HLC:Hid (∀ w1,Below W0.heap.size W0 w1→∀ j u,(campA V c)[j]?=some u→w1.cell? ⟨qb,0+j,none⟩=some u):=Lib.hid fun w1 hb j u hj=>by rw [Nat.zero_add,(HKC.out.below hb HKC.out.lt).cell];exact hj
 have HLC0:=Lib.hid (HLC.out W0 (Below.refl _ _))
 rw [hR,hPQ]
 clear h hp hq hb0 hcap hcaq hR hPQ hna hnb hwa hwb hva ha2 ha3 hvb hb2 hb3
 simp only [campA] at hW0 ⊢
 go_enter Tryz.func28,Tryz.ntmps28
 go_upto_region 1 with (fail)
 clear hW0 hqb
 go_wp2_with (first | (refine wpLoadAt rfl 26 _ rfl qb 0 rfl (campA V c) _ HLC0.out und_camp rfl (info_campA V c) ?_))
 refine HWA.out.mono ?_
 rintro e W1 ⟨rfl,hb1⟩
 have HB1:=Lib.hid hb1
 clear hb1
 go_wp2_with (first | (refine wpLoadAt rfl 26 _ rfl qb 0 rfl (campA V c) _ (HLC.out _ HB1.out) und_camp rfl (info_campA V c) ?_))
 refine (HWB.out _ HB1.out).mono ?_
 rintro e W2 ⟨rfl,hb1⟩
 have HB2:=Lib.hid (HB1.out.trans (hb1.mono HB1.out.size))
 clear hb1
 by_cases hv:va=vb
 case neg =>
  have hz:(va == vb)=false:=by rw [beq_eq_false_iff_ne];exact hv
  obtain ⟨t,ht⟩:∃ t,decide (vb<va)=t:=⟨_,rfl⟩
  have HF2:=Lib.hid (HFIN.out t W2 (by rw [← HR.out,← ht,← HVA.out,← HVB.out];exact better_worth (by rw [HVA.out,HVB.out];exact hv)) HB2.out)
  clear hv
  go_wp2_with fail
  first | exact HF2.out | (go_ret;exact HF2.out)
 case pos =>
 have HV:Hid ((worthB c a).1=(worthB c b).1):=Lib.hid (by rw [HVA.out,HVB.out];exact hv)
 have hz:(va == vb)=true:=by rw [beq_iff_eq];exact hv
 clear hv
 by_cases hn:na=nb
 case neg =>
  have hnz:((na:Int) == (nb:Int))=false:=by rw [beq_eq_false_iff_ne];omega
  have HF2:=Lib.hid (HFIN.out (decide (na<nb)) W2 (by rw [← HR.out,better_len HV.out (by rw [HNA.out,HNB.out];exact hn),HNA.out,HNB.out]) HB2.out)
  clear hn
  go_wp2_with fail
  first | exact HF2.out | (go_ret;exact HF2.out)
 case pos =>
 subst hn
 have hnz:((na:Int) == (na:Int))=true:=beq_self_eq_true _
 have HC:Hid (R=decide (cmpP a b<0)):=Lib.hid (by rw [← HR.out];exact better_cmp HV.out (by rw [HNA.out,HNB.out]))
 go_wp2_with fail
 clear hnz hz
 go_loopw [13] (fun iv wr=>∃ k:Nat,k≤na∧iv=.int .i64 k∧Hid (Below W0.heap.size W0 wr∧∀ j,j<k→cmpL (a.getD j launch0) (b.getD j launch0)=0)) (fun iv _=>na - (intOf iv).toNat)
 case atStart=>exact ⟨0,Nat.zero_le _,rfl,Lib.hid ⟨HB2.out,fun j hj=>absurd hj (Nat.not_lt_zero j)⟩⟩
 case round =>
  obtain ⟨k,hk,rfl,hs⟩:=hrel
  have HB:=Lib.hid hs.out.1
  have HS:=Lib.hid hs.out.2
  clear hs
  have h0k:(0:Int)≤(k:Int):=by omega
  by_cases hlt:k<na
  ·have hki:(k:Int)<(na:Int):=by omega
   obtain ⟨ab,ao,P,Q,rfl,hab,dc,dl⟩:=HPA.out.at (i:=k) (by rw [HNA.out];exact hlt)
   obtain ⟨bb,bo,P2,Q2,rfl,hbb,ec,el⟩:=HPB.out.at (i:=k) (by rw [HNB.out];exact hlt)
   obtain ⟨x,hx⟩:∃ x,a.getD k launch0=x:=⟨_,rfl⟩
   obtain ⟨y,hy⟩:∃ x,b.getD k launch0=x:=⟨_,rfl⟩
   have HX:=Lib.hid hx
   have HY:=Lib.hid hy
   rw [hx] at dc dl
   rw [hy] at ec el
   obtain ⟨z,hz⟩:∃ z,cmpL x y=z:=⟨_,rfl⟩
   have HZ:=Lib.hid hz
   have HLX:Hid (∀ w1,Below W0.heap.size W0 w1→(∀ j u,(launchA x P Q)[j]?=some u→w1.cell? ⟨ab,ao+k * 4+j,none⟩=some u)∧(∀ j u,(launchA y P2 Q2)[j]?=some u→w1.cell? ⟨bb,bo+k * 4+j,none⟩=some u)):=Lib.hid fun w1 hb =>
    ⟨fun j u hj=>(hb.cell (p:=⟨ab,ao+k * 4+j,none⟩) hab).trans (dc j u hj),fun j u hj=>(hb.cell (p:=⟨bb,bo+k * 4+j,none⟩) hbb).trans (ec j u hj)⟩
   have HCM:Hid (∀ w1,Below W0.heap.size W0 w1→Calls Tryz.prog 67 #[.agg (launchA x P Q),.agg (launchA y P2 Q2)] w1 fun e w'=>e=.returned (.int .i64 z)∧Below w1.heap.size w1 w'):=Lib.hid fun w1 hb=>by
    rw [← hz];exact refCompare_any w1 x y P P2 Q Q2 (dl.later hb) (el.later hb)
   have HWR:Hid (∀ w1,Below wr.heap.size wr w1→Below W0.heap.size W0 w1):=Lib.hid fun w1 hb=>HB.out.trans (hb.mono HB.out.size)
   clear hx hy hz dc ec dl el hab hbb
   go_wp2_with fail
   refine wp_region_steps (by kernel_rfl) (by kernel_rfl) (fun w1=>Below wr.heap.size wr w1) (fun _ _ _=>True)
    (fun ix u _ _=>match ix with
     | 0=>u=.slice (some ⟨ab,ao,none⟩) na cL
     | 1=>u=.int .i64 (k:Int)
     | 2=>u=.pointer (some ⟨ab,ao+k * 4,none⟩)
     | 3=>u=.agg (launchA x P Q)
     | 4=>u=.slice (some ⟨bb,bo,none⟩) na dL
     | 5=>u=.int .i64 (k:Int)
     | 6=>u=.pointer (some ⟨bb,bo+k * 4,none⟩)
     | 7=>u=.agg (launchA y P2 Q2)
     | 8=>u=.int .i64 z
     | _=>u=.int .i64 z) (Below.refl _ _).drew (fun _ _ _ _ _ _ _ _ h _ _=>h) ?_ ?_
   ·refine ⟨?_,?_,?_,?_,?_,?_,?_,?_,?_,?_,trivial⟩
    ·intro a w1 vs K HJ HK HD HN kk
     have e1:=HK 1 (by decide)
     go_simp;exact kk _ _ (by simp) HJ trivial rfl
    ·intro a w1 vs K HJ HK HD HN kk
     have e13:=HK 13 (by decide)
     go_simp;exact kk _ _ (by simp) HJ trivial rfl
    ·intro a w1 vs K HJ HK HD HN kk
     have e51:=hdE (HD 0 _ 51 rfl rfl rfl)
     have e52:=hdE (HD 1 _ 52 rfl rfl rfl)
     go_simp;exact kk _ _ (by simp) HJ trivial rfl
    ·intro a w1 vs K HJ HK HD HN kk
     have e53:=hdE (HD 2 _ 53 rfl rfl rfl)
     exact wpo_loadS 52 (.tmp 53) rfl ab (ao+k * 4) (by simpa [Act.eval] using e53) (launchA x P Q) _ (HLX.out w1 (HWR.out w1 HJ)).1 und_launch rfl info_launch (kk _ _ (by simp) HJ trivial rfl)
    ·intro a w1 vs K HJ HK HD HN kk
     have e2:=HK 2 (by decide)
     go_simp;exact kk _ _ (by simp) HJ trivial rfl
    ·intro a w1 vs K HJ HK HD HN kk
     have e13:=HK 13 (by decide)
     go_simp;exact kk _ _ (by simp) HJ trivial rfl
    ·intro a w1 vs K HJ HK HD HN kk
     have e55:=hdE (HD 4 _ 55 rfl rfl rfl)
     have e56:=hdE (HD 5 _ 56 rfl rfl rfl)
     go_simp;exact kk _ _ (by simp) HJ trivial rfl
    ·intro a w1 vs K HJ HK HD HN kk
     have e57:=hdE (HD 6 _ 57 rfl rfl rfl)
     exact wpo_loadS 52 (.tmp 57) rfl bb (bo+k * 4) (by simpa [Act.eval] using e57) (launchA y P2 Q2) _ (HLX.out w1 (HWR.out w1 HJ)).2 und_launch rfl info_launch (kk _ _ (by simp) HJ trivial rfl)
    ·intro a w1 vs K HJ HK HD HN kk
     have e54:=hdE (HD 3 _ 54 rfl rfl rfl)
     have e58:=hdE (HD 7 _ 58 rfl rfl rfl)
     exact wpo_call 67 _ _ rfl #[.agg (launchA x P Q),.agg (launchA y P2 Q2)] (by simp [Act.eval,e54,e58]) (fun args w=>by kernel_rfl)
      ((HCM.out w1 (HWR.out w1 HJ)).mono fun e w' ⟨he,hb⟩=>⟨_,he,kk _ _ (by simp) (Below.trans HJ (hb.mono HJ.size)) trivial rfl⟩)
    ·intro a w1 vs K HJ HK HD HN kk
     have e59:=hdE (HD 8 _ 59 rfl rfl rfl)
     go_simp;exact kk _ _ (by simp) HJ trivial rfl
   ·intro vs W3 hw6 hrr
    have e9:vs 9=.int .i64 z:=hrr 9 _ rfl
    have HB3:=Lib.hid (HWR.out _ hw6)
    clear hrr hw6
    simp only [putAll,Act.put,List.setIfInBounds_toArray,List.set_cons_zero,List.set_cons_succ]
    rw [e9]
    by_cases hz:z=0
    ·subst hz
     go_wp2_with fail
     go_roundw
     case rel=>exact ⟨k+1,by omega,by go_num,Lib.hid ⟨HB3.out,fun j hj=>by
      by_cases e:j=k
      ·subst e;rw [HX.out,HY.out];exact HZ.out
      ·exact HS.out j (by omega)⟩⟩
     case measure=>simp [intOf];omega
    ·have hz1:(z == 0)=false:=by rw [beq_eq_false_iff_ne];exact hz
     obtain ⟨t,ht⟩:∃ t,decide (z<0)=t:=⟨_,rfl⟩
     have HF2:=Lib.hid (HFIN.out t W3 (by
      rw [HC.out,cmpP_hit a b (by rw [HNA.out,HNB.out]) k (by rw [HNA.out];exact hlt) HS.out (by rw [HX.out,HY.out,HZ.out];exact hz),HX.out,HY.out,HZ.out,ht]) HB3.out)
     clear hz
     go_wp2_with fail
     first | exact HF2.out | (go_ret;exact HF2.out)
  ·obtain rfl:k=na:=by omega
   have HF2:=Lib.hid (HFIN.out false wr (by
    rw [HC.out,cmpP_all a b (by rw [HNA.out,HNB.out]) fun j hj=>HS.out j (by rw [HNA.out] at hj;exact hj)];rfl) HB.out)
   go_wp2_with fail
   first | exact HF2.out | (go_ret;exact HF2.out)
end Go.Proofs.YtcnjenlojnognaaGreat
