/- What is proved: the texts Dg, one behind the other; each says at its head what it proves, and under which conditions. -/
import Derived.Test.YtcnjenlojnognaaGreatg8
/- What is proved: contracts of the document's launched and Worth. Conditions: the campaign and the plan lie in memory. -/
namespace Go.Proofs.YtcnjenlojnognaaGreat
open Go.RowKit

set_option maxRecDepth 100000 in
set_option maxHeartbeats 8000000 in
theorem refLaunched_any (w:World) (AL:Option Addr) (cL:Nat) (l:List LaunchD) (hp:PlanAt w w.heap.size AL l) (i:Int) :
  Calls Tryz.prog 60 #[.slice AL l.length cL,.int .i64 i] w fun e w'=>e=.returned (.bool (launchedB l i))∧Below w.heap.size w w':=by
 have hll:=hp.len
 have HPA:=Lib.hid hp
 obtain ⟨nl,hnl⟩:∃ nl,l.length=nl:=⟨_,rfl⟩
 have HNL:=Lib.hid hnl
 obtain ⟨R,hR⟩:∃ R,launchedB l i=R:=⟨_,rfl⟩
 have HR:=Lib.hid hR
 obtain ⟨PQ,hPQ⟩:∃ Q,(fun (e:Ending) (w':World)=>e=.returned (.bool R)∧Below w.heap.size w w')=Q:=⟨_,rfl⟩
 have HFIN:Hid (∀ (b:Bool) (w':World),R=b→Below w.heap.size w w'→PQ (.returned (.bool b)) w'):=Lib.hid fun b w' h1 h2=>by rw [← hPQ,h1];exact ⟨rfl,h2⟩
 rw [hnl] at hll ⊢
 rw [hR,hPQ]
 clear hp hnl hR hPQ
 go_enter Tryz.func60,Tryz.ntmps60
 go_wp2_with fail
 go_loopw [5] (fun iv wr=>∃ k:Nat,k≤nl∧iv=.int .i64 k∧Hid (Below w.heap.size w wr∧∀ a,a<k→(l.getD a launch0).cargos.contains i=false)) (fun iv _=>nl - (intOf iv).toNat)
 case atStart=>exact ⟨0,Nat.zero_le _,rfl,Lib.hid ⟨Below.refl _ _,fun j hj=>absurd hj (Nat.not_lt_zero j)⟩⟩
 case round =>
  obtain ⟨k,hk,rfl,hs⟩:=hrel
  have HB:=Lib.hid hs.out.1
  have HS:=Lib.hid hs.out.2
  clear hs
  have h0k:(0:Int)≤(k:Int):=by omega
  by_cases hlt:k<nl
  ·have hki:(k:Int)<(nl:Int):=by omega
   obtain ⟨bb,off,P,Q,rfl,hbb,dc,dl⟩:=(HPA.out.later HB.out).at (i:=k) (by rw [HNL.out];exact hlt)
   obtain ⟨n,hn⟩:∃ n,(l.getD k launch0).cargos.length=n:=⟨_,rfl⟩
   have d3:wr.cell? ⟨bb,off+k * 4+3,none⟩=some (.slice P n Q):=by rw [← hn];exact dc 3 _ rfl
   have hh:=has_any wr P Q _ i dl
   rw [hn] at hh
   obtain ⟨b,hb⟩:∃ b,(l.getD k launch0).cargos.contains i=b:=⟨_,rfl⟩
   rw [hb] at hh
   have HH:=Lib.hid hh
   have HBB:=Lib.hid hb
   clear dc dl hn hh hb
   go_wp2_with fail
   refine HH.out.mono ?_
   rintro e W1 ⟨rfl,rfl⟩
   clear d3
   cases b with
   | true =>
    have HF2:=Lib.hid (HFIN.out true W1 (by rw [← HR.out];exact any_true (d:=launch0) (by rw [HNL.out];exact hlt) HBB.out) HB.out)
    go_wp2_with fail
    first | exact HF2.out | (go_ret;exact HF2.out)
   | false =>
    go_wp2_with fail
    go_roundw
    case rel=>exact ⟨k+1,by omega,by go_num,Lib.hid ⟨HB.out,fun j hj=>by
     by_cases e:j=k
     ·subst e;exact HBB.out
     ·exact HS.out j (by omega)⟩⟩
    case measure=>simp [intOf];omega
  ·obtain rfl:k=nl:=by omega
   have HF2:=Lib.hid (HFIN.out false wr (by rw [← HR.out];exact any_false (d:=launch0) fun j hj=>HS.out j (by rw [HNL.out] at hj;exact hj)) HB.out)
   go_wp2_with fail
   first | exact HF2.out | (go_ret;exact HF2.out)
theorem refValid_val (w:World) (V:CV) (c:CampD) (h:CampAt w w.heap.size V c) (l:List LaunchD) (AL:Option Addr) (cL:Nat) (hp:PlanAt w w.heap.size AL l) (hcap:l.length≤cL) (b:Bool) (hb:validB c l=b) (nl:Nat) (hnl:l.length=nl) :
  Calls Tryz.prog 31 #[.agg (campA V c),.slice AL nl cL] w fun e w'=>e=.returned (.bool b)∧Below w.heap.size w w':=by rw [← hb,← hnl];exact refValid_any w V c h l AL cL hp hcap
set_option maxRecDepth 100000 in
set_option maxHeartbeats 8000000 in
theorem refWorth_any (w:World) (V:CV) (c:CampD) (h:CampAt w w.heap.size V c) (l:List LaunchD) (AL:Option Addr) (cL:Nat) (hp:PlanAt w w.heap.size AL l) (hcap:l.length≤cL) :
  Calls Tryz.prog 21 #[.agg (campA V c),.slice AL l.length cL] w (WorthPost c l w.heap.size w):=by
 obtain ⟨qb,hqb⟩:∃ qb,w.heap.size=qb:=⟨_,rfl⟩
 obtain ⟨W0,hW0⟩:∃ W0,w.alloc (.cells (campA V c) 26)=W0:=⟨_,rfl⟩
 have hb0:Below w.heap.size w W0:=by rw [← hW0];exact (Below.refl _ w).alloc (Nat.le_refl _) _
 have HB0:Hid (Below qb w W0):=Lib.hid (by rw [← hqb];exact hb0)
 have HKC:Hid (Bk W0 qb 26 (campA V c)):=Lib.hid (by rw [← hW0,← hqb];exact Bk.new _ _ _)
 have HSZ:Hid (qb≤W0.heap.size):=Lib.hid (by have:=HKC.out.lt;omega)
 have HCA:=Lib.hid (h.later hb0)
 have HPA:=Lib.hid (hp.later hb0)
 obtain ⟨nl,hnl⟩:∃ nl,l.length=nl:=⟨_,rfl⟩
 have HNL:=Lib.hid hnl
 obtain ⟨bv,hbv⟩:∃ b,validB c l=b:=⟨_,rfl⟩
 have HBV:=Lib.hid hbv
 have HV:=Lib.hid (refValid_val W0 V c HCA.out l AL cL HPA.out hcap bv hbv nl hnl)
 have HLC0:Hid (∀ j u,(campA V c)[j]?=some u→W0.cell? ⟨qb,0+j,none⟩=some u):=Lib.hid fun j u hj=>by rw [Nat.zero_add,HKC.out.cell];exact hj
 obtain ⟨Q,hQ⟩:∃ Q,WorthPost c l w.heap.size w=Q:=⟨_,rfl⟩
 have HFIN:Hid (∀ (a:Int) (b:Bool) (d:Int) (w':World),(a,b,d)=worthB c l→Below qb w w'→Q (.returned (.tuple #[.int .i64 a,.bool b,.int .i64 d])) w'):=Lib.hid fun a b d w' h1 h3=>by
  rw [← hQ,hqb];unfold WorthPost;rw [← h1];exact ⟨rfl,h3⟩
 obtain ⟨ng,hng⟩:∃ ng,c.cargos.length=ng:=⟨_,rfl⟩
 have HNG:=Lib.hid hng
 have hngl:ng≤9223372036854775807:=by rw [← hng];exact h.cargos.1
 have hll:=hp.len
 rw [hnl] at hll ⊢
 rw [hQ]
 clear h hp hb0 hcap hnl hQ hbv
 cases bv with
 | false =>
  have HRB:Hid (((0:Int),false,(2:Int))=worthB c l):=Lib.hid (by unfold worthB;rw [HBV.out];rfl)
  clear hng
  simp only [campA] at hW0 ⊢
  go_enter Tryz.func21,Tryz.ntmps21
  go_upto_region 1 with (fail)
  clear hW0 hqb
  go_wp2_with (first | (refine wpLoadAt rfl 26 _ rfl qb 0 rfl (campA V c) _ HLC0.out und_camp rfl (info_campA V c) ?_))
  refine HV.out.mono ?_
  rintro e W1 ⟨rfl,hb1⟩
  have HB1:=Lib.hid hb1
  clear hb1
  go_wp2_with fail
  go_ret3
  exact HFIN.out _ _ _ _ HRB.out (HB0.out.trans (HB1.out.mono HSZ.out))
 | true =>
 obtain ⟨hcc,hpl⟩:=valid_iff.1 HBV.out
 have hng6:ng≤6:=by have:=(camp_len hcc).2.2.2.2.2.1;omega
 have HWB:=Lib.hid (worthK_bd hcc l)
 have HCG:=Lib.hid fun (i:Int)=>camp_cargo hcc i
 have HKS:Hid (∀ k,worthK c l (k+1)=if launchedB l k then ((worthK c l k).1+(c.cargo k).value,(worthK c l k).2) else ((worthK c l k).1,(worthK c l k).2 && !(c.cargo k).must)):=Lib.hid fun k=>rfl
 have HRB:Hid (((worthK c l ng).1,(worthK c l ng).2,(0:Int))=worthB c l):=Lib.hid (by unfold worthB;rw [HBV.out,if_pos rfl,hng])
 have HLA:Hid (∀ (w1:World) (k:Nat),Below W0.heap.size W0 w1→Calls Tryz.prog 60 #[.slice AL nl cL,.int .i64 (k:Int)] w1 fun e w'=>e=.returned (.bool (launchedB l k))∧Below w1.heap.size w1 w'):=Lib.hid fun w1 k hb=>by
  rw [← HNL.out]
  exact refLaunched_any w1 AL cL l (HPA.out.later hb) k
 clear hcc hpl
 simp only [campA] at hW0 ⊢
 rw [hng] at hW0 ⊢
 have c2:∀ w1,Below W0.heap.size W0 w1→w1.cell? ⟨qb,2,none⟩=some (.slice V.gA ng V.gc):=fun w1 hb=>by
  have:=(HKC.out.below hb HKC.out.lt).cell 2
  rw [← hng];exact this
 have HC2:=Lib.hid c2
 clear c2 hng
 go_enter Tryz.func21,Tryz.ntmps21
 go_upto_region 1 with (fail)
 clear hW0 hqb
 go_wp2_with (first | (refine wpLoadAt rfl 26 _ rfl qb 0 rfl (campA V c) _ HLC0.out und_camp rfl (info_campA V c) ?_))
 refine HV.out.mono ?_
 rintro e W1 ⟨rfl,hb1⟩
 have HB1:=Lib.hid hb1
 clear hb1
 go_wp2_with fail
 go_loopw [7,8,9] (fun v b i wr=>∃ (k:Nat) (vi:Int) (bi:Bool),k≤ng∧i=.int .i64 k∧v=.int .i64 vi∧b=.bool bi∧Hid (Below W0.heap.size W0 wr∧vi=(worthK c l k).1∧bi=(worthK c l k).2)) (fun _ _ i _=>ng - (intOf i).toNat)
 case atStart=>exact ⟨0,0,true,Nat.zero_le _,rfl,rfl,rfl,Lib.hid ⟨HB1.out,rfl,rfl⟩⟩
 case round =>
  obtain ⟨k,vi,bi,hk,rfl,rfl,rfl,hs⟩:=hrel
  have HB:=Lib.hid hs.out.1
  have HVI:=Lib.hid hs.out.2.1
  have HBI:=Lib.hid hs.out.2.2
  clear hs
  have h0k:(0:Int)≤(k:Int):=by omega
  have hvb:=HWB.out k
  rw [← HVI.out] at hvb
  obtain ⟨hv0,hv1⟩:=hvb
  have hv2:vi≤6442450944:=by omega
  clear hv1
  have c2:=HC2.out wr HB.out
  by_cases hlt:k<ng
  ·have hki:(k:Int)<(ng:Int):=by omega
   obtain ⟨gb,go,hga,hgb,g0,g1,g2,g3,g4,g5⟩:=Sl.at6 (HCA.out.later HB.out).cargos (i:=k) (by rw [HNG.out];exact hlt)
   dsimp only [cargoC] at g0 g1 g2 g3 g4 g5
   obtain ⟨y,hy⟩:∃ y,c.cargoN k=y:=⟨_,rfl⟩
   have HY:Hid (c.cargo (k:Int)=y):=Lib.hid hy
   rw [hy] at g0 g1 g2 g3 g4 g5
   have HGA:=Lib.hid hga
   clear hy hga
   obtain ⟨lv,hlv⟩:∃ b,launchedB l k=b:=⟨_,rfl⟩
   have hyb:=HCG.out (k:Int)
   rw [HY.out] at hyb
   obtain ⟨_,_,hy0,hy1,_⟩:=hyb
   have HCN:=Lib.hid (HLA.out wr k HB.out)
   rw [hlv] at HCN
   have HC25:Hid (∀ w1,Below wr.heap.size wr w1→w1.cell? ⟨qb,2,none⟩=some (.slice (some ⟨gb,go,none⟩) ng V.gc)∧w1.cell? ⟨gb,go+k * 6+2,none⟩=some (.int .i64 y.value)∧w1.cell? ⟨gb,go+k * 6+5,none⟩=some (.bool y.must)):=Lib.hid fun w1 hb=>by
    have hbw:=HB.out.trans (hb.mono HB.out.size)
    have hgl:gb<wr.heap.size:=by have:=HB.out.size;omega
    exact ⟨by rw [← HGA.out];exact HC2.out w1 hbw,(hb.cell (p:=⟨gb,go+k * 6+2,none⟩) hgl).trans g2,(hb.cell (p:=⟨gb,go+k * 6+5,none⟩) hgl).trans g5⟩
   have HKK:=Lib.hid (HKS.out k)
   rw [hlv,HY.out] at HKK
   clear hlv g0 g1 g2 g3 g4 g5 hgb
   go_wp2_with fail
   refine HCN.out.mono ?_
   rintro e w2 ⟨rfl,hb2⟩
   have HB2:=Lib.hid (HB.out.trans (hb2.mono HB.out.size))
   obtain ⟨d2,e2,e5⟩:=HC25.out w2 hb2
   clear hb2 c2
   cases lv with
   | true =>
    clear e5
    go_wp2_with fail
    go_roundw
    case rel=>exact ⟨k+1,_,_,by omega,by go_num,rfl,rfl,Lib.hid ⟨HB2.out,by rw [HKK.out,if_pos (by first | rfl | exact trivial),HVI.out],by rw [HKK.out,if_pos (by first | rfl | exact trivial),HBI.out]⟩⟩
    case measure=>simp [intOf];omega
   | false =>
    obtain ⟨ym,hym⟩:∃ b,y.must=b:=⟨_,rfl⟩
    rw [hym] at e5 HKK
    clear e2 hym
    cases ym with
    | true =>
     go_wp2_with fail
     go_roundw
     case rel=>exact ⟨k+1,vi,false,by omega,by go_num,rfl,rfl,Lib.hid ⟨HB2.out,by rw [HKK.out,if_neg (by decide),HVI.out],by rw [HKK.out,if_neg (by decide)];dsimp only;rw [← HBI.out];cases bi <;> rfl⟩⟩
     case measure=>simp [intOf];omega
    | false =>
     go_wp2_with fail
     go_roundw
     case rel=>exact ⟨k+1,vi,bi,by omega,by go_num,rfl,rfl,Lib.hid ⟨HB2.out,by rw [HKK.out,if_neg (by decide),HVI.out],by rw [HKK.out,if_neg (by decide)];dsimp only;rw [← HBI.out];cases bi <;> rfl⟩⟩
     case measure=>simp [intOf];omega
  ·obtain rfl:k=ng:=by omega
   have HE:Hid ((vi,bi,(0:Int))=worthB c l):=Lib.hid (by rw [HVI.out,HBI.out];exact HRB.out)
   go_wp2_with fail
   go_ret3
   exact HFIN.out _ _ _ _ HE.out (HB0.out.trans (HB.out.mono HSZ.out))
end Go.Proofs.YtcnjenlojnognaaGreat
