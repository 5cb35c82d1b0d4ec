/- What is proved: the texts Dz, one behind the other; each says at its head what it proves, and under which conditions. -/
import Derived.Test.YtcnjenlojnognaaGreatg33
/- What is proved: the contract of the document's Conflict. Conditions: the campaign lies in memory. -/
namespace Go.Proofs.YtcnjenlojnognaaGreat
open Go.RowKit

/-- The list that Conflict has found so far. -/
def OutR (w:World) (r:Option (List Int)) (v:Value):Prop:=(r=none∧v=.slice none 0 0) ∨ ∃ o A n c,r=some o∧0<n∧n=o.length∧v=.slice A n c∧IntsAt w w.heap.size A o
theorem OutR.later {w w':World} {r:Option (List Int)} {v:Value} (h:OutR w r v) (hb:Below w.heap.size w w'):OutR w' r v:=by
 rcases h with h | ⟨o,A,n,c,h1,h2,h3,h5,h4⟩
 ·exact Or.inl h
 ·exact Or.inr ⟨o,A,n,c,h1,h2,h3,h5,h4.later hb⟩
theorem mustL_take {c:CampD} {l:List Int} {q:Nat} (h:q<l.length):mustL c (l.take (q+1))=(mustL c (l.take q) && (c.cargo (numI l q)).must):=by
 unfold mustL numI
 rw [List.take_add_one,List.all_append,List.getElem?_eq_getElem h,List.getD_eq_getElem?_getD,List.getElem?_eq_getElem h]
 simp
theorem fewerB_lt {o l:List Int} (h:l.length<o.length):fewerB (some o) l=true:=by unfold fewerB;simp [h]
theorem fewerB_ne {o l:List Int} (h:¬ l.length<o.length) (h2:l.length ≠ o.length):fewerB (some o) l=false:=by unfold fewerB;simp [h,h2]
theorem fewerB_eq {o l:List Int} (h2:l.length=o.length):fewerB (some o) l=decide (ordL l o<0):=by unfold fewerB;simp [h2]
def RConfPost (c:CampD) (w:World) (e:Ending) (w':World):Prop :=
 ∃ A c',e=.returned (.tuple #[.slice A (refConfB c).1.length c',.int .i64 (refConfB c).2])∧IntsAt w' w'.heap.size A (refConfB c).1∧Below w.heap.size w w'
theorem ints_nil (w:World) (B:Nat) (A:Option Addr):IntsAt w B A []:=Sl.nil _ _ _ _ _
theorem refF_out {c:CampD} {m:Nat} (h:fewerB (refF c m) (bitsL (m+1))=false ∨ mustL c (bitsL (m+1))=false ∨ (bestB (withB c (bitsL (m+1)))).isSome=true):refF c (m+1)=refF c m:=by
 rw [refF_succ]
 unfold stepC refQ
 rw [if_neg]
 rcases h with h | h | h <;> rw [h] <;> simp
theorem refF_in {c:CampD} {m:Nat} (h1:fewerB (refF c m) (bitsL (m+1))=true) (h2:mustL c (bitsL (m+1))=true) (h3:(bestB (withB c (bitsL (m+1)))).isSome=false):refF c (m+1)=some (bitsL (m+1)):=by
 rw [refF_succ]
 unfold stepC refQ
 rw [if_pos]
 rw [h1,h2,h3];rfl
set_option maxRecDepth 100000 in
set_option maxHeartbeats 32000000 in
theorem refConflict_any (w:World) (V:CV) (c:CampD) (h:CampAt w w.heap.size V c) :
  Calls Tryz.prog 30 #[.agg (campA V c)] w (RConfPost c w):=by
 obtain ⟨qb,hqb⟩:∃ qb,w.heap.size=qb:=⟨_,rfl⟩
 obtain ⟨W0,hW0⟩:∃ W0,w.alloc (.cells (campA V c) 26)=W0:=⟨_,rfl⟩
 have hb0:Below w.heap.size w W0:=by rw [← hW0];exact (Below.refl _ w).alloc (Nat.le_refl _) _
 have HB0:Hid (Below qb w W0):=Lib.hid (by rw [← hqb];exact hb0)
 have HKC:Hid (Bk W0 qb 26 (campA V c)):=Lib.hid (by rw [← hW0,← hqb];exact Bk.new _ _ _)
 have HSZ:Hid (qb≤W0.heap.size):=Lib.hid (by have:=HKC.out.lt;omega)
 have HCA:=Lib.hid (h.later hb0)
 have HCW:Hid (∀ w1,Below W0.heap.size W0 w1→CampAt w1 w1.heap.size V c):=Lib.hid fun w1 hb=>HCA.out.later hb
 have HLC:Hid (∀ w1,Below W0.heap.size W0 w1→∀ j u,(campA V c)[j]?=some u→w1.cell? ⟨qb,0+j,none⟩=some u):=Lib.hid fun w1 hb j u hj=>by rw [Nat.zero_add,(HKC.out.below hb HKC.out.lt).cell];exact hj
 have HLC0:=Lib.hid (HLC.out W0 (Below.refl _ _))
 obtain ⟨nc,hnc⟩:∃ n,c.crafts.length=n:=⟨_,rfl⟩
 obtain ⟨np,hnp⟩:∃ n,c.pads.length=n:=⟨_,rfl⟩
 obtain ⟨ng,hng⟩:∃ n,c.cargos.length=n:=⟨_,rfl⟩
 have HNG:=Lib.hid hng
 have HCE:Hid (campA V c=#[.slice V.cA nc V.cc,.slice V.pA np V.pc,.slice V.gA ng V.gc,.int .i64 c.margin]):=Lib.hid (by rw [← hnc,← hnp,← hng];rfl)
 have HCB:Hid (∀ w1,Below W0.heap.size W0 w1→w1.cell? ⟨qb,0,none⟩=some (.slice V.cA nc V.cc)∧w1.cell? ⟨qb,1,none⟩=some (.slice V.pA np V.pc)∧w1.cell? ⟨qb,2,none⟩=some (.slice V.gA ng V.gc)∧w1.cell? ⟨qb,3,none⟩=some (.int .i64 c.margin)):=Lib.hid fun w1 h1=>by
  rw [← hnc,← hnp,← hng]
  exact ⟨HLC.out w1 h1 0 _ rfl,HLC.out w1 h1 1 _ rfl,HLC.out w1 h1 2 _ rfl,HLC.out w1 h1 3 _ rfl⟩
 obtain ⟨er,her⟩:∃ x,(bstB c).2=x:=⟨_,rfl⟩
 have HER:Hid ((campB c=false∧er=2) ∨ (campB c=true∧(bestB c).isSome=true∧er=0) ∨ (campB c=true∧(bestB c).isSome=false∧er=7)):=Lib.hid (by
  rw [← her]
  cases hc:campB c with
  | false=>exact Or.inl ⟨rfl,by unfold bstB;rw [hc];rfl⟩
  | true =>
   rw [bst_some hc]
   cases (bestB c).isSome with
   | true=>exact Or.inr (Or.inl ⟨rfl,rfl,rfl⟩)
   | false=>exact Or.inr (Or.inr ⟨rfl,rfl,rfl⟩))
 have hbe:=refBest_any W0 V c HCA.out
 unfold RBestPost at hbe
 rw [her] at hbe
 have HBE:=Lib.hid hbe
 obtain ⟨PQ,hPQ⟩:∃ Q,RConfPost c w=Q:=⟨_,rfl⟩
 have HFIN:Hid (∀ (A:Option Addr) (l:List Int) (n c':Nat) (er:Int) (w':World),refConfB c=(l,er)→n=l.length→IntsAt w' w'.heap.size A l→Below W0.heap.size W0 w'→PQ (.returned (.tuple #[.slice A n c',.int .i64 er])) w'):=Lib.hid fun A l n c' er w' h1 h2 h3 h4=>by
  subst h2
  rw [← hPQ];unfold RConfPost;rw [h1,hqb];exact ⟨A,c',rfl,h3,HB0.out.trans (h4.mono HSZ.out)⟩
 rw [hPQ]
 clear h hb0 her hbe hPQ hnc hnp hng
 simp only [campA] at hW0 ⊢
 go_enter Tryz.func30,Tryz.ntmps30
 go_upto_region 1 with (fail)
 clear hW0 hqb
 go_wp2_with (first | (refine wpLoadAt rfl 26 _ rfl qb 0 rfl (campA V c) _ HLC0.out und_camp rfl (info_campA V c) ?_))
 refine HBE.out.mono ?_
 rintro e W1 ⟨A1,n1,c1,rfl,_,_,_,hb1⟩
 have HB1:=Lib.hid hb1
 clear hb1
 rcases HER.out with ⟨h1,h2⟩ | ⟨h1,h2,h3⟩ | ⟨h1,h2,h3⟩
 ·subst h2
  have HF:=Lib.hid (HFIN.out none [] 0 0 2 W1 (by unfold refConfB;rw [if_pos h1]) rfl (ints_nil _ _ _) HB1.out)
  clear h1
  go_wp2_with fail
  first | exact HF.out | (go_ret2;exact HF.out)
 ·subst h3
  have HF:=Lib.hid (HFIN.out none [] 0 0 7 W1 (by unfold refConfB;rw [if_neg (by rw [h1];decide),if_pos h2]) rfl (ints_nil _ _ _) HB1.out)
  clear h1 h2
  go_wp2_with fail
  first | exact HF.out | (go_ret2;exact HF.out)
 subst h3
 have HCC:=Lib.hid h1
 have HNB:=Lib.hid h2
 have hlen:=camp_len h1
 rw [HNG.out] at hlen
 have HAR:Hid (1≤ng∧ng≤6):=Lib.hid ⟨hlen.2.2.2.2.1,hlen.2.2.2.2.2.1⟩
 have HCV:Hid (refConfB c=((refF c (2 ^ ng - 1)).getD [],0)):=Lib.hid (by unfold refConfB;rw [if_neg (by rw [h1];decide),if_neg (by rw [h2];decide),HNG.out])
 clear h1 h2 hlen
 have hng6:ng≤6:=HAR.out.2
 go_wp2_with fail
 go_loopw [7,8] (fun av iv wr=>∃ (z:Int) (q:Nat),q≤ng∧av=.int .i64 z∧iv=.int .i64 (q:Int)∧Hid (z=((2 ^ q:Nat):Int))∧Hid (Below W0.heap.size W0 wr)) (fun _ iv _=>ng - (intOf iv).toNat)
 case atStart=>exact ⟨1,0,Nat.zero_le _,rfl,rfl,Lib.hid (by simp),HB1⟩
 case round =>
  obtain ⟨z,q,hq,rfl,rfl,HZ,HSL⟩:=hrel
  have h0q:(0:Int)≤(q:Int):=by omega
  obtain ⟨p0,p1,p2,p3⟩:=HCB.out wr HSL.out
  by_cases hlt:q<ng
  case pos =>
   have hqi:(q:Int)<(ng:Int):=by omega
   have hzb:0≤z∧z≤64:=by
    obtain ⟨pw,hpw⟩:∃ x:Nat,2 ^ q=x:=⟨_,rfl⟩
    have h1:pw≤64:=by rw [← hpw];exact Nat.pow_le_pow_right (by decide) (by have:=HAR.out;omega:q≤6)
    have h2:=HZ.out
    rw [hpw] at h2
    omega
   have hws:IntKind.i64.wrap (2 * z)=2 * z:=IntWalk.i64_in _ (by omega)
   have HZ2:Hid (2 * z=((2 ^ (q+1):Nat):Int)):=Lib.hid (by
    rw [HZ.out,Nat.pow_succ]
    obtain ⟨pw,hpw⟩:∃ x:Nat,2 ^ q=x:=⟨_,rfl⟩
    rw [hpw];omega)
   go_wp2_with fail
   go_roundw
   case rel=>exact ⟨2 * z,q+1,by omega,rfl,by go_num,HZ2,HSL⟩
   case measure=>simp [intOf];omega
  case neg =>
   obtain rfl:q=ng:=by omega
   obtain ⟨al,hal⟩:∃ al:Nat,2 ^ q=al:=⟨_,rfl⟩
   have hz:=HZ.out
   rw [hal] at hz
   subst hz
   have HAL:=Lib.hid hal
   have hal1:1≤al:=by rw [← hal];exact Nat.one_le_two_pow
   have hal64:al≤64:=by rw [← hal];exact Nat.pow_le_pow_right (by decide) (by have:=HAR.out;omega:q≤6)
   clear hal HZ
   obtain ⟨W5,rfl⟩:∃ W:World,W=wr:=⟨_,rfl⟩
   go_wp2_with fail
   clear p0 p1 p2 p3
   go_loopw [6,9] (fun ov bv wr=>∃ (m:Nat) (v1:Value),1≤m∧m≤al∧ov=v1∧bv=.int .i64 (m:Int)∧Hid (Below W0.heap.size W0 wr)∧Hid (OutR wr (refF c (m - 1)) v1)) (fun _ bv _=>al - (intOf bv).toNat)
   case atStart=>exact ⟨1,_,Nat.le_refl _,hal1,rfl,rfl,HSL,Lib.hid (Or.inl ⟨rfl,rfl⟩)⟩
   case round =>
    obtain ⟨m,v1,hm1,hma,hov,rfl,HBO,HOR⟩:=hrel
    have hov2:=hov.symm
    clear hov
    subst hov2
    have h0m:(0:Int)≤(m:Int):=by omega
    obtain ⟨W6,rfl⟩:∃ W:World,W=wr:=⟨_,rfl⟩
    by_cases hmt:m<al
    case neg =>
     obtain rfl:m=al:=by omega
     have HCV2:Hid (refConfB c=((refF c (m - 1)).getD [],0)):=Lib.hid (by rw [HCV.out,HAL.out])
     rcases HOR.out with ⟨h1,h2⟩ | ⟨ol,A,no,c',h1,_,h6,h3,h4⟩
     ·subst h2
      have HF:=Lib.hid (HFIN.out none [] 0 0 0 W6 (by rw [HCV2.out,h1];rfl) rfl (ints_nil _ _ _) HBO.out)
      clear h1
      go_wp2_with fail
      first | exact HF.out | (go_ret2;exact HF.out)
     ·subst h3
      have HF:=Lib.hid (HFIN.out A ol no c' 0 W6 (by rw [HCV2.out,h1];rfl) h6 h4 HBO.out)
      clear h1 h4 h6
      go_wp2_with fail
      first | exact HF.out | (go_ret2;exact HF.out)
    case pos =>
     have hmi:(m:Int)<(al:Int):=by omega
     obtain ⟨bl,hbl⟩:∃ l,bitsL m=l:=⟨_,rfl⟩
     have HBL:=Lib.hid hbl
     obtain ⟨nb,hnb⟩:∃ n,bl.length=n:=⟨_,rfl⟩
     have HNBL:=Lib.hid hnb
     have hnb6:nb≤6:=by rw [← hnb,← hbl];exact bits_len6 m
     have hm64:m<64:=by omega
     have hm2:m<2 ^ c.cargos.length:=by rw [HNG.out,HAL.out];exact hmt
     have HRNG:Hid (∀ i ∈ bl,0≤i∧i<(q:Int)):=Lib.hid fun i hi=>by
      rw [← hbl] at hi
      have:=bits_rng hm2 i hi
      rw [HNG.out] at this;exact this
     have HBP:Hid (0<nb):=Lib.hid (by rw [← hnb,← hbl];exact bitsL_pos hm64 (by omega))
     have HLG:Hid (Calls Tryz.prog 72 #[.int .i64 (m:Int)] W6 fun e w'=>∃ A n,e=.returned (.slice A nb n)∧IntsO w' 0 A bl∧Below W6.heap.size W6 w'):=Lib.hid (by
      refine (cargos_any W6 m hm64).mono fun e w' ⟨v,he,hv,hb⟩=>?_
      obtain ⟨A,n,rfl,_,hi⟩:=hv.intsO (by have:=bits_len6 m;omega)
      rw [hbl] at he hi
      rw [hnb] at he
      exact ⟨A,n,he,hi.mono (Nat.zero_le _),hb⟩)
     have HCN:Hid (∀ w1 A n,Below W0.heap.size W0 w1→IntsO w1 0 A bl→Calls Tryz.prog 74 #[.agg (campA V c),.slice A nb n] w1 fun e w'=>e=.returned (.bool (bestB (withB c bl)).isSome)∧Below w1.heap.size w1 w'):=Lib.hid fun w1 A n h1 h2=>by
      rw [← HNBL.out]
      rw [← HBL.out] at h2 ⊢
      exact refCan_any w1 V c (HCW.out w1 h1) HCC.out m (by omega) hm2 A n h2.at
     have HM1:Hid (m - 1+1=m):=Lib.hid (by omega)
     clear hbl hnb hm64 hm2
     go_wp2_with fail
     refine HLG.out.mono ?_
     rintro e W7 ⟨Al,nl,rfl,hil,hb7⟩
     have HIL:=Lib.hid hil
     have HB7:=Lib.hid (HBO.out.trans (hb7.mono HBO.out.size))
     have HO7:=Lib.hid (HOR.out.later hb7)
     obtain ⟨ga,cur,hA,_,hbk,hcur⟩:=hil.2 (by rw [HNBL.out];exact HBP.out)
     subst hA
     have HCU:Hid (∀ k,k<nb→cur[k]?=some (.int .i64 (numI bl k))):=Lib.hid fun k hk=>by
      have:=hcur k (by rw [HNBL.out];exact hk) 0 (by omega)
      simpa using this
     have HKA:=Lib.hid hbk
     clear hil hb7 hbk hcur HLG
     go_wp2_with fail
     go_loopw [11,12] (fun mv iv wr=>∃ (r:Nat) (bv:Bool),r≤nb∧mv=.bool bv∧iv=.int .i64 (r:Int)∧Hid (bv=mustL c (bl.take r))∧Hid (Below W7.heap.size W7 wr)) (fun _ iv _=>nb - (intOf iv).toNat)
     case atStart=>exact ⟨0,true,Nat.zero_le _,rfl,rfl,Lib.hid rfl,Lib.hid (Below.refl _ _)⟩
     case round =>
      obtain ⟨r,bv,hr,rfl,rfl,HBV,HBR⟩:=hrel
      obtain ⟨W8,rfl⟩:∃ W:World,W=wr:=⟨_,rfl⟩
      have h0r:(0:Int)≤(r:Int):=by omega
      by_cases hrt:r<nb
      case pos =>
       have hri:(r:Int)<(nb:Int):=by omega
       have hmem:numI bl r ∈ bl:=numI_mem (by rw [HNBL.out];exact hrt)
       have hrng:=HRNG.out _ hmem
       obtain ⟨mm,hmm⟩:∃ mm:Nat,numI bl r=(mm:Int):=⟨(numI bl r).toNat,by omega⟩
       have hmq:(mm:Int)<(q:Int):=by omega
       have h0mm:(0:Int)≤(mm:Int):=by omega
       obtain ⟨mb,hmb⟩:∃ x,(c.cargoN mm).must=x:=⟨_,rfl⟩
       have HNX:Hid (mustL c (bl.take (r+1))=(bv && mb)):=Lib.hid (by rw [mustL_take (by rw [HNBL.out];exact hrt),← HBV.out,hmm,cargo_nat,hmb])
       obtain ⟨gb,go,hgA,_⟩:=HCA.out.cargos.2 (by rw [HNG.out];omega)
       have HCL:Hid (∀ w1,Below W8.heap.size W8 w1→w1.cell? ⟨qb,2,none⟩=some (.slice (some ⟨gb,go,none⟩) q V.gc)∧w1.cell? ⟨ga,r,none⟩=some (.int .i64 (mm:Int))∧w1.cell? ⟨gb,go+mm * 6+5,none⟩=some (.bool mb)):=Lib.hid fun w1 h1=>by
        have hb1:Below W7.heap.size W7 w1:=HBR.out.trans (h1.mono HBR.out.size)
        have hb2:Below W0.heap.size W0 w1:=HB7.out.trans (hb1.mono HB7.out.size)
        refine ⟨by rw [← hgA];exact (HCB.out w1 hb2).2.2.1,?_,?_⟩
        ·rw [(HKA.out.below hb1 HKA.out.lt).cell,HCU.out r hrt,hmm]
        ·obtain ⟨b',o',e,_,hc'⟩:=(HCW.out w1 hb2).cargos.2 (by rw [HNG.out];omega)
         rw [hgA] at e
         injection e with e
         injection e with e1 e2
         subst e1 e2
         rw [hc' mm (by rw [HNG.out];omega) 5 (by omega),← hmb];rfl
       clear hmem hrng hmm hmb hgA
       cases bv with
       | false =>
        go_upto_region 20 with (fail)
        refine wp_region_steps (by kernel_rfl) (by kernel_rfl) (fun w1=>Below W8.heap.size W8 w1) (fun _ _ _=>True)
         (fun ix u _ _=>match ix with
          | 0=>u=.bool false
          | 1=>u=.bool false
          | 2=>u=undef
          | 3=>u=undef
          | 4=>u=undef
          | 5=>u=undef
          | 6=>u=undef
          | 7=>u=undef
          | 8=>u=undef
          | 9=>u=undef
          | 10=>u=undef
          | 11=>u=.bool false
          | _=>u=.bool false) (Below.refl _ _).drew (fun _ _ _ _ _ _ _ _ h _ _=>h) ?_ ?_
        ·refine ⟨?_,?_,?_,?_,?_,?_,?_,?_,?_,?_,?_,?_,?_,trivial⟩
         ·intro a w1 vs K HJ HK HD HN kk
          have e11:=HK 11 (by decide)
          go_simp;exact kk _ _ (by simp) HJ trivial rfl
         ·intro a w1 vs K HJ HK HD HN kk
          have e46:=hdE (HD 0 _ 46 rfl rfl rfl)
          go_simp;exact kk _ _ (by simp) HJ trivial rfl
         ·intro a w1 vs K HJ HK HD HN kk
          have e47:=hdE (HD 1 _ 47 rfl rfl rfl)
          rw [if_neg (wanted_no 1 true rfl rfl rfl e47)]
          exact kk undef _ (by simp) HJ trivial rfl
         ·intro a w1 vs K HJ HK HD HN kk
          have e47:=hdE (HD 1 _ 47 rfl rfl rfl)
          rw [if_neg (wanted_no 1 true rfl rfl rfl e47)]
          exact kk undef _ (by simp) HJ trivial rfl
         ·intro a w1 vs K HJ HK HD HN kk
          have e47:=hdE (HD 1 _ 47 rfl rfl rfl)
          rw [if_neg (wanted_no 1 true rfl rfl rfl e47)]
          exact kk undef _ (by simp) HJ trivial rfl
         ·intro a w1 vs K HJ HK HD HN kk
          have e47:=hdE (HD 1 _ 47 rfl rfl rfl)
          rw [if_neg (wanted_no 1 true rfl rfl rfl e47)]
          exact kk undef _ (by simp) HJ trivial rfl
         ·intro a w1 vs K HJ HK HD HN kk
          have e47:=hdE (HD 1 _ 47 rfl rfl rfl)
          rw [if_neg (wanted_no 1 true rfl rfl rfl e47)]
          exact kk undef _ (by simp) HJ trivial rfl
         ·intro a w1 vs K HJ HK HD HN kk
          have e47:=hdE (HD 1 _ 47 rfl rfl rfl)
          rw [if_neg (wanted_no 1 true rfl rfl rfl e47)]
          exact kk undef _ (by simp) HJ trivial rfl
         ·intro a w1 vs K HJ HK HD HN kk
          have e47:=hdE (HD 1 _ 47 rfl rfl rfl)
          rw [if_neg (wanted_no 1 true rfl rfl rfl e47)]
          exact kk undef _ (by simp) HJ trivial rfl
         ·intro a w1 vs K HJ HK HD HN kk
          have e47:=hdE (HD 1 _ 47 rfl rfl rfl)
          rw [if_neg (wanted_no 1 true rfl rfl rfl e47)]
          exact kk undef _ (by simp) HJ trivial rfl
         ·intro a w1 vs K HJ HK HD HN kk
          have e47:=hdE (HD 1 _ 47 rfl rfl rfl)
          rw [if_neg (wanted_no 1 true rfl rfl rfl e47)]
          exact kk undef _ (by simp) HJ trivial rfl
         ·intro a w1 vs K HJ HK HD HN kk
          have e47:=hdE (HD 1 _ 47 rfl rfl rfl)
          have e56:=hdE (HD 10 _ 56 rfl rfl rfl)
          go_simp;exact kk _ _ (by simp) HJ trivial rfl
         ·intro a w1 vs K HJ HK HD HN kk
          have e57:=hdE (HD 11 _ 57 rfl rfl rfl)
          go_simp;exact kk _ _ (by simp) HJ trivial rfl
        ·intro vs W9 hJ hrr
         have e12:vs 12=.bool false:=hrr 12 _ rfl
         have HB9:Hid (Below W7.heap.size W7 W9):=Lib.hid (HBR.out.trans (Below.mono hJ HBR.out.size))
         clear hrr hJ
         simp only [putAll,Act.put,List.setIfInBounds_toArray,List.set_cons_zero,List.set_cons_succ]
         rw [e12]
         clear e12
         go_wp2_with fail
         go_roundw
         case rel=>first | exact ⟨r+1,false,by omega,rfl,by go_num,Lib.hid (by rw [HNX.out];rfl),HB9⟩ | ((repeat apply Exists.intro);exact ⟨⟨r+1,false,by omega,rfl,by go_num,Lib.hid (by rw [HNX.out];rfl),HB9⟩,rfl⟩)
         case measure=>simp [intOf];omega
       | true =>
        go_upto_region 20 with (fail)
        refine wp_region_steps (by kernel_rfl) (by kernel_rfl) (fun w1=>Below W8.heap.size W8 w1) (fun _ _ _=>True)
         (fun ix u _ _=>match ix with
          | 0=>u=.bool true
          | 1=>u=.bool true
          | 2=>u=.pointer (some ⟨qb,2,none⟩)
          | 3=>u=.slice (some ⟨gb,go,none⟩) q V.gc
          | 4=>u=.slice (some ⟨ga,0,none⟩) nb nl
          | 5=>u=.int .i64 (r:Int)
          | 6=>u=.pointer (some ⟨ga,r,none⟩)
          | 7=>u=.int .i64 (mm:Int)
          | 8=>u=.pointer (some ⟨gb,go+mm * 6,none⟩)
          | 9=>u=.pointer (some ⟨gb,go+mm * 6+5,none⟩)
          | 10=>u=.bool mb
          | 11=>u=.bool mb
          | _=>u=.bool mb) (Below.refl _ _).drew (fun _ _ _ _ _ _ _ _ h _ _=>h) ?_ ?_
        ·refine ⟨?_,?_,?_,?_,?_,?_,?_,?_,?_,?_,?_,?_,?_,trivial⟩
         ·intro a w1 vs K HJ HK HD HN kk
          have e11:=HK 11 (by decide)
          go_simp;exact kk _ _ (by simp) HJ trivial rfl
         ·intro a w1 vs K HJ HK HD HN kk
          have e46:=hdE (HD 0 _ 46 rfl rfl rfl)
          go_simp;exact kk _ _ (by simp) HJ trivial rfl
         ·intro a w1 vs K HJ HK HD HN kk
          have e47:=hdE (HD 1 _ 47 rfl rfl rfl)
          rw [if_pos (wanted_yes 1 true rfl rfl rfl e47)]
          have e1:=HK 1 (by decide)
          go_simp;exact kk _ _ (by simp) HJ trivial rfl
         ·intro a w1 vs K HJ HK HD HN kk
          have e47:=hdE (HD 1 _ 47 rfl rfl rfl)
          rw [if_pos (wanted_yes 1 true rfl rfl rfl e47)]
          have e48:=hdE (HD 2 _ 48 rfl rfl rfl)
          have ca:w1.cell? ⟨qb,2,none⟩=some (.slice (some ⟨gb,go,none⟩) q V.gc):=(HCL.out w1 HJ).1
          go_simp;exact kk _ _ (by simp) HJ trivial rfl
         ·intro a w1 vs K HJ HK HD HN kk
          have e47:=hdE (HD 1 _ 47 rfl rfl rfl)
          rw [if_pos (wanted_yes 1 true rfl rfl rfl e47)]
          have e10:=HK 10 (by decide)
          go_simp;exact kk _ _ (by simp) HJ trivial rfl
         ·intro a w1 vs K HJ HK HD HN kk
          have e47:=hdE (HD 1 _ 47 rfl rfl rfl)
          rw [if_pos (wanted_yes 1 true rfl rfl rfl e47)]
          have e12:=HK 12 (by decide)
          go_simp;exact kk _ _ (by simp) HJ trivial rfl
         ·intro a w1 vs K HJ HK HD HN kk
          have e47:=hdE (HD 1 _ 47 rfl rfl rfl)
          rw [if_pos (wanted_yes 1 true rfl rfl rfl e47)]
          have e50:=hdE (HD 4 _ 50 rfl rfl rfl)
          have e51:=hdE (HD 5 _ 51 rfl rfl rfl)
          go_simp;exact kk _ _ (by simp) HJ trivial rfl
         ·intro a w1 vs K HJ HK HD HN kk
          have e47:=hdE (HD 1 _ 47 rfl rfl rfl)
          rw [if_pos (wanted_yes 1 true rfl rfl rfl e47)]
          have e52:=hdE (HD 6 _ 52 rfl rfl rfl)
          have ca:w1.cell? ⟨ga,r,none⟩=some (.int .i64 (mm:Int)):=(HCL.out w1 HJ).2.1
          go_simp;exact kk _ _ (by simp) HJ trivial rfl
         ·intro a w1 vs K HJ HK HD HN kk
          have e47:=hdE (HD 1 _ 47 rfl rfl rfl)
          rw [if_pos (wanted_yes 1 true rfl rfl rfl e47)]
          have e49:=hdE (HD 3 _ 49 rfl rfl rfl)
          have e53:=hdE (HD 7 _ 53 rfl rfl rfl)
          go_simp;exact kk _ _ (by simp) HJ trivial rfl
         ·intro a w1 vs K HJ HK HD HN kk
          have e47:=hdE (HD 1 _ 47 rfl rfl rfl)
          rw [if_pos (wanted_yes 1 true rfl rfl rfl e47)]
          have e54:=hdE (HD 8 _ 54 rfl rfl rfl)
          go_simp;exact kk _ _ (by simp) HJ trivial rfl
         ·intro a w1 vs K HJ HK HD HN kk
          have e47:=hdE (HD 1 _ 47 rfl rfl rfl)
          rw [if_pos (wanted_yes 1 true rfl rfl rfl e47)]
          have e55:=hdE (HD 9 _ 55 rfl rfl rfl)
          have ca:w1.cell? ⟨gb,go+mm * 6+5,none⟩=some (.bool mb):=(HCL.out w1 HJ).2.2
          go_simp;exact kk _ _ (by simp) HJ trivial rfl
         ·intro a w1 vs K HJ HK HD HN kk
          have e47:=hdE (HD 1 _ 47 rfl rfl rfl)
          have e56:=hdE (HD 10 _ 56 rfl rfl rfl)
          go_simp;exact kk _ _ (by simp) HJ trivial rfl
         ·intro a w1 vs K HJ HK HD HN kk
          have e57:=hdE (HD 11 _ 57 rfl rfl rfl)
          go_simp;exact kk _ _ (by simp) HJ trivial rfl
        ·intro vs W9 hJ hrr
         have e12:vs 12=.bool mb:=hrr 12 _ rfl
         have HB9:Hid (Below W7.heap.size W7 W9):=Lib.hid (HBR.out.trans (Below.mono hJ HBR.out.size))
         clear hrr hJ
         simp only [putAll,Act.put,List.setIfInBounds_toArray,List.set_cons_zero,List.set_cons_succ]
         rw [e12]
         clear e12
         go_wp2_with fail
         go_roundw
         case rel=>first | exact ⟨r+1,mb,by omega,rfl,by go_num,Lib.hid (by rw [HNX.out];cases mb <;> rfl),HB9⟩ | ((repeat apply Exists.intro);exact ⟨⟨r+1,mb,by omega,rfl,by go_num,Lib.hid (by rw [HNX.out];cases mb <;> rfl),HB9⟩,rfl⟩)
         case measure=>simp [intOf];omega
      case neg =>
       obtain rfl:r=nb:=by omega
       have HMU:Hid (mustL c bl=bv):=Lib.hid (by rw [HBV.out,List.take_of_length_le (by rw [HNBL.out];exact Nat.le_refl r)])
       obtain ⟨fe,hfe⟩:∃ x,fewerB (refF c (m - 1)) bl=x:=⟨_,rfl⟩
       have HFE:=Lib.hid hfe
       clear hfe HBV
       go_upto_region 21 with (fail)
       go_cut [13] (fun v13 w'=>v13=.bool fe∧Hid (Below W7.heap.size W7 w'))
       case first =>
        rcases HO7.out with ⟨h1,h2⟩ | ⟨ol,A,no,c',h1,hop,h6,h3,h4⟩
        ·subst h2
         have h5:fe=true:=by rw [← HFE.out,h1];rfl
         subst h5
         clear h1
         go_wp2_with fail
         go_meet
         case rel=>exact ⟨rfl,HBR⟩
        ·subst h3
         have HRO:=Lib.hid h1
         have HOI:=Lib.hid (h4.later HBR.out)
         have HNO:Hid (ol.length=no):=Lib.hid h6.symm
         have hz:((no:Int) == 0)=false:=by rw [beq_eq_false_iff_ne];omega
         have hz2:(no == 0)=false:=by rw [beq_eq_false_iff_ne];omega
         clear h1 h4 h6
         by_cases hl:r<no
         ·have h5:fe=true:=by rw [← HFE.out,HRO.out];exact fewerB_lt (by rw [HNBL.out,HNO.out];exact hl)
          subst h5
          have hd1:decide ((r:Int)<(no:Int))=true:=decide_eq_true (by omega)
          have hd2:(r:Int)<(no:Int):=by omega
          go_wp2_with fail
          go_meet
          case rel=>exact ⟨rfl,HBR⟩
         ·have hd1:decide ((r:Int)<(no:Int))=false:=decide_eq_false (by omega)
          have hd2:¬ (r:Int)<(no:Int):=by omega
          have hd4:decide (r<no)=false:=decide_eq_false hl
          by_cases he:r=no
          ·subst he
           have HOC:Hid (Calls Tryz.prog 73 #[.slice (some ⟨ga,0,none⟩) r nl,.slice A r c'] W8 fun e w'=>e=.returned (.int .i64 (ordL bl ol))∧Below W8.heap.size W8 w'):=Lib.hid (by
            have hab:=(HIL.out.later HBR.out).at
            have:=order_any W8 (some ⟨ga,0,none⟩) A nl c' bl ol hab HOI.out
            rw [HNBL.out,HNO.out] at this
            exact this)
           obtain ⟨ox,hox⟩:∃ x,ordL bl ol=x:=⟨_,rfl⟩
           have HFO:Hid (decide (ox<0)=fe):=Lib.hid (by rw [← HFE.out,HRO.out,fewerB_eq (by rw [HNBL.out,HNO.out]),hox])
           rw [hox] at HOC
           clear hox hl
           go_wp2_with fail
           refine HOC.out.mono ?_
           rintro e W9 ⟨rfl,hb9⟩
           have HB9:Hid (Below W7.heap.size W7 W9):=Lib.hid (HBR.out.trans (hb9.mono HBR.out.size))
           clear hb9
           go_wp2_with fail
           go_meet
           case rel=>exact ⟨by rw [HFO.out],HB9⟩
          ·have hd3:((r:Int) == (no:Int))=false:=by rw [beq_eq_false_iff_ne];omega
           have hd5:(r == no)=false:=by rw [beq_eq_false_iff_ne];exact he
           have h5:fe=false:=by rw [← HFE.out,HRO.out];exact fewerB_ne (by rw [HNBL.out,HNO.out];exact hl) (by rw [HNBL.out,HNO.out];exact he)
           subst h5
           clear hl he
           go_wp2_with fail
           go_meet
           case rel=>exact ⟨rfl,HBR⟩
       case rest =>
       obtain ⟨rfl,HBC⟩:=hcut
       obtain ⟨Wc,rfl⟩:∃ W:World,W=wc:=⟨_,rfl⟩
       clear HBR
       have HBC0:Hid (Below W0.heap.size W0 Wc):=Lib.hid (HB7.out.trans (HBC.out.mono HB7.out.size))
       have HOC:=Lib.hid (HO7.out.later HBC.out)
       have HIC:=Lib.hid (HIL.out.later HBC.out)
       cases bv with
       | false =>
        have HON:Hid (OutR Wc (refF c (m+1 - 1)) v1):=Lib.hid (by
         have e:=refF_out (c:=c) (m:=m - 1) (Or.inr (Or.inl (by rw [HM1.out,HBL.out];exact HMU.out)))
         rw [HM1.out] at e
         rw [show m+1 - 1=m from by omega,e];exact HOC.out)
        go_wp2_with fail
        go_roundw
        case rel=>first | exact ⟨m+1,_,by omega,by omega,rfl,by go_num,HBC0,HON⟩ | ((repeat apply Exists.intro);exact ⟨⟨m+1,_,by omega,by omega,rfl,by go_num,HBC0,HON⟩,rfl⟩)
        case measure=>simp [intOf];omega
       | true =>
        cases fe with
        | false =>
         have HON:Hid (OutR Wc (refF c (m+1 - 1)) v1):=Lib.hid (by
          have e:=refF_out (c:=c) (m:=m - 1) (Or.inl (by rw [HM1.out,HBL.out];exact HFE.out))
          rw [HM1.out] at e
          rw [show m+1 - 1=m from by omega,e];exact HOC.out)
         go_wp2_with fail
         go_roundw
         case rel=>first | exact ⟨m+1,_,by omega,by omega,rfl,by go_num,HBC0,HON⟩ | ((repeat apply Exists.intro);exact ⟨⟨m+1,_,by omega,by omega,rfl,by go_num,HBC0,HON⟩,rfl⟩)
         case measure=>simp [intOf];omega
        | true =>
         obtain ⟨k0,k1,k2,k3⟩:=HCB.out Wc HBC0.out
         obtain ⟨cn,hcn⟩:∃ x,(bestB (withB c bl)).isSome=x:=⟨_,rfl⟩
         have hcall:=HCN.out Wc (some ⟨ga,0,none⟩) nl HBC0.out HIC.out
         rw [hcn,HCE.out] at hcall
         have HCX:=Lib.hid hcall
         have HCN2:=Lib.hid hcn
         clear hcall hcn
         go_wp2_with fail
         refine HCX.out.mono ?_
         rintro e W9 ⟨rfl,hb9⟩
         have HB9:Hid (Below W0.heap.size W0 W9):=Lib.hid (HBC0.out.trans (hb9.mono HBC0.out.size))
         have HO9:=Lib.hid (HOC.out.later hb9)
         have HI9:=Lib.hid (HIC.out.later hb9)
         clear hb9 k0 k1 k2 k3
         cases cn with
         | true =>
          have HON:Hid (OutR W9 (refF c (m+1 - 1)) v1):=Lib.hid (by
           have e:=refF_out (c:=c) (m:=m - 1) (Or.inr (Or.inr (by rw [HM1.out,HBL.out];exact HCN2.out)))
           rw [HM1.out] at e
           rw [show m+1 - 1=m from by omega,e];exact HO9.out)
          go_wp2_with fail
          go_roundw
          case rel=>first | exact ⟨m+1,_,by omega,by omega,rfl,by go_num,HB9,HON⟩ | ((repeat apply Exists.intro);exact ⟨⟨m+1,_,by omega,by omega,rfl,by go_num,HB9,HON⟩,rfl⟩)
          case measure=>simp [intOf];omega
         | false =>
          have HON:Hid (OutR W9 (refF c (m+1 - 1)) (.slice (some ⟨ga,0,none⟩) r nl)):=Lib.hid (by
           have e:=refF_in (c:=c) (m:=m - 1) (by rw [HM1.out,HBL.out];exact HFE.out) (by rw [HM1.out,HBL.out];exact HMU.out) (by rw [HM1.out,HBL.out];exact HCN2.out)
           rw [HM1.out,HBL.out] at e
           rw [show m+1 - 1=m from by omega,e]
           exact Or.inr ⟨bl,_,_,_,rfl,HBP.out,HNBL.out.symm,rfl,HI9.out.at⟩)
          go_wp2_with fail
          go_roundw
          case rel=>first | exact ⟨m+1,_,by omega,by omega,rfl,by go_num,HB9,HON⟩ | ((repeat apply Exists.intro);exact ⟨⟨m+1,_,by omega,by omega,rfl,by go_num,HB9,HON⟩,rfl⟩)
          case measure=>simp [intOf];omega
end Go.Proofs.YtcnjenlojnognaaGreat
