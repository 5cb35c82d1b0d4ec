/- What is proved: the texts Ao Ap Aq Da Db Dc, one behind the other; each says at its head what it proves, and under which conditions. -/
import Derived.Test.YtcnjenlojnognaaGreatg5
/- What is proved: a contract of campaign.best. Conditions: the campaign is valid and lies in memory. -/
namespace Go.Proofs.YtcnjenlojnognaaGreat
open Go.RowKit Go.Shelf Go.Maps
attribute [local go_sem] Oper.semAt_some

theorem zero_sets (w:World):(zeroValue 112).run Tryz.prog w=.ok (.slice none 0 0) w:=by kernel_rfl
theorem infoS:(Tryz.prog.info? 94).map (fun i=>(i.zero,i.size,i.bytes))=some (some (.int .u64 0),1,8):=by kernel_rfl
theorem infoZ:(Tryz.prog.info? 3).map (fun i=>(i.zero,i.size,i.bytes))=some (some (.int .i64 0),1,8):=by kernel_rfl
theorem row_sl {w:World} {B:Nat} {v:Value} {L:List Nat} (h:w.ownsRow B 94 1 v L.length (rowU L)) (h0:0<L.length) (hn:L.length≤4096):∃ A c,v=.slice A L.length c∧Sl w w.heap.size 1 A L.length fun i _=>.int .u64 (L.getD i 0:Nat):=by
 rcases h.2 with ⟨_,e⟩ | ⟨g,cap,cur,rfl,_,hg,h1,_,h3,h4⟩
 ·omega
 ·refine ⟨_,cap,rfl,by omega,fun _=>⟨g,0,rfl,Bk.lt (t:=94) hg,fun i hi j hj=>?_⟩⟩
  obtain rfl:j=0:=by omega
  rw [Bk.cell (t:=94) hg]
  have h5:(cur.toList.take (L.length * 1))[i]?=(rowU L)[i]?:=by rw [h4]
  rw [List.getElem?_take_of_lt (by omega),Array.getElem?_toList] at h5
  rw [show 0+i * 1+0=i from by omega,h5]
  unfold rowU
  rw [List.getElem?_map,List.getElem?_eq_getElem hi]
  simp [List.getD_eq_getElem?_getD,List.getElem?_eq_getElem hi]
theorem row_ints {w:World} {B:Nat} {v:Value} {l:List Int} (h:w.ownsRow B 3 1 v l.length (rowsI l)) (h0:0<l.length):∃ g cap cur,v=.slice (some ⟨g,0,none⟩) l.length cap∧B≤g∧Bk w g 3 cur∧l.length≤cap∧∀ i,i<l.length→cur[i]?=some (.int .i64 (numI l i)):=by
 rcases h.2 with ⟨_,e⟩ | ⟨g,cap,cur,rfl,h0,hg,h1,_,h3,h4⟩
 ·omega
 ·refine ⟨g,cap,cur,rfl,h0,hg,h1,fun i hi=>?_⟩
  have h5:(cur.toList.take (l.length * 1))[i]?=(rowsI l)[i]?:=by rw [h4]
  rw [List.getElem?_take_of_lt (by omega),Array.getElem?_toList] at h5
  rw [h5]
  have:=rowsL_get l.length 1 (fun i _=>Value.int .i64 (numI l i)) i 0 hi (by omega)
  rw [show i * 1+0=i from by omega] at this
  exact this
theorem sortB_num (l:List Int):∀ i,i<l.length→numI (sortB l) i ∈ l:=fun i hi=>by
 have hl:=sortB_len l
 unfold numI
 rw [List.getD_eq_getElem?_getD,List.getElem?_eq_getElem (by omega),Option.getD_some]
 exact (sortB_perm l).mem_iff.1 (List.getElem_mem _)
set_option maxRecDepth 100000 in
set_option maxHeartbeats 16000000 in
theorem best_any (w:World) (V:CV) (c:CampD) (h:CampAt w w.heap.size V c) (hc:campB c=true) :
  Calls Tryz.prog 65 #[.agg (campA V c)] w (LeastPost (bestB c) w):=by
 obtain ⟨qb,hqb⟩:∃ qb,w.heap.size=qb:=⟨_,rfl⟩
 obtain ⟨W0,hW0⟩:∃ W0,((w.alloc (.cells (campA V c) 26)).alloc (.cells #[.slice none 0 0] 27)).alloc (.cells #[.bool false] 4)=W0:=⟨_,rfl⟩
 have hb0:Below w.heap.size w W0:=by rw [← hW0];exact (((Below.refl _ w).alloc (Nat.le_refl _) _).alloc (by simp) _).alloc (by simp;omega) _
 have HB0:Hid (Below qb w W0):=Lib.hid (by rw [← hqb];exact hb0)
 have HKC:Hid (Bk W0 qb 26 (campA V c)):=Lib.hid (by rw [← hW0,← hqb];exact ((Bk.new _ _ _).alloc _).alloc _)
 have HKP:Hid (Bk W0 (qb+1) 27 #[.slice none 0 0]):=Lib.hid (by rw [← hW0,← hqb];exact (Bk.newAt _ _ _ _ (by simp)).alloc _)
 have HKF:Hid (Bk W0 (qb+1+1) 4 #[.bool false]):=Lib.hid (by rw [← hW0,← hqb];exact Bk.newAt _ _ _ _ (by simp))
 have hsz0:W0.heap.size=qb+3:=by rw [← hW0,← hqb];simp
 obtain ⟨Bs,hBs⟩:∃ B,W0.heap.size=B:=⟨_,rfl⟩
 have HBS:=Lib.hid hBs
 have hBq:Bs=qb+3:=by omega
 have HCA:=Lib.hid (h.later hb0)
 rw [hBs] at HCA
 have HLC:Hid (∀ w1,Below Bs W0 w1→∀ j u,(campA V c)[j]?=some u→w1.cell? ⟨qb,0+j,none⟩=some u):=Lib.hid fun w1 hb j u hj=>by rw [Nat.zero_add,(HKC.out.below hb (by omega)).cell];exact hj
 have HCL:Hid (∀ w1,Below Bs W0 w1→CampAt w1 w1.heap.size V c):=Lib.hid fun w1 hb=>(HCA.out.below hb).mono (by have:=hb.size;omega)
 obtain ⟨PQ,hPQ⟩:∃ Q,LeastPost (bestB c) w=Q:=⟨_,rfl⟩
 have HFIN:Hid (∀ A n c' w',n=((bestB c).getD []).length→n≤c'→PlanO w' qb A ((bestB c).getD [])→Below qb w w'→PQ (.returned (.tuple #[.slice A n c',.bool (bestB c).isSome])) w'):=Lib.hid fun A n c' w' h1 h2 h3 h4=>by
  rw [← hPQ];exact ⟨A,n,c',rfl,h1,h2,by rw [hqb];exact h3,by rw [hqb];exact h4⟩
 have HC:=Lib.hid hc
 have hlen:=camp_len hc
 obtain ⟨ng,hng⟩:∃ ng,c.cargos.length=ng:=⟨_,rfl⟩
 have HNG:=Lib.hid hng
 have hng6:ng≤6:=by omega
 have hng1:1≤ng:=by omega
 obtain ⟨gb,go,hgA,hgb,hgc⟩:=HCA.out.cargos.2 (by omega)
 have HCV:Hid (∀ w1,Below Bs W0 w1→w1.cell? ⟨qb,2,none⟩=some (.slice (some ⟨gb,go,none⟩) ng V.gc)∧∀ i,i<ng→∀ j u,(cargoA (c.cargoN i))[j]?=some u→w1.cell? ⟨gb,go+i * 6+j,none⟩=some u):=Lib.hid fun w1 hb=>by
  refine ⟨?_,fun i hi j u hj=>?_⟩
  ·rw [← HNG.out,← hgA];exact (HKC.out.below hb (by omega)).cell 2
  ·rw [hb.cell (p:=⟨gb,go+i * 6+j,none⟩) hgb]
   exact cargo_cell hgc (by rw [HNG.out];exact hi) j u hj
 have hmm:=@run_makeMap Tryz.prog
 rw [hPQ]
 clear h hb0 hPQ hgA hgc hlen hc
 refine (callsIn_wide (n:=6)).1 ?_
 refine callsIn_of_wp_marks Tryz.func65 rfl trivial ?_ rfl
 simp only [Tryz.ntmps65,List.size_toArray,List.length_cons,List.length_nil,Nat.reduceAdd,Nat.reduceSub,Array.replicate_succ,Array.replicate_zero,List.push_toArray,List.append_toArray,List.nil_append,List.cons_append]
 simp only [campA] at hW0 ⊢
 rw [hng] at hW0 ⊢
 gi_upto_region 1 with (fail)
 clear hW0 hqb hng
 obtain ⟨k2,_⟩:=HCV.out W0 (Below.refl _ _)
 gi_wp2_with fail
 gi_loopw [4,18] (fun mv iv wr=>Hid (Below Bs W0 wr)∧∃ i:Nat,i≤ng∧iv=.int .i64 i∧mv=.int .u64 (mustK c i:Nat)) (fun _ iv _=>ng - (intOf iv).toNat)
 case atStart=>exact ⟨Lib.hid (Below.refl _ _),0,Nat.zero_le _,rfl,rfl⟩
 case round =>
  obtain ⟨wo,rfl⟩:∃ wo:World,wo=wr:=⟨_,rfl⟩
  obtain ⟨HB,i,hi,rfl,rfl⟩:=hrel
  have h0i:(0:Int)≤(i:Int):=by omega
  have hm64:mustK c i<64:=Nat.lt_of_lt_of_le (mustK_lt c i) (Nat.pow_le_pow_right (by omega) (by omega:i≤6))
  by_cases hlt:i<ng
  ·have hii:(i:Int)<(ng:Int):=by omega
   obtain ⟨q,hq⟩:∃ q,wo.heap.size=q:=⟨_,rfl⟩
   have HKB:Hid (Bk (wo.alloc (.cells zeroCg 54)) q 54 zeroCg):=Lib.hid (by rw [← hq];exact Bk.new _ _ _)
   have HCG:Hid (∀ j u,(cargoA (c.cargoN i))[j]?=some u→wo.cell? ⟨gb,go+i * 6+j,none⟩=some u):=Lib.hid ((HCV.out wo HB.out).2 i hlt)
   have HOR:=Lib.hid (orBit_one hm64 (by omega:i<6))
   have hwq:Bs≤q:=by have:=HB.out.size;have:=HBS.out;omega
   gi_upto_region 5 with (first | (refine wpLoadAtW rfl 54 _ rfl gb (go+i * 6) rfl (cargoA (c.cargoN i)) _ HCG.out und_cargo rfl (info_cargoA _) ?_) | (refine wpStoreAtW rfl rfl 54 _ _ rfl q 0 rfl (cargoA (c.cargoN i)) rfl 54 _ HKB.out (by show 0+6≤6;omega) (cargoA_one _) (info_cargoA _) ?_;intro wf hkf hof))
   rw [splA_all zeroCg (cargoA (c.cargoN i)) rfl] at hkf
   have HBF:Hid (Below Bs W0 wf):=Lib.hid (HB.out.trans ((((Below.refl _ wo).alloc (Nat.le_refl _) _).trans (hof.below (by omega))).mono (by omega)))
   obtain ⟨mu,hmu⟩:∃ b,(c.cargoN i).must=b:=⟨_,rfl⟩
   have k5:wf.cell? ⟨q,5,none⟩=some (.bool mu):=by rw [hkf.cell,← hmu];rfl
   have HMU:Hid (mustK c (i+1)=if mu=true then mustK c i ||| (1 <<< i) else mustK c i):=Lib.hid (by rw [mustK_succ,cargo_nat,hmu])
   clear hkf hof hmu HKB HCG hq hwq
   cases mu with
   | true =>
    gi_wp2_with fail
    go_roundw
    case rel=>first | exact ⟨HBF,i+1,by omega,by go_num,by rw [HMU.out,if_pos rfl,HOR.out]⟩ | ((repeat apply Exists.intro);exact ⟨⟨HBF,i+1,by omega,by go_num,by rw [HMU.out,if_pos rfl,HOR.out]⟩,rfl⟩)
    case measure=>simp [intOf];omega
   | false =>
    gi_wp2_with fail
    go_roundw
    case rel=>first | exact ⟨HBF,i+1,by omega,by go_num,by rw [HMU.out,if_neg (by decide)]⟩ | ((repeat apply Exists.intro);exact ⟨⟨HBF,i+1,by omega,by go_num,by rw [HMU.out,if_neg (by decide)]⟩,rfl⟩)
    case measure=>simp [intOf];omega
  ·obtain rfl:i=ng:=by omega
   obtain ⟨ms,hms⟩:∃ m,mustK c i=m:=⟨_,rfl⟩
   have HMS:Hid (mustS c=ms):=Lib.hid (by rw [mustS_eq,HNG.out];exact hms)
   rw [hms] at hm64 ⊢
   obtain ⟨bm,hbm⟩:∃ b,wo.heap.size=b:=⟨_,rfl⟩
   have hbmB:Bs≤bm:=by have:=HB.out.size;have:=HBS.out;omega
   have HBY0:Hid (ByR (wo.alloc (.map #[] 0)) Bs bm c 0 [] (fun _=>nilS)):=Lib.hid (by rw [← hbm];exact ByR.made wo Bs c _)
   have hmi:(0:Int)≤(ms:Int):=by omega
   obtain ⟨N,hN⟩:∃ N,1 <<< i=N:=⟨_,rfl⟩
   have hN64:N≤64:=by rw [← hN,Nat.one_shiftLeft];exact Nat.le_trans (Nat.pow_le_pow_right (by omega) hng6) (by decide)
   have HN:Hid (1 <<< c.cargos.length=N):=Lib.hid (by rw [HNG.out];exact hN)
   have hsh:IntKind.u64.wrap (2 ^ i)=(N:Int):=by
    rw [← hN,Nat.one_shiftLeft]
    rcases (show i=1 ∨ i=2 ∨ i=3 ∨ i=4 ∨ i=5 ∨ i=6 by omega) with e | e | e | e | e | e <;> rw [e] <;> rfl
   clear hms hN k2
   gi_upto_region 9 with (fail)
   have hsz6:((wo.alloc (.map #[] 0)).alloc (.cells #[.map (some bm)] 111)).heap.size=bm+2:=by rw [← hbm];simp
   obtain ⟨W6,hW6⟩:∃ W6,(wo.alloc (.map #[] 0)).alloc (.cells #[.map (some bm)] 111)=W6:=⟨_,rfl⟩
   have hb6:Below wo.heap.size wo W6:=by rw [← hW6];exact ((Below.refl _ _).alloc (Nat.le_refl _) _).alloc (by simp) _
   have HB6:Hid (Below Bs W0 W6):=Lib.hid (HB.out.trans (hb6.mono (by omega)))
   have HBX6:Hid (Bk W6 (bm+1) 111 #[.map (some bm)]):=Lib.hid (by rw [← hW6,← hbm];exact Bk.newAt _ _ _ _ (by simp))
   have HBY6:Hid (ByR W6 Bs bm c 0 [] fun _=>nilS):=Lib.hid (by
    have:=HBY0.out.below (w':=W6) (by rw [← hW6];exact (Below.refl _ _).alloc (Nat.le_refl _) _)
    exact this)
   rw [hW6] at hsz6 ⊢
   obtain ⟨k2,_⟩:=HCV.out W6 HB6.out
   clear hb6 hW6 HBY0 hbm hmm
   gi_wp2_with fail
   gi_loopw [35] (fun iv wr=>∃ k:Nat,k≤N∧iv=.int .u64 k∧Hid (Below Bs W0 wr∧bm+2≤wr.heap.size∧Bk wr (bm+1) 111 #[.map (some bm)]∧∃ ks F,ByR wr Bs bm c k ks F)) (fun iv _=>N - (intOf iv).toNat)
   case atStart=>exact ⟨0,Nat.zero_le _,rfl,Lib.hid ⟨HB6.out,by omega,HBX6.out,_,_,HBY6.out⟩⟩
   case round =>
    obtain ⟨wp,rfl⟩:∃ wp:World,wp=wr:=⟨_,rfl⟩
    obtain ⟨k,hk,rfl,hs⟩:=hrel
    obtain ⟨hbw,hsw,hbx,ks,F,hby⟩:=hs.out
    have HBW:=Lib.hid hbw
    have HSW:=Lib.hid hsw
    have HBX:=Lib.hid hbx
    have HBY:=Lib.hid hby
    clear hs hbw hbx hby hsw k2
    have h0k:(0:Int)≤(k:Int):=by omega
    by_cases hlt:k<N
    ·have hkN:(k:Int)<(N:Int):=by omega
     have hk64:k<64:=by omega
     have hand:=andU hk64 hm64
     have hwk:IntKind.u64.wrap ((k:Int)+1)=((k+1:Nat):Int):=by rw [IntWalk.u64_in _ (by omega)];omega
     cases ho:okS c k with
     | false =>
      have HNX:Hid (ByR wp Bs bm c (k+1) ks F):=Lib.hid (HBY.out.skip ho)
      have hq:(((k &&& ms:Nat):Int) == (ms:Int))=false:=by
       rw [beq_eq_false_iff_ne]
       intro e
       unfold okS at ho
       rw [HMS.out,decide_eq_false_iff_not] at ho
       exact ho (by omega)
      obtain ⟨ka,hka⟩:∃ ka:Nat,k &&& ms=ka:=⟨_,rfl⟩
      rw [hka] at hand hq
      clear ho hka
      gi_wp2_with fail
      go_roundw
      case rel=>first | exact ⟨k+1,by omega,rfl,Lib.hid ⟨HBW.out,HSW.out,HBX.out,ks,F,HNX.out⟩⟩ | ((repeat apply Exists.intro);exact ⟨⟨k+1,by omega,by first | rfl | go_num,Lib.hid ⟨HBW.out,HSW.out,HBX.out,ks,F,HNX.out⟩⟩,rfl⟩)
      case measure=>simp [intOf];omega
     | true =>
      have hq:(((k &&& ms:Nat):Int) == (ms:Int))=true:=by
       unfold okS at ho
       rw [HMS.out,decide_eq_true_eq] at ho
       rw [ho];simp
      have HO:=Lib.hid ho
      obtain ⟨ka,hka⟩:∃ ka:Nat,k &&& ms=ka:=⟨_,rfl⟩
      rw [hka] at hand hq
      obtain ⟨v0,hv0⟩:∃ v,worthS c k=v:=⟨_,rfl⟩
      obtain ⟨FV,hFV⟩:∃ v,(if v0 ∈ ks then F v0 else nilS)=v:=⟨_,rfl⟩
      have HKEY:Hid (keyOk v0):=Lib.hid (by rw [← hv0];exact worthS_key HC.out k)
      have HFV:Hid ((if worthS c k ∈ ks then F (worthS c k) else nilS)=FV):=Lib.hid (by rw [hv0];exact hFV)
      have HV0:=Lib.hid hv0
      have hks:k<2 ^ c.cargos.length:=by
       have h1:=HN.out
       rw [Nat.one_shiftLeft] at h1
       omega
      have HWO:Hid (∀ w1,Below Bs W0 w1→Calls Tryz.prog 95 #[.agg (campA V c),.int .u64 (k:Int)] w1 fun e w'=>e=.returned (.int .i64 v0)∧Below w1.heap.size w1 w'):=Lib.hid fun w1 hb=>by
       have:=worthS_any w1 V c (HCL.out w1 hb) HC.out k hks
       rw [hv0] at this
       exact this
      have hBw:Bs≤wp.heap.size:=by have:=HSW.out;omega
      have HCOM:Hid (∀ (d1 d2 d3:Bool) (v1 v2:Value) (w1:World),BstJ wp Bs bm c k ks F d1 d2 d3 v1 v2 w1→d3=false→Below Bs W0 w1∧Bk w1 (bm+1) 111 #[.map (some bm)]∧∀ j u,(campA V c)[j]?=some u→w1.cell? ⟨qb,0+j,none⟩=some u):=Lib.hid fun d1 d2 d3 v1 v2 w1 hJ h3=>by
       obtain ⟨c1,c2⟩:=hJ.com HBY.out hBw h3
       have c3:=HBW.out.trans c1
       exact ⟨c3,c2 _ _ _ (by decide) HBX.out,HLC.out w1 c3⟩
      have HBIG:Hid ((rowK c k (worthS c k)).length≤64):=Lib.hid (Nat.le_trans (rowK_len c k _) (by omega))
      obtain ⟨i0,hi0,hz0,hz1,hz2⟩:=info_parts infoS
      have HI0:=Lib.hid (And.intro hi0 (And.intro hz0 (And.intro hz1 hz2)))
      clear ho hka hv0 hFV hks hi0 hz0 hz1 hz2
      gi_upto_region 13 with (fail)
      refine wpIn_wide.2 ?_
      refine wp_region_stepsJ (by kernel_rfl) (by kernel_rfl) (fun dn vs w1=>BstJ wp Bs bm c k ks F (dn 10) (dn 11) (dn 12) (vs 10) (vs 11) w1) (fun _ _ _=>True)
       (fun ix u _ _=>match ix with
        | 0=>u=.map (some bm)
        | 1=>u=.agg (campA V c)
        | 2=>u=.int .u64 (k:Int)
        | 3=>u=.int .i64 v0
        | 4=>u=.map (some bm)
        | 5=>u=.agg (campA V c)
        | 6=>u=.int .u64 (k:Int)
        | 7=>u=.int .i64 v0
        | 8=>u=FV
        | 9=>u=.int .u64 (k:Int)
        | 10=>True
        | 11=>True
        | _=>True) (fun _=>BstJ.start _ _ _ _ _ _ _ _ _) (fun _ _ _ _ _ _ _ _ h _=>h) ?_ ?_
      ·refine ⟨?_,?_,?_,?_,?_,?_,?_,?_,?_,?_,?_,?_,?_,trivial⟩
       ·intro a w1 vs K dn Hd Hb HJ HK HD HN kk
        have e7:=HK 7 (by decide)
        have d12:dn 12=false:=by cases hq:dn 12 with | false=>rfl | true=>exact absurd (Hd 12 hq).2 (by decide)
        have hcm:=HCOM.out _ _ _ _ _ _ HJ d12
        
        have ca:w1.cell? ⟨bm+1,0,none⟩=some (.map (some bm)):=hcm.2.1.cell 0
        go_simp;exact kk _ _ (by simp) HJ trivial rfl
       ·intro a w1 vs K dn Hd Hb HJ HK HD HN kk
        have e1:=HK 1 (by decide)
        have d12:dn 12=false:=by cases hq:dn 12 with | false=>rfl | true=>exact absurd (Hd 12 hq).2 (by decide)
        have hcm:=HCOM.out _ _ _ _ _ _ HJ d12
        
        exact wpo_loadS 26 (.tmp 1) rfl qb 0 (by simpa [Act.eval] using e1) (campA V c) _ hcm.2.2 und_camp rfl (info_campA V c) (kk _ _ (by simp) HJ trivial rfl)
       ·intro a w1 vs K dn Hd Hb HJ HK HD HN kk
        have e8:=HK 8 (by decide)
        go_simp;exact kk _ _ (by simp) HJ trivial rfl
       ·intro a w1 vs K dn Hd Hb HJ HK HD HN kk
        have e44:=hdE (HD 1 _ 44 rfl rfl rfl)
        have e45:=hdE (HD 2 _ 45 rfl rfl rfl)
        have d12:dn 12=false:=by cases hq:dn 12 with | false=>rfl | true=>exact absurd (Hd 12 hq).2 (by decide)
        have hcm:=HCOM.out _ _ _ _ _ _ HJ d12
        
        exact wpo_call 95 _ _ rfl #[.agg (campA V c),.int .u64 (k:Int)] (by simp [Act.eval,e44,e45]) (fun args w=>by kernel_rfl)
         ((HWO.out w1 hcm.1).mono fun e w' ⟨he,hb⟩=>⟨_,he,kk _ _ (by simp) (HJ.call d12 hb) trivial rfl⟩)
       ·intro a w1 vs K dn Hd Hb HJ HK HD HN kk
        have e7:=HK 7 (by decide)
        have d12:dn 12=false:=by cases hq:dn 12 with | false=>rfl | true=>exact absurd (Hd 12 hq).2 (by decide)
        have hcm:=HCOM.out _ _ _ _ _ _ HJ d12
        
        have ca:w1.cell? ⟨bm+1,0,none⟩=some (.map (some bm)):=hcm.2.1.cell 0
        go_simp;exact kk _ _ (by simp) HJ trivial rfl
       ·intro a w1 vs K dn Hd Hb HJ HK HD HN kk
        have e1:=HK 1 (by decide)
        have d12:dn 12=false:=by cases hq:dn 12 with | false=>rfl | true=>exact absurd (Hd 12 hq).2 (by decide)
        have hcm:=HCOM.out _ _ _ _ _ _ HJ d12
        
        exact wpo_loadS 26 (.tmp 1) rfl qb 0 (by simpa [Act.eval] using e1) (campA V c) _ hcm.2.2 und_camp rfl (info_campA V c) (kk _ _ (by simp) HJ trivial rfl)
       ·intro a w1 vs K dn Hd Hb HJ HK HD HN kk
        have e8:=HK 8 (by decide)
        go_simp;exact kk _ _ (by simp) HJ trivial rfl
       ·intro a w1 vs K dn Hd Hb HJ HK HD HN kk
        have e48:=hdE (HD 5 _ 48 rfl rfl rfl)
        have e49:=hdE (HD 6 _ 49 rfl rfl rfl)
        have d12:dn 12=false:=by cases hq:dn 12 with | false=>rfl | true=>exact absurd (Hd 12 hq).2 (by decide)
        have hcm:=HCOM.out _ _ _ _ _ _ HJ d12
        
        exact wpo_call 95 _ _ rfl #[.agg (campA V c),.int .u64 (k:Int)] (by simp [Act.eval,e48,e49]) (fun args w=>by kernel_rfl)
         ((HWO.out w1 hcm.1).mono fun e w' ⟨he,hb⟩=>⟨_,he,kk _ _ (by simp) (HJ.call d12 hb) trivial rfl⟩)
       ·intro a w1 vs K dn Hd Hb HJ HK HD HN kk
        have e47:=hdE (HD 4 _ 47 rfl rfl rfl)
        have e50:=hdE (HD 7 _ 50 rfl rfl rfl)
        have d11:dn 11=false:=by cases hq:dn 11 with | false=>rfl | true=>exact absurd (Hd 11 hq).2 (by decide)
        have d12:dn 12=false:=by cases hq:dn 12 with | false=>rfl | true=>exact absurd (Hd 12 hq).2 (by decide)
        have HJ2:=HJ.1 d11
        have hlk:=(HBY.out.map.below HJ2.1).look (t:=111) (E:=112) Tryz.underlying111 (zero_sets w1) HKEY.out
        have hlk2:=HFV.out
        rw [HV0.out] at hlk2
        rw [show (Value.slice none 0 0)=nilS from rfl,hlk2] at hlk
        exact wpo_lookup 111 _ _ rfl _ _ FV (by simpa [Act.eval] using e47) (by simpa [Act.eval] using e50) hlk (kk _ _ (by simp) HJ trivial rfl)
       ·intro a w1 vs K dn Hd Hb HJ HK HD HN kk
        have e8:=HK 8 (by decide)
        go_simp;exact kk _ _ (by simp) HJ trivial rfl
       ·intro a w1 vs K dn Hd Hb HJ HK HD HN kk
        have e52:=hdE (HD 9 _ 52 rfl rfl rfl)
        have d11:dn 11=false:=by cases hq:dn 11 with | false=>rfl | true=>exact absurd (Hd 11 hq).2 (by decide)
        have d12:dn 12=false:=by cases hq:dn 12 with | false=>rfl | true=>exact absurd (Hd 12 hq).2 (by decide)
        go_simp;exact kk _ _ (by simp) (HJ.built d11 d12) trivial trivial
       ·intro a w1 vs K dn Hd Hb HJ HK HD HN kk
        have e51:=hdE (HD 8 _ 51 rfl rfl rfl)
        have d11:dn 11=false:=by cases hq:dn 11 with | false=>rfl | true=>exact absurd rfl (Hd 11 hq).1
        have d12:dn 12=false:=by cases hq:dn 12 with | false=>rfl | true=>exact absurd (Hd 12 hq).2 (by decide)
        have d10:dn 10=true:=Hb 10 (by decide)
        obtain ⟨hbe,hbl⟩:=HJ.1 d11
        obtain ⟨g,y1,y2⟩:=hbl d10
        have e53:=(HD 10 _ 53 rfl rfl rfl).1.trans y1
        have hold:=(HBY.out.below hbe).old (worthS c k)
        rw [HFV.out] at hold
        rw [d11] at HJ
        exact wpo_append_at (.tmp 51) (.tmp 53) 112 rfl Bs 94 i0 (.int .u64 0) 1 8 Tryz.underlying112 HI0.out.1 HI0.out.2.1 HI0.out.2.2.1 HI0.out.2.2.2 rfl (by decide) FV _ _ (by simpa [Act.eval] using e51) hold ⟨g,0,none⟩ 1 1 [.int .u64 (k:Int)] (by simpa [Act.eval] using e53) rfl (fun j u hj=>by rw [Addr.add_lit,Nat.zero_add,y2.cell];simpa using hj) (fun u hu=>by simp at hu;subst hu;rfl) (by unfold maxLen;have:=HBIG.out;omega) (by have:=HBIG.out;omega) (by have:=hbe.size;omega) fun v' w' hown hg hl =>
         kk _ _ (by simp) (HJ.app d12 hown (by rw [HFV.out];exact hg) (by rw [HFV.out];exact hl)) trivial trivial
       ·intro a w1 vs K dn Hd Hb HJ HK HD HN kk
        have e43:=hdE (HD 0 _ 43 rfl rfl rfl)
        have e46:=hdE (HD 3 _ 46 rfl rfl rfl)
        have d11:dn 11=true:=Hb 11 (by decide)
        have d12:dn 12=false:=by cases hq:dn 12 with | false=>rfl | true=>exact absurd rfl (Hd 12 hq).1
        have e54:=(HD 11 _ 54 rfl rfl rfl).1
        obtain ⟨w',hrun,hJ'⟩:=HJ.put (t:=111) (E:=112) HBY.out hBw hbmB d11 d12 HO.out (by rw [HV0.out];exact HKEY.out) Tryz.underlying111
        rw [HV0.out] at hrun
        exact wpo_mapUpdate 111 _ _ _ rfl _ _ _ (by simpa [Act.eval] using e43) (by simpa [Act.eval] using e46) (by simpa [Act.eval] using e54) hrun (kk _ _ (by simp) hJ' trivial trivial)
      ·intro vs dn W3 hdn hJ hrr
       obtain ⟨ks',F',hby',hbe',hkt'⟩:=hJ.2.2 (hdn 12 (by decide))
       have HBY3:Hid (ByR W3 Bs bm c (k+1) ks' F'):=Lib.hid hby'
       have HBW3:Hid (Below Bs W0 W3):=Lib.hid (HBW.out.trans hbe')
       have HBX3:Hid (Bk W3 (bm+1) 111 #[.map (some bm)]):=Lib.hid (hkt' _ _ _ (by decide) HBX.out)
       have HSW3:Hid (bm+2≤W3.heap.size):=Lib.hid (by have:=hbe'.size;have:=HSW.out;omega)
       clear hrr hJ hdn hby' hbe' hkt'
       simp only [putAll,Act.put,List.setIfInBounds_toArray,List.set_cons_zero,List.set_cons_succ]
       gi_wp2_with fail
       go_roundw
       case rel=>first | exact ⟨k+1,by omega,rfl,Lib.hid ⟨HBW3.out,HSW3.out,HBX3.out,ks',F',HBY3.out⟩⟩ | ((repeat apply Exists.intro);exact ⟨⟨k+1,by omega,by first | rfl | go_num,Lib.hid ⟨HBW3.out,HSW3.out,HBX3.out,ks',F',HBY3.out⟩⟩,rfl⟩)
       case measure=>simp [intOf];omega
    ·obtain rfl:k=N:=by omega
     have kb:wp.cell? ⟨bm+1,0,none⟩=some (.map (some bm)):=HBX.out.cell 0
     obtain ⟨W7,hrg,hit,hm7,hb7,hs7⟩:=HBY.out.map.iter (t:=111) (E:=112) Tryz.underlying111
     have HBY7:Hid (ByR W7 Bs bm c k ks F):=Lib.hid (HBY.out.below hb7)
     have HBW7:Hid (Below Bs W0 W7):=Lib.hid (HBW.out.trans (hb7.mono (by have:=HSW.out;omega)))
     have HBX7:=Lib.hid (HBX.out.below hb7 HBX.out.lt)
     have HIT7:=Lib.hid hit
     obtain ⟨br,hbr⟩:∃ b,wp.heap.size=b:=⟨_,rfl⟩
     rw [hbr] at hrg HIT7 hs7
     have hbrm:bm+2≤br:=by have:=HSW.out;omega
     have HS7:Hid (br+1≤W7.heap.size):=Lib.hid (by omega)
     have HKL:Hid (ks.length≤64):=Lib.hid (by
      have h1:∀ v ∈ ks,v ∈ (setsK c k).map (worthS c):=fun v hv=>by
       obtain ⟨s,hs,e⟩:=(HBY.out.mem v).1 hv
       exact List.mem_map.2 ⟨s,hs,e⟩
      have h2:=nodup_sub_len HBY.out.map.nodup h1
      rw [List.length_map] at h2
      unfold setsK at h2
      have h3:=List.length_filter_le (okS c) (List.range k)
      rw [List.length_range] at h3
      omega)
     obtain ⟨i0,hi0,hz0,hz1,hz2⟩:=info_parts infoZ
     clear hit hm7 hb7 hs7 hbr HBY HBW HBX HSW
     gi_wp2_with fail
     clear hrg kb
     gi_loopw [9] (fun v9 wr=>∃ (dne left:List Int),Hid (Below Bs W0 wr∧br+1≤wr.heap.size∧Bk wr (bm+1) 111 #[.map (some bm)]∧ByR wr Bs bm c k ks F∧IIter wr bm br ks F left∧(dne ++ left).Perm ks∧wr.ownsRow (br+1) 3 1 v9 dne.length (rowsI dne))) (fun _ wr=>wr.rangeLeft bm br)
     case atStart=>exact ⟨[],ks,Lib.hid ⟨HBW7.out,HS7.out,HBX7.out,HBY7.out,HIT7.out,List.Perm.refl _,World.ownsRow_nil _ _ _ _⟩⟩
     case round =>
      obtain ⟨wq,rfl⟩:∃ wq:World,wq=wr:=⟨_,rfl⟩
      obtain ⟨dne,left,hst⟩:=hrel
      obtain ⟨hbw,hsz,hbx,hby,hit,hpm,hown⟩:=hst.out
      have HIT:=Lib.hid hit
      have HPM:=Lib.hid hpm
      have hdl:dne.length≤64:=by
       have:=hpm.length_eq
       rw [List.length_append] at this
       have:=HKL.out
       omega
      rcases hit.next 0 with ⟨hl0,hrun⟩ | ⟨v,left',w5,hlp,hvk,hrun,hent,hit5,hg5,hsz5⟩
      case inr =>
       obtain ⟨mi,hmi5⟩:∃ o,wq.heap[br]?=some o∧(∀ cs t z,o ≠ .cells cs t z)∧∀ x y,o ≠ .map x y:=by
        obtain ⟨arr,clock,since,seen,c0,_,_,_,h4,_⟩:=hit.obj
        exact ⟨_,h4,(fun cs t z e=>by cases e),(fun x y e=>by cases e)⟩
       have HBW5:Hid (Below Bs W0 w5):=Lib.hid (hbw.grown hg5 (by omega) fun g e=>by cases e;omega)
       have HBX5:Hid (Bk w5 (bm+1) 111 #[.map (some bm)]):=Lib.hid ((hg5.block _ hbx.lt (by simp;omega)).trans hbx)
       have HBY5:Hid (ByR w5 Bs bm c k ks F):=Lib.hid (hby.turn hg5 fun g e=>by cases e;exact ⟨mi,hmi5.1,fun cs z=>hmi5.2.1 cs _ z,hmi5.2.2⟩)
       have hown5:w5.ownsRow (br+1) 3 1 u9 dne.length (rowsI dne):=hown.kept hg5 (by
        cases e:u9.ownBlock with
        | none=>exact .inl rfl
        | some g=>exact .inr fun e2=>by have:=(hown.lt g e).1;injection e2 with e2;omega)
       have HIT5:=Lib.hid hit5
       have HS5:Hid (br+1≤w5.heap.size):=Lib.hid (by omega)
       have HPM5:Hid (((dne ++ [v]) ++ left').Perm ks):=Lib.hid (by
        refine List.Perm.trans ?_ hpm
        rw [List.append_assoc,List.singleton_append]
        exact (hlp.symm).append_left dne)
       have HLL:Hid (left'.length<left.length):=Lib.hid (by have:=hlp.length_eq;rw [List.length_cons] at this;omega)
       obtain ⟨dl,hdlen⟩:∃ n,dne.length=n:=⟨_,rfl⟩
       have HDL:=Lib.hid hdlen
       rw [hdlen] at hown5 hdl
       clear hst hbw hsz hbx hby hit hpm hown hlp hvk hit5 hg5 hsz5 hmi5 hdlen
       gi_wp2_with (gi_at_builtin;refine wpListIn_append_own _ rfl _ _ 48 rfl (br+1) 3 i0 (.int .i64 0) 1 8 Tryz.underlying48 hi0 hz0 hz1 hz2 rfl (by decide) _ _ _ rfl (hown5.alloc _) ⟨w5.heap.size,0,none⟩ 1 1 [.int .i64 v] rfl rfl ?qa1 ?qb1 ?qc1 ?qd1 ?qe1 ?qf1)
       case qa1=>intro j u hj;match j,hj with | 0,hj=>simp at hj;subst hj;simp [Addr.add]
       case qb1=>intro u hu;simp at hu;subst hu;rfl
       case qc1=>unfold maxLen;omega
       case qd1=>omega
       case qe1=>simp;have:=HS5.out;omega
       case qf1 =>
        intro v' w6 hown' hgrow _
        have hal:Below w5.heap.size w5 (w5.alloc (.cells #[.int .i64 v] 3)):=(Below.refl _ _).alloc (Nat.le_refl _) _
        have hrow:∀ g,u9.ownBlock=some g→br+1≤g∧∃ cs,Bk (w5.alloc (.cells #[.int .i64 v] 3)) g 3 cs:=fun g e=>by
         have ho:=hown5.alloc (.cells #[.int .i64 v] 3)
         rcases ho.2 with ⟨rfl,_⟩ | ⟨b,cap,cur,rfl,hb,hgb,_⟩
         ·simp [Value.ownBlock] at e
         ·have e2:b=g:=by simpa [Value.ownBlock] using e
          subst e2;exact ⟨hb,cur,hgb⟩
        have HBW6:Hid (Below Bs W0 w6):=Lib.hid ((HBW5.out.trans (hal.mono (by have:=HS5.out;omega))).grown hgrow (by simp;have:=HS5.out;omega) fun g e=>by have:=(hrow g e).1;omega)
        have HS6:Hid (br+1≤w6.heap.size):=Lib.hid (by have:=hgrow.size;simp at this;have:=HS5.out;omega)
        have HBX6':Hid (Bk w6 (bm+1) 111 #[.map (some bm)]):=Lib.hid (by
         have h1:=HBX5.out.below hal HBX5.out.lt
         exact (hgrow.block _ h1.lt fun e=>by have:=(hrow _ e.symm).1;omega).trans h1)
        have HBY6':Hid (ByR w6 Bs bm c k ks F):=Lib.hid ((HBY5.out.below hal).turn hgrow fun g e=>by
         obtain ⟨_,cs,hk⟩:=hrow g e
         exact ⟨_,hk,(fun cs' z e2=>by injection e2 with _ e2 _;exact absurd e2 (by decide)),(fun x y e2=>by cases e2)⟩)
        have HIT6:Hid (IIter w6 bm br ks F left'):=Lib.hid (by
         have hbl:bm<w5.heap.size:=HBY5.out.map.lt
         have h1:=HIT5.out.keep (hal.block bm hbl) (hal.block br HIT5.out.lt)
         exact h1.keep (hgrow.block _ (by simp;omega) fun e=>by have:=(hrow _ e.symm).1;omega) (hgrow.block _ h1.lt fun e=>by have:=(hrow _ e.symm).1;omega))
        have HO6:Hid (w6.ownsRow (br+1) 3 1 v' (dne ++ [v]).length (rowsI (dne ++ [v]))):=Lib.hid (by
         rw [rowsI_snoc,List.length_append,List.length_singleton,HDL.out];exact hown')
        clear hown' hgrow hal hrow hown5 hrun hent
        gi_wp2_with fail
        go_roundw
        case rel=>first | exact ⟨dne ++ [v],left',Lib.hid ⟨HBW6.out,HS6.out,HBX6'.out,HBY6'.out,HIT6.out,HPM5.out,HO6.out⟩⟩ | ((repeat apply Exists.intro);exact ⟨⟨dne ++ [v],left',Lib.hid ⟨HBW6.out,HS6.out,HBX6'.out,HBY6'.out,HIT6.out,HPM5.out,HO6.out⟩⟩,rfl⟩)
        case measure=>rw [HIT6.out.left_eq,HIT.out.left_eq];exact HLL.out
      case inl =>
       subst hl0
       rw [List.append_nil] at hpm
       have hmem:∀ v,v ∈ dne ↔ v ∈ (setsB c).map (worthS c):=fun v=>by
        rw [hpm.mem_iff,hby.mem,setsK_full,HN.out,List.mem_map]
       have hnd:dne.Nodup:=hpm.nodup_iff.2 hby.map.nodup
       have HFOLD:Hid (bestB c=(List.range (sortB dne).length).reverse.findSome? fun i=>bestF c (numI (sortB dne) i)):=Lib.hid (bestB_fold c (sortB_vals hnd hmem))
       have hdp:0<dne.length:=by
        have h1:worthS c (2 ^ c.cargos.length - 1) ∈ dne:=by
         rw [hmem,setsK_full]
         exact List.mem_map.2 ⟨_,full_ok,rfl⟩
        exact List.length_pos_of_mem h1
       have HKS:Hid (∀ i,i<dne.length→numI (sortB dne) i ∈ ks):=Lib.hid fun i hi=>hpm.mem_iff.1 (sortB_num dne i hi)
       obtain ⟨g,cap,cur,rfl,hg0,hgk,hcap,hcur⟩:=row_ints hown hdp
       have HSO:=Lib.hid (sortI_any wq g cap 3 cur dne hgk hcur (by omega))
       have HGK:=Lib.hid hgk
       have HBWq:=Lib.hid hbw
       have HBXq:=Lib.hid hbx
       have HBYq:=Lib.hid hby
       have hgq:g<wq.heap.size:=hgk.lt
       obtain ⟨SL,hSL⟩:∃ L,sortB dne=L:=⟨_,rfl⟩
       obtain ⟨n,hn⟩:∃ n,dne.length=n:=⟨_,rfl⟩
       have HSLn:Hid (SL.length=n):=Lib.hid (by rw [← hSL,sortB_len,hn])
       rw [hSL,hn] at HSO
       rw [hSL] at HFOLD
       rw [hSL,hn] at HKS
       rw [hn] at hdl ⊢
       clear hst hbw hbx hby hit hpm hown hmem hnd hgk hcur hSL hn hdp hcap
       gi_wp2_with fail
       refine ⟨trivial,?_⟩
       refine (callsIn_wide.2 HSO.out).mono ?_
       rintro e W8 ⟨rfl,⟨cur',hgk8,hcur8⟩,hgr8⟩
       have HBW8:Hid (Below Bs W0 W8):=Lib.hid (HBWq.out.grown hgr8 (by omega) fun x e=>by cases e;omega)
       have HBX8:Hid (Bk W8 (bm+1) 111 #[.map (some bm)]):=Lib.hid ((hgr8.block _ HBXq.out.lt (by simp;omega)).trans HBXq.out)
       have HBY8:Hid (ByR W8 Bs bm c k ks F):=Lib.hid (HBYq.out.turn hgr8 fun x e=>by
        cases e
        exact ⟨_,HGK.out,(fun cs' z e2=>by injection e2 with _ e2 _;exact absurd e2 (by decide)),(fun x y e2=>by cases e2)⟩)
       obtain ⟨Bb,hBb⟩:∃ B,W8.heap.size=B:=⟨_,rfl⟩
       obtain ⟨W9,hW9⟩:∃ W9,W8.alloc (.cells #[.slice (some ⟨g,0,none⟩) n cap] 48)=W9:=⟨_,rfl⟩
       have hb9:Below W8.heap.size W8 W9:=by rw [← hW9];exact (Below.refl _ _).alloc (Nat.le_refl _) _
       have HKS9:Hid (Bk W9 Bb 48 #[.slice (some ⟨g,0,none⟩) n cap]):=Lib.hid (by rw [← hW9,← hBb];exact Bk.new _ _ _)
       have hs9:W9.heap.size=Bb+1:=by rw [← hW9,← hBb];simp
       have HGK9:Hid (Bk W9 g 3 cur'):=Lib.hid (hgk8.below hb9 hgk8.lt)
       have HB9:Hid (Below Bs W0 W9):=Lib.hid (HBW8.out.trans (hb9.mono (by have:=hgr8.size;omega)))
       have HBX9:=Lib.hid (HBX8.out.below hb9 HBX8.out.lt)
       have HBY9:=Lib.hid (HBY8.out.below hb9)
       have hBsB:Bs≤Bb:=by have:=hgr8.size;omega
       have hgB:g<Bb:=by have:=hgr8.size;omega
       have HSTOP:=Lib.hid (backward_stops Bb g n cap SL (by omega) HSLn.out W9 (by omega) (by omega) (HKS9.out.cell 0) (fun i hi=>by rw [HGK9.out.cell];exact hcur8 i hi))
       have HKB:Hid (∀ x,x ∈ [Bb,g]→x<W9.heap.size):=Lib.hid (by simp;omega)
       obtain ⟨I,hI⟩:∃ I:List (Fin n)→World→Prop,(fun pre W=>Below W9.heap.size W9 W∧∀ i ∈ Fin.vals pre,bestF c (numI SL i)=none)=I:=⟨_,rfl⟩
       have HI:Hid (∀ pre W,I pre W ↔ (Below W9.heap.size W9 W∧∀ i ∈ Fin.vals pre,bestF c (numI SL i)=none)):=Lib.hid fun pre W=>by rw [← hI]
       have HOI:Hid (OwnFrom W9.heap.size I):=Lib.hid (by
        rw [← hI]
        exact OwnFrom.and (ownFrom_below (Nat.le_refl _) (Nat.le_refl _)) fun pre A B row hq hg hr=>hq)
       obtain ⟨Ix,hIx⟩:∃ Ix:Code→List (Fin n)→World→Prop,(fun cd pre W=>cd=.ret∧BestX c SL (Fin.vals pre) w W qb)=Ix:=⟨_,rfl⟩
       have HIX:Hid (∀ cd pre W,Ix cd pre W ↔ (cd=.ret∧BestX c SL (Fin.vals pre) w W qb)):=Lib.hid fun cd pre W=>by rw [← hIx]
       have HOX:Hid (∀ cd,OwnFrom W9.heap.size (Ix cd)):=Lib.hid fun cd=>by
        rw [← hIx]
        rintro pre A B row ⟨h1,h2⟩ hg hr
        exact ⟨h1,h2.turn hg (by omega) hr⟩
       have H0I:Hid (I [] W9):=Lib.hid ((HI.out _ _).2 ⟨Below.refl _ _,fun i hi=>by cases hi⟩)
       clear hgk8 hcur8 hgr8 hb9 hI hIx
       gi_wp2_with fail
       refine ⟨trivial,?_⟩
       refine (backward_in _ _ _ _).mono ?_
       rintro e w' ⟨rfl,rfl⟩
       gi_wp2_with fail
       try rw [hW9]
       try rw [hBb]
       clear hW9 hBb
       refine wpIn_rangeFunc_ownF (n:=6) rfl (by decide) (gf:=114) rfl trivial (enters_of Tryz.func114 (by kernel_rfl) rfl) HSTOP.out KeepL.trans (keepL_b HKB.out) (Below.refl _ _) (fun _=>rfl)
        I Ix HOI.out HOX.out H0I.out ?a1 ?assign ?body ?done ?stop
       case assign =>
        intro l x W K hK
        gi_wp2
        exact hK
       case body =>
        intro l pre x W hIW hpl
        obtain ⟨hbe,hno⟩:=(HI.out _ _).1 hIW
        obtain ⟨xv,hxn⟩:=x
        obtain ⟨v,hv⟩:∃ v,numI SL xv=v:=⟨_,rfl⟩
        have hvk:v ∈ ks:=by rw [← hv];exact HKS.out xv hxn
        obtain ⟨PB,hPB⟩:∃ Q,ownPostK (KeepL [Bb,g]) I Ix (pre ++ [⟨xv,hxn⟩]) W=Q:=⟨_,rfl⟩
        have hvals:Fin.vals (pre ++ [(⟨xv,hxn⟩:Fin n)])=Fin.vals pre ++ [xv]:=by simp [Fin.vals]
        have hWs:=hbe.size
        have HBW:Hid (Below Bs W0 W):=Lib.hid (HB9.out.trans (hbe.mono (by omega)))
        have HEN:Hid (bestF c v=none→∀ a W',Below W.heap.size W W'→PB .normal a W'):=Lib.hid fun hf a W' hb=>by
         rw [← hPB]
         refine ⟨KeepsOthers.below hb,KeepL.below hb (fun y hy=>Nat.lt_of_lt_of_le (HKB.out y hy) hWs),(HI.out _ _).2 ⟨hbe.trans (hb.mono hWs),fun u hu=>?_⟩⟩
         rw [hvals] at hu
         rcases List.mem_append.1 hu with hu | hu
         ·exact hno u hu
         ·rw [List.mem_singleton] at hu;subst hu;rw [hv];exact hf
        have HES:Hid (∀ p A n' c',bestF c v=some p→n'=p.length→n'≤c'→∀ a W3,Below W.heap.size W W3→PlanO W3 qb A p→PB .ret a ((W3.setCell ⟨qb+1,0,none⟩ (.slice A n' c')).setCell ⟨qb+1+1,0,none⟩ (.bool true))):=Lib.hid fun p A n' c' hf hn' hc' a W3 hb hp=>by
         rw [← hPB]
         have hb3:Below Bs W0 W3:=HBW.out.trans (hb.mono (by omega))
         have k1:=HKP.out.below hb3 (by omega)
         have k2:=HKF.out.below hb3 (by omega)
         have o1:=Only.setCell W3 (qb+1) 0 (.slice A n' c')
         have o2:=Only.setCell (W3.setCell ⟨qb+1,0,none⟩ (.slice A n' c')) (qb+1+1) 0 (.bool true)
         have k3:Bk (W3.setCell ⟨qb+1,0,none⟩ (.slice A n' c')) (qb+1) 27 #[.slice A n' c']:=k1.set 0 _
         have k4:Bk (W3.setCell ⟨qb+1,0,none⟩ (.slice A n' c')) (qb+1+1) 4 #[.bool false]:=k2.only o1 (by omega)
         refine ⟨((KeepsOthers.below hb).trans (KeepsOthers.setCell _ _ _)).trans (KeepsOthers.setCell _ _ _),(HIX.out _ _ _).2 ⟨rfl,⟨Fin.vals pre,xv,p,A,n',c',hvals,hno,by rw [hv];exact hf,hn',hc',k3.only o2 (by omega),k4.set 0 _,(hp.other k1 (by decide) (by decide) o1).other k4 (by decide) (by decide) o2,?_⟩⟩⟩
         exact ((HB0.out.trans (hb3.mono (by omega))).trans (o1.below (by omega))).trans (o2.below (by omega))
        rw [hPB]
        have hrow:=HBY9.out.below hbe
        have hlk:=hrow.map.look (t:=111) (E:=112) Tryz.underlying111 (zero_sets W) (worthK_of hrow hvk HC.out)
        rw [if_pos hvk] at hlk
        have hpos:0<(rowK c k v).length:=rowK_pos hrow hvk
        have hrl:(rowK c k v).length≤64:=Nat.le_trans (rowK_len c k v) (by omega)
        obtain ⟨AL,cL,hFe,hsl⟩:=row_sl (hrow.row v hvk) hpos (by omega)
        rw [hFe] at hlk
        obtain ⟨r,hr⟩:∃ r,bestF c v=r:=⟨_,rfl⟩
        have hfi:=first_any W V c (HCL.out W HBW.out) HC.out (rowK c k v) AL cL hsl (fun s hs=>by
         have h1:=rowK_lt hs
         have h2:=HN.out
         rw [Nat.one_shiftLeft] at h2
         omega) hrl
        rw [show firstB c (rowK c k v)=r from by rw [← hr];unfold bestF;rw [HN.out]] at hfi
        obtain ⟨nL,hnL⟩:∃ n,(rowK c k v).length=n:=⟨_,rfl⟩
        rw [hnL] at hfi hlk
        have HFI:=Lib.hid hfi
        have HLCW:=Lib.hid (HLC.out W HBW.out)
        have kb:W.cell? ⟨bm+1,0,none⟩=some (.map (some bm)):=(HBX9.out.below hbe HBX9.out.lt).cell 0
        have HR:=Lib.hid hr
        have HQW:Hid (qb≤W.heap.size):=Lib.hid (by omega)
        have HK12:Hid (∀ W3,Below W.heap.size W W3→Bk W3 (qb+1) 27 #[.slice none 0 0]∧Bk W3 (qb+1+1) 4 #[.bool false]):=Lib.hid fun W3 hb=>by
         have hb3:Below Bs W0 W3:=HBW.out.trans (hb.mono (by omega))
         exact ⟨HKP.out.below hb3 (by omega),HKF.out.below hb3 (by omega)⟩
        dsimp only
        rw [hv]
        clear hIW hpl hbe hno hv hvk hPB hvals hWs hrow hpos hrl hFe hsl hr hfi hnL
        gi_wp2_with (first | (refine wpLoadAtI rfl 26 _ rfl qb 0 rfl (campA V c) _ HLCW.out und_camp rfl (info_campA V c) ?_))
        refine ⟨trivial,?_⟩
        refine (CallsIn.inRound l (callsIn_wide.2 HFI.out)).mono ?_
        rintro e W3 ⟨A,n',c',rfl,hn',hc',hp,hb3⟩
        have HB3:=Lib.hid hb3
        have HP3:=Lib.hid (hp.mono HQW.out)
        have HN3:=Lib.hid hn'
        have HC3:=Lib.hid hc'
        obtain ⟨k1,k2⟩:=HK12.out W3 hb3
        have c1:=k1.cell 0
        have z1:=k1.free 0
        have c2:=k2.cell 0
        have z2:=k2.free 0
        clear hb3 hp hn' hc' hlk kb k1 k2
        cases r with
        | none =>
         have HE:=Lib.hid (HEN.out HR.out)
         simp only [Option.isSome_none]
         gi_wp2_with fail
         exact HE.out _ _ HB3.out
        | some p =>
         have HE:=Lib.hid (HES.out p A n' c' HR.out HN3.out HC3.out)
         simp only [Option.isSome_some]
         gi_wp2_with fail
         exact HE.out _ W3 HB3.out HP3.out
       case done =>
        intro D ys W hD hys hIW hK
        obtain ⟨hbe,hno⟩:=(HI.out _ _).1 hIW
        have hbn:bestB c=none:=by
         rw [HFOLD.out,HSLn.out]
         exact find_all fun u hu=>hno u (by rw [hys];exact hu)
        have hbw:Below Bs W0 W:=HB9.out.trans (hbe.mono (by omega))
        have k1:=HKP.out.below hbw (by omega)
        have k2:=HKF.out.below hbw (by omega)
        have c1:=k1.cell 0
        have z1:=k1.free 0
        have c2:=k2.cell 0
        have z2:=k2.free 0
        obtain ⟨W4,hW4⟩:∃ W4,(W.setCell ⟨qb+1,0,none⟩ (.slice none 0 0)).setCell ⟨qb+1+1,0,none⟩ (.bool false)=W4:=⟨_,rfl⟩
        have o1:=Only.setCell W (qb+1) 0 (.slice none 0 0)
        have o2:=Only.setCell (W.setCell ⟨qb+1,0,none⟩ (.slice none 0 0)) (qb+1+1) 0 (.bool false)
        have k3:Bk W4 (qb+1) 27 #[.slice none 0 0]:=by rw [← hW4];exact Bk.only (k1.set 0 _) o2 (by omega)
        have k4:Bk W4 (qb+1+1) 4 #[.bool false]:=by rw [← hW4];exact (k2.only o1 (by omega)).set 0 _
        have hK4:W4.heap[D]?=some (.deferred (some [])):=by rw [← hW4];exact (o2.block D (by omega)).trans ((o1.block D (by omega)).trans hK)
        have hb4:Below qb w W4:=by rw [← hW4];exact ((HB0.out.trans (hbw.mono (by omega))).trans (o1.below (by omega))).trans (o2.below (by omega))
        have HKD:=Lib.hid hK4
        have hg4:=grownBy_putObj' W4 D (.deferred none)
        have hr4:∀ r,some D=some r→∃ o:Obj,W4.heap[r]?=some o∧o.isCells=false:=fun r e=>by cases e;exact ⟨_,hK4,rfl⟩
        have HC1:Hid ((W4.putObj D (.deferred none)).cell? ⟨qb+1,0,none⟩=some (.slice none 0 0)):=Lib.hid ((bk_turn k3 hg4 hr4).cell 0)
        have HC2:Hid ((W4.putObj D (.deferred none)).cell? ⟨qb+1+1,0,none⟩=some (.bool false)):=Lib.hid ((bk_turn k4 hg4 hr4).cell 0)
        have HF:Hid (PQ (.returned (.tuple #[.slice none 0 0,.bool false])) (W4.putObj D (.deferred none))):=Lib.hid (by
         have:=HFIN.out none 0 0 (W4.putObj D (.deferred none)) (by rw [hbn];rfl) (Nat.le_refl _) (by rw [hbn];exact PlanO.nil _ _ _) (hb4.grown hg4 (by have:=k3.lt;omega) fun x e=>by cases e;omega)
         rw [hbn] at this;exact this)
        clear hIW hys hK hbe hno hbn hbw k1 k2 o1 o2 k3 k4 hK4 hb4 hg4 hr4
        gi_wp2_with fail
        try rw [hW4]
        refine ⟨by simp,.inl ⟨_,_,rfl,run_takeDeferred HKD.out,?_⟩⟩
        refine ⟨_,results_best _ _ (qb+1) (qb+1+1) _ _ rfl rfl HC1.out HC2.out,?_⟩
        exact HF.out
       case stop =>
        intro D cd pre W hD hSp hIx hK
        obtain ⟨rfl,hx⟩:=(HIX.out _ _ _).1 hIx
        obtain ⟨pre0,x,p,A,n',c',h1,h2,h3,h4,h5,k3,k4,h8,h9⟩:=hx.ex
        have hbs:bestB c=some p:=by
         rw [HFOLD.out,HSLn.out]
         exact find_hit (by rw [← h1];exact hSp.1) h2 h3
        have HKD:=Lib.hid hK
        have hg4:=grownBy_putObj' W D (.deferred none)
        have hr4:∀ r,some D=some r→∃ o:Obj,W.heap[r]?=some o∧o.isCells=false:=fun r e=>by cases e;exact ⟨_,hK,rfl⟩
        have HC1:Hid ((W.putObj D (.deferred none)).cell? ⟨qb+1,0,none⟩=some (.slice A n' c')):=Lib.hid ((bk_turn k3 hg4 hr4).cell 0)
        have HC2:Hid ((W.putObj D (.deferred none)).cell? ⟨qb+1+1,0,none⟩=some (.bool true)):=Lib.hid ((bk_turn k4 hg4 hr4).cell 0)
        have HF:Hid (PQ (.returned (.tuple #[.slice A n' c',.bool true])) (W.putObj D (.deferred none))):=Lib.hid (by
         have:=HFIN.out A n' c' (W.putObj D (.deferred none)) (by rw [hbs];exact h4) h5 (by rw [hbs];exact h8.turn hg4 hr4) (h9.grown hg4 (by have:=k3.lt;omega) fun x e=>by cases e;omega)
         rw [hbs] at this;exact this)
        clear hIx hx hSp hK h1 h2 h3 h4 h5 k3 k4 h8 h9 hbs hg4 hr4
        gi_wp2_with fail
        refine ⟨by simp,.inl ⟨_,_,rfl,run_takeDeferred HKD.out,?_⟩⟩
        refine ⟨_,results_best _ _ (qb+1) (qb+1+1) _ _ rfl rfl HC1.out HC2.out,?_⟩
        exact HF.out
end Go.Proofs.YtcnjenlojnognaaGreat
/- What is proved: a contract of campaign.Best. Conditions: the campaign lies in memory. -/
namespace Go.Proofs.YtcnjenlojnognaaGreat
open Go.RowKit

/-- What Best hands back. -/
def bstB (c:CampD):List LaunchD × Int:=if campB c=false then ([],2) else match bestB c with | none=>([],7) | some p=>(p,0)
def BestPost (c:CampD) (w:World) (e:Ending) (w':World):Prop :=
 ∃ A n c',e=.returned (.tuple #[.slice A n c',.int .i64 (bstB c).2])∧n=(bstB c).1.length∧n≤c'∧PlanO w' w.heap.size A (bstB c).1∧Below w.heap.size w w'
set_option maxRecDepth 100000 in
set_option maxHeartbeats 4000000 in
theorem Best_any (w:World) (V:CV) (c:CampD) (h:CampAt w w.heap.size V c) :
  Calls Tryz.prog 25 #[.agg (campA V c)] w (BestPost c w):=by
 obtain ⟨qb,hqb⟩:∃ qb,w.heap.size=qb:=⟨_,rfl⟩
 obtain ⟨W0,hW0⟩:∃ W0,w.alloc (.cells (campA V c) 26)=W0:=⟨_,rfl⟩
 have hb0:Below w.heap.size w W0:=by rw [← hW0];exact (Below.refl _ w).alloc (Nat.le_refl _) _
 have HB0:Hid (Below qb w W0):=Lib.hid (by rw [← hqb];exact hb0)
 have HKC:Hid (Bk W0 qb 26 (campA V c)):=Lib.hid (by rw [← hW0,← hqb];exact Bk.new _ _ _)
 have HSZ:Hid (qb≤W0.heap.size):=Lib.hid (by have:=HKC.out.lt;omega)
 have HCA:=Lib.hid (h.later hb0)
 have HLC:Hid (∀ w1,Below W0.heap.size W0 w1→∀ j u,(campA V c)[j]?=some u→w1.cell? ⟨qb,0+j,none⟩=some u):=Lib.hid fun w1 hb j u hj=>by rw [Nat.zero_add,(HKC.out.below hb HKC.out.lt).cell];exact hj
 have HLC0:=Lib.hid (HLC.out W0 (Below.refl _ _))
 obtain ⟨PQ,hPQ⟩:∃ Q,BestPost c w=Q:=⟨_,rfl⟩
 have HFIN:Hid (∀ (A:Option Addr) (l:List LaunchD) (n c':Nat) (er:Int) (w':World),bstB c=(l,er)→n=l.length→n≤c'→PlanO w' qb A l→Below qb w w'→PQ (.returned (.tuple #[.slice A n c',.int .i64 er])) w'):=Lib.hid fun A l n c' er w' h1 h2 h3 h4 h5=>by
  rw [← hPQ];unfold BestPost;rw [h1,hqb];exact ⟨A,n,c',rfl,h2,h3,h4,h5⟩
 obtain ⟨cb,hcb⟩:∃ b,campB c=b:=⟨_,rfl⟩
 have HCB:=Lib.hid hcb
 have hchk:=check_any W0 V c HCA.out
 rw [hcb] at hchk
 have HCK:=Lib.hid hchk
 rw [hPQ]
 clear h hb0 hcb hchk hPQ
 simp only [campA] at hW0 ⊢
 go_enter Tryz.func25,Tryz.ntmps25
 go_upto_region 1 with (fail)
 clear hW0 hqb
 go_wp2_with (first | (refine wpLoadAt rfl 26 _ rfl qb 0 rfl (campA V c) _ HLC0.out und_camp rfl (info_campA V c) ?_))
 refine HCK.out.mono ?_
 rintro e W1 ⟨rfl,hb1⟩
 have HB1:=Lib.hid hb1
 clear hb1
 cases cb with
 | false =>
  have HF:=Lib.hid (HFIN.out none [] 0 0 2 W1 (by unfold bstB;rw [if_pos HCB.out]) rfl (Nat.le_refl _) (PlanO.nil _ _ _) (HB0.out.trans (HB1.out.mono HSZ.out)))
  go_wp2_with fail
  first | exact HF.out | (go_ret2;exact HF.out)
 | true =>
  have HLC1:=Lib.hid (HLC.out W1 HB1.out)
  have HBE:=Lib.hid (best_any W1 V c (HCA.out.later HB1.out) HCB.out)
  obtain ⟨r,hr⟩:∃ r,bestB c=r:=⟨_,rfl⟩
  have HR:=Lib.hid hr
  rw [hr] at HBE
  clear hr
  go_wp2_with (first | (refine wpLoadAt rfl 26 _ rfl qb 0 rfl (campA V c) _ HLC1.out und_camp rfl (info_campA V c) ?_))
  refine HBE.out.mono ?_
  rintro e W2 ⟨A,n,c',rfl,hn,hc',hp,hb2⟩
  have HB2:Hid (Below W0.heap.size W0 W2):=Lib.hid (HB1.out.trans (hb2.mono HB1.out.size))
  cases r with
  | none =>
   have HF:=Lib.hid (HFIN.out none [] 0 0 7 W2 (by unfold bstB;rw [if_neg (by rw [HCB.out];decide),HR.out]) rfl (Nat.le_refl _) (PlanO.nil _ _ _) (HB0.out.trans (HB2.out.mono HSZ.out)))
   clear hn hc' hp hb2
   simp only [Option.isSome_none]
   go_wp2_with fail
   first | exact HF.out | (go_ret2;exact HF.out)
  | some p =>
   have HF:=Lib.hid (HFIN.out A p n c' 0 W2 (by unfold bstB;rw [if_neg (by rw [HCB.out];decide),HR.out]) hn hc' (hp.mono (by have:=HB1.out.size;have:=HSZ.out;omega)) (HB0.out.trans (HB2.out.mono HSZ.out)))
   clear hn hc' hp hb2
   simp only [Option.isSome_some]
   go_wp2_with fail
   first | exact HF.out | (go_ret2;exact HF.out)
end Go.Proofs.YtcnjenlojnognaaGreat
/- What is proved: closed facts: what the best plan, a worth, a delay, a slack, a room and a conflict are at the example. Conditions: none. -/
namespace Go.Proofs.YtcnjenlojnognaaGreat

def exD (lift:Int) (must:Bool):CampD:=⟨[⟨⟨#[120]⟩,lift,2,5⟩],[⟨⟨#[112]⟩,3,[0]⟩],[⟨⟨#[97]⟩,60,5,0,9,must⟩,⟨⟨#[98]⟩,50,4,0,4,false⟩,⟨⟨#[99]⟩,40,3,8,20,false⟩],0⟩
def exW:List LaunchD:=[⟨2,0,0,[1]⟩,⟨8,0,0,[0,2]⟩]
def exL:List LaunchD:=[⟨4,0,0,[1]⟩,⟨9,0,0,[0,2]⟩]
theorem ex_best:bstB (exD 100 false)=(exW,0):=by kernel_rfl
theorem ex_worth:worthB (exD 100 false) exW=(12,true,0):=by kernel_rfl
theorem ex_delay:delayB (exD 100 false) exW 0 2=(exL,0):=by kernel_rfl
theorem ex_slack:slackB (exD 100 false) exW 0=(2,0):=by kernel_rfl
theorem ex_room:roomB (exD 100 false) exW 1=(0,0):=by kernel_rfl
theorem ex_none:bstB (exD 30 true)=([],7):=by kernel_rfl
theorem ex_conf:confB (exD 30 true)=([0],0):=by kernel_rfl
end Go.Proofs.YtcnjenlojnognaaGreat
/- What is proved: contracts of the document's has, rising, Same, mass. Conditions: the lists lie in memory. -/
namespace Go.Proofs.YtcnjenlojnognaaGreat
open Go.RowKit

theorem wanted_un {l:List Oper} {a:Act} {o:Oper} (j:Nat) (want:Bool) (hg:o.guard=some (j,want)) {oj:Oper} {d:Nat} (hj:l[j]?=some oj) (hd:oj.dst=some d) (hv:a.tmps[d]?.getD undef=undef) :
  ¬ Region.wanted o (yielded l.toArray a.tmps)=true:=by
 cases hx:a.tmps[d]? with
 | none=>cases want <;> simp [Region.wanted,hg,yielded,hj,hd,hx]
 | some u =>
  rw [hx] at hv
  simp only [Option.getD_some] at hv
  subst hv
  cases want <;> simp [Region.wanted,hg,yielded,hj,hd,hx,undef]
theorem inW_any (a b c:Int) (w:World):Calls Tryz.prog 53 #[.int .i64 a,.int .i64 b,.int .i64 c] w fun e w'=>e=.returned (.bool (inB a b c))∧Below w.heap.size w w' :=
 (in_any a b c w).mono fun _ _ ⟨h1,h2⟩=>⟨h1,by rw [← h2];exact Below.refl _ _⟩
theorem has_any (w:World) (A:Option Addr) (c:Nat) (l:List Int) (x:Int) (h:IntsAt w w.heap.size A l) :
  Calls Tryz.prog 86 #[.slice A l.length c,.int .i64 x] w fun e w'=>e=.returned (.bool (l.contains x))∧w'=w:=by
 have HL:=Lib.hid h
 have hll:=h.1
 obtain ⟨n,hn⟩:∃ n,l.length=n:=⟨_,rfl⟩
 have HN:=Lib.hid hn
 have HD:Hid (l.contains x=!(allN n fun i=>!decide (numI l i=x))):=Lib.hid (by
  rw [← hn,any_num l fun y=>decide (y=x),Bool.eq_iff_iff];simp)
 obtain ⟨R,hR⟩:∃ R,l.contains x=R:=⟨_,rfl⟩
 have HFIN:Hid (∀ (e:Ending) (w':World),e=.returned (.bool R)→w'=w→e=.returned (.bool R)∧w'=w):=Lib.hid fun _ _ a b=>⟨a,b⟩
 rw [hn] at hll ⊢
 rw [hR] at HD ⊢
 clear h hn hR
 go_enter Tryz.func86,Tryz.ntmps86
 go_wp2_with fail
 go_loopw [5] (fun i wr=>∃ k:Nat,k≤n∧i=.int .i64 k∧Hid (wr=w∧(∀ j,j<k→¬ numI l j=x))) (fun i _=>n - (intOf i).toNat)
 case atStart=>exact ⟨0,Nat.zero_le _,rfl,Lib.hid ⟨rfl,fun j hj=>absurd hj (Nat.not_lt_zero j)⟩⟩
 case round =>
  obtain ⟨k,hk,rfl,hs⟩:=hrel
  obtain ⟨hw,hno⟩:=hs.out
  subst hw
  have HNO:=Lib.hid hno
  clear hno hs
  by_cases hlt:k<n
  ·have hki:(k:Int)<(n:Int):=by omega
   have h0k:(0:Int)≤(k:Int):=by omega
   have hkt:k<l.length:=by rw [HN.out];exact hlt
   obtain ⟨bb,off,rfl,_,d0⟩:=Sl.at1 HL.out hkt
   obtain ⟨y,hy⟩:∃ y,numI l k=y:=⟨_,rfl⟩
   have HY:=Lib.hid hy
   try dsimp only at d0
   rw [hy] at d0
   clear hy
   by_cases he:y=x
   ·have HR:Hid (R=true):=Lib.hid (by
     rw [HD.out]
     cases ha:allN n fun i=>!decide (numI l i=x) with
     | false=>rfl
     | true =>
      have:=allN_iff.1 ha k hlt
      rw [HY.out] at this
      simp [he] at this)
    have h1:(y == x)=true:=by simp [he]
    clear he
    go_wp2_with fail
    go_ret
    exact HFIN.out _ _ (by rw [HR.out];rfl) rfl
   ·have h1:(y == x)=false:=by simp [he]
    have HE:=Lib.hid he
    clear he
    go_wp2_with fail
    go_roundw
    case rel=>exact ⟨k+1,by omega,by go_num,Lib.hid ⟨by first | exact trivial | rfl,fun j hj=>by
     by_cases e:j=k
     ·subst e;rw [HY.out];exact HE.out
     ·exact HNO.out j (by omega)⟩⟩
    case measure=>simp [intOf];omega
  ·obtain rfl:k=n:=by omega
   have HR:Hid (R=false):=Lib.hid (by
    rw [HD.out]
    have:(allN k fun i=>!decide (numI l i=x))=true:=allN_iff.2 fun i hi=>by simpa using HNO.out i hi
    rw [this];rfl)
   go_wp2_with fail
   go_ret
   exact HFIN.out _ _ (by rw [HR.out];rfl) rfl
set_option maxRecDepth 100000 in
set_option maxHeartbeats 4000000 in
theorem refRising_any (w:World) (A:Option Addr) (c:Nat) (l:List Int) (many:Int) (hm:0≤many∧many≤9223372036854775807) (h:IntsAt w w.heap.size A l) :
  Calls Tryz.prog 54 #[.slice A l.length c,.int .i64 many] w fun e w'=>e=.returned (.bool (risingB l many))∧Below w.heap.size w w':=by
 have HL:=Lib.hid h
 have hll:=h.1
 obtain ⟨n,hn⟩:∃ n,l.length=n:=⟨_,rfl⟩
 have HN:=Lib.hid hn
 have HD:Hid (risingB l many=allN n fun i=>inB (numI l i) 0 (many - 1) && (decide (i=0) || decide (numI l (i - 1)<numI l i))):=Lib.hid (by unfold risingB;rw [hn])
 obtain ⟨R,hR⟩:∃ R,risingB l many=R:=⟨_,rfl⟩
 obtain ⟨PQ,hPQ⟩:∃ Q,(fun (e:Ending) (w':World)=>e=.returned (.bool R)∧Below w.heap.size w w')=Q:=⟨_,rfl⟩
 have HFIN:Hid (∀ x w',R=x→Below w.heap.size w w'→PQ (.returned (.bool x)) w'):=Lib.hid fun x w' h1 h2=>by rw [← hPQ,h1];exact ⟨rfl,h2⟩
 have HWS:Hid (IntKind.i64.wrap (many - 1)=many - 1):=Lib.hid (IntWalk.i64_in _ (by omega))
 rw [hn] at hll ⊢
 rw [hR] at HD ⊢
 rw [hPQ]
 clear h hn hR hm hPQ
 go_enter Tryz.func54,Tryz.ntmps54
 go_wp2_with fail
 go_loopw [5] (fun i wr=>∃ k:Nat,k≤n∧i=.int .i64 k∧Hid (Below w.heap.size w wr∧(∀ j,j<k→(inB (numI l j) 0 (many - 1) && (decide (j=0) || decide (numI l (j - 1)<numI l j)))=true))) (fun i _=>n - (intOf i).toNat)
 case atStart=>exact ⟨0,Nat.zero_le _,rfl,Lib.hid ⟨Below.refl _ _,fun j hj=>absurd hj (Nat.not_lt_zero j)⟩⟩
 case round =>
  obtain ⟨wo,rfl⟩:∃ wo:World,wo=wr:=⟨_,rfl⟩
  obtain ⟨k,hk,rfl,hs⟩:=hrel
  have HB:=Lib.hid hs.out.1
  have HNO:=Lib.hid hs.out.2
  clear hs
  have h0k:(0:Int)≤(k:Int):=by omega
  by_cases hlt:k<n
  ·have hki:(k:Int)<(n:Int):=by omega
   have hkt:k<l.length:=by rw [HN.out];exact hlt
   obtain ⟨bb,off,hA,hbb,hc⟩:=HL.out.2 (by rw [HN.out];omega)
   subst hA
   have HCC:Hid (∀ w1,Below wo.heap.size wo w1→∀ j,j<n→w1.cell? ⟨bb,off+j,none⟩=some (.int .i64 (numI l j))):=Lib.hid fun w1 hb j hj=>by
    rw [(HB.out.trans (hb.mono HB.out.size)).cell (p:=⟨bb,off+j,none⟩) hbb]
    have:=hc j (by rw [HN.out];exact hj) 0 (by omega)
    simpa using this
   obtain ⟨y,hy⟩:∃ y,numI l k=y:=⟨_,rfl⟩
   have HY:=Lib.hid hy
   have HCY:Hid (∀ w1,Below wo.heap.size wo w1→w1.cell? ⟨bb,off+k,none⟩=some (.int .i64 y)):=Lib.hid fun w1 hb=>by rw [← hy];exact HCC.out w1 hb k hlt
   have HBAD:Hid ((inB (numI l k) 0 (many - 1) && (decide (k=0) || decide (numI l (k - 1)<numI l k)))=false→R=false):=Lib.hid fun hb=>by
    rw [HD.out]
    cases ha:allN n _ with
    | false=>rfl
    | true=>rw [allN_iff.1 ha k hlt] at hb;cases hb
   have HGO:Hid ((inB (numI l k) 0 (many - 1) && (decide (k=0) || decide (numI l (k - 1)<numI l k)))=true→∀ j,j<k+1→(inB (numI l j) 0 (many - 1) && (decide (j=0) || decide (numI l (j - 1)<numI l j)))=true):=Lib.hid fun hb j hj=>by
    by_cases e:j=k
    ·subst e;exact hb
    ·exact HNO.out j (by omega)
   have HI:Hid (∀ w1,Calls Tryz.prog 53 #[.int .i64 y,.int .i64 0,.int .i64 (many - 1)] w1 fun e w'=>e=.returned (.bool (inB y 0 (many - 1)))∧Below w1.heap.size w1 w'):=Lib.hid fun w1=>inW_any _ _ _ w1
   obtain ⟨b1,hb1⟩:∃ b,inB y 0 (many - 1)=b:=⟨_,rfl⟩
   rw [hb1] at HI
   rw [hy,hb1] at HBAD HGO
   clear hy hb1 hc hkt
   cases b1 with
   | false =>
    have HRF:Hid (R=false):=Lib.hid (HBAD.out rfl)
    clear HBAD HGO
    go_upto_region 4 with (fail)
    refine wp_region_steps (by kernel_rfl) (by kernel_rfl) (fun w1=>Below wo.heap.size wo w1) (fun _ _ _=>True)
     (fun ix u _ _=>match ix with
      | 0=>u=.slice (some ⟨bb,off,none⟩) n c
      | 1=>u=.int .i64 (k:Int)
      | 2=>u=.pointer (some ⟨bb,off+k,none⟩)
      | 3=>u=.int .i64 y
      | 4=>u=.int .i64 many
      | 5=>u=.int .i64 (many - 1)
      | 6=>u=.bool false
      | 7=>u=.bool true
      | 8=>u=.bool true
      | 9=>u=undef
      | 10=>u=undef
      | 11=>u=undef
      | 12=>u=undef
      | 13=>u=undef
      | 14=>u=undef
      | 15=>u=undef
      | 16=>u=undef
      | 17=>u=undef
      | 18=>u=undef
      | 19=>u=undef
      | 20=>u=undef
      | 21=>u=undef
      | 22=>u=undef
      | _=>u=.bool true) (Below.refl _ _).drew (fun _ _ _ _ _ _ _ _ h _ _=>h) ?_ ?_
    ·refine ⟨?_,?_,?_,?_,?_,?_,?_,?_,?_,?_,?_,?_,?_,?_,?_,?_,?_,?_,?_,?_,?_,?_,?_,?_,trivial⟩
     ·intro a w1 vs K HJ HK HD HN kk
      have e0:=HK 0 (by decide)
      go_simp;exact kk _ _ (by simp) HJ trivial rfl
     ·intro a w1 vs K HJ HK HD HN kk
      have e5:=HK 5 (by decide)
      go_simp;exact kk _ _ (by simp) HJ trivial rfl
     ·intro a w1 vs K HJ HK HD HN kk
      have e12:=hdE (HD 0 _ 12 rfl rfl rfl)
      have e13:=hdE (HD 1 _ 13 rfl rfl rfl)
      go_simp;exact kk _ _ (by simp) HJ trivial rfl
     ·intro a w1 vs K HJ HK HD HN kk
      have e14:=hdE (HD 2 _ 14 rfl rfl rfl)
      have ca:w1.cell? ⟨bb,off+k,none⟩=some (.int .i64 y):=HCY.out w1 HJ
      go_simp;exact kk _ _ (by simp) HJ trivial rfl
     ·intro a w1 vs K HJ HK HD HN kk
      have e1:=HK 1 (by decide)
      go_simp;exact kk _ _ (by simp) HJ trivial rfl
     ·intro a w1 vs K HJ HK HD HN kk
      have e16:=hdE (HD 4 _ 16 rfl rfl rfl)
      have hws:=HWS.out
      go_simp;exact kk _ _ (by simp) HJ trivial rfl
     ·intro a w1 vs K HJ HK HD HN kk
      have e15:=hdE (HD 3 _ 15 rfl rfl rfl)
      have e17:=hdE (HD 5 _ 17 rfl rfl rfl)
      exact wpo_call 53 _ _ rfl #[.int .i64 y,.int .i64 0,.int .i64 (many - 1)] (by simp [Act.eval,e15,e17]) (fun args w=>by kernel_rfl)
       ((HI.out w1).mono fun e w' ⟨he,hb⟩=>⟨_,he,kk _ _ (by simp) (Below.trans HJ (hb.mono HJ.size)) trivial rfl⟩)
     ·intro a w1 vs K HJ HK HD HN kk
      have e18:=hdE (HD 6 _ 18 rfl rfl rfl)
      go_simp;exact kk _ _ (by simp) HJ trivial rfl
     ·intro a w1 vs K HJ HK HD HN kk
      have e19:=hdE (HD 7 _ 19 rfl rfl rfl)
      go_simp;exact kk _ _ (by simp) HJ trivial rfl
     ·intro a w1 vs K HJ HK HD HN kk
      have e20:=hdE (HD 8 _ 20 rfl rfl rfl)
      rw [if_neg (wanted_no 8 false rfl rfl rfl e20)]
      exact kk undef _ (by simp) HJ trivial rfl
     ·intro a w1 vs K HJ HK HD HN kk
      have e20:=hdE (HD 8 _ 20 rfl rfl rfl)
      rw [if_neg (wanted_no 8 false rfl rfl rfl e20)]
      exact kk undef _ (by simp) HJ trivial rfl
     ·intro a w1 vs K HJ HK HD HN kk
      have e20:=hdE (HD 8 _ 20 rfl rfl rfl)
      rw [if_neg (wanted_no 8 false rfl rfl rfl e20)]
      exact kk undef _ (by simp) HJ trivial rfl
     ·intro a w1 vs K HJ HK HD HN kk
      have e23:=hdE (HD 11 _ 23 rfl rfl rfl)
      rw [if_neg (wanted_un 11 true rfl rfl rfl e23)]
      exact kk undef _ (by simp) HJ trivial rfl
     ·intro a w1 vs K HJ HK HD HN kk
      have e23:=hdE (HD 11 _ 23 rfl rfl rfl)
      rw [if_neg (wanted_un 11 true rfl rfl rfl e23)]
      exact kk undef _ (by simp) HJ trivial rfl
     ·intro a w1 vs K HJ HK HD HN kk
      have e23:=hdE (HD 11 _ 23 rfl rfl rfl)
      rw [if_neg (wanted_un 11 true rfl rfl rfl e23)]
      exact kk undef _ (by simp) HJ trivial rfl
     ·intro a w1 vs K HJ HK HD HN kk
      have e23:=hdE (HD 11 _ 23 rfl rfl rfl)
      rw [if_neg (wanted_un 11 true rfl rfl rfl e23)]
      exact kk undef _ (by simp) HJ trivial rfl
     ·intro a w1 vs K HJ HK HD HN kk
      have e23:=hdE (HD 11 _ 23 rfl rfl rfl)
      rw [if_neg (wanted_un 11 true rfl rfl rfl e23)]
      exact kk undef _ (by simp) HJ trivial rfl
     ·intro a w1 vs K HJ HK HD HN kk
      have e23:=hdE (HD 11 _ 23 rfl rfl rfl)
      rw [if_neg (wanted_un 11 true rfl rfl rfl e23)]
      exact kk undef _ (by simp) HJ trivial rfl
     ·intro a w1 vs K HJ HK HD HN kk
      have e23:=hdE (HD 11 _ 23 rfl rfl rfl)
      rw [if_neg (wanted_un 11 true rfl rfl rfl e23)]
      exact kk undef _ (by simp) HJ trivial rfl
     ·intro a w1 vs K HJ HK HD HN kk
      have e23:=hdE (HD 11 _ 23 rfl rfl rfl)
      rw [if_neg (wanted_un 11 true rfl rfl rfl e23)]
      exact kk undef _ (by simp) HJ trivial rfl
     ·intro a w1 vs K HJ HK HD HN kk
      have e23:=hdE (HD 11 _ 23 rfl rfl rfl)
      rw [if_neg (wanted_un 11 true rfl rfl rfl e23)]
      exact kk undef _ (by simp) HJ trivial rfl
     ·intro a w1 vs K HJ HK HD HN kk
      have e23:=hdE (HD 11 _ 23 rfl rfl rfl)
      rw [if_neg (wanted_un 11 true rfl rfl rfl e23)]
      exact kk undef _ (by simp) HJ trivial rfl
     ·intro a w1 vs K HJ HK HD HN kk
      have e20:=hdE (HD 8 _ 20 rfl rfl rfl)
      rw [if_neg (wanted_no 8 false rfl rfl rfl e20)]
      exact kk undef _ (by simp) HJ trivial rfl
     ·intro a w1 vs K HJ HK HD HN kk
      have e20:=hdE (HD 8 _ 20 rfl rfl rfl)
      have e34:=hdE (HD 22 _ 34 rfl rfl rfl)
      go_simp;exact kk _ _ (by simp) HJ trivial rfl
    ·intro vs W3 hw6 hrr
     have e23:vs 23=.bool true:=hrr 23 _ rfl
     have HB3:Hid (Below w.heap.size w W3):=Lib.hid (HB.out.trans (Below.mono hw6 HB.out.size))
     clear hrr hw6
     simp only [putAll,Act.put,List.setIfInBounds_toArray,List.set_cons_zero,List.set_cons_succ]
     rw [e23]
     go_wp2_with fail
     first | exact HFIN.out _ _ HRF.out HB3.out | (go_ret;exact HFIN.out _ _ HRF.out HB3.out)
   | true =>
    by_cases hk0:k=0
    ·have HG:=Lib.hid (HGO.out (by rw [decide_eq_true hk0];rfl))
     have HGT:Hid (¬ (0:Int)<(k:Int)):=Lib.hid (by omega)
     have HGT2:Hid (¬ 0<k):=Lib.hid (by omega)
     clear hk0
     clear HBAD HGO
     go_upto_region 4 with (fail)
     refine wp_region_steps (by kernel_rfl) (by kernel_rfl) (fun w1=>Below wo.heap.size wo w1) (fun _ _ _=>True)
      (fun ix u _ _=>match ix with
       | 0=>u=.slice (some ⟨bb,off,none⟩) n c
       | 1=>u=.int .i64 (k:Int)
       | 2=>u=.pointer (some ⟨bb,off+k,none⟩)
       | 3=>u=.int .i64 y
       | 4=>u=.int .i64 many
       | 5=>u=.int .i64 (many - 1)
       | 6=>u=.bool true
       | 7=>u=.bool false
       | 8=>u=.bool false
       | 9=>u=.int .i64 (k:Int)
       | 10=>u=.bool false
       | 11=>u=.bool false
       | 12=>u=undef
       | 13=>u=undef
       | 14=>u=undef
       | 15=>u=undef
       | 16=>u=undef
       | 17=>u=undef
       | 18=>u=undef
       | 19=>u=undef
       | 20=>u=undef
       | 21=>u=undef
       | 22=>u=.bool false
       | _=>u=.bool false) (Below.refl _ _).drew (fun _ _ _ _ _ _ _ _ h _ _=>h) ?_ ?_
     ·refine ⟨?_,?_,?_,?_,?_,?_,?_,?_,?_,?_,?_,?_,?_,?_,?_,?_,?_,?_,?_,?_,?_,?_,?_,?_,trivial⟩
      ·intro a w1 vs K HJ HK HD HN kk
       have e0:=HK 0 (by decide)
       go_simp;exact kk _ _ (by simp) HJ trivial rfl
      ·intro a w1 vs K HJ HK HD HN kk
       have e5:=HK 5 (by decide)
       go_simp;exact kk _ _ (by simp) HJ trivial rfl
      ·intro a w1 vs K HJ HK HD HN kk
       have e12:=hdE (HD 0 _ 12 rfl rfl rfl)
       have e13:=hdE (HD 1 _ 13 rfl rfl rfl)
       go_simp;exact kk _ _ (by simp) HJ trivial rfl
      ·intro a w1 vs K HJ HK HD HN kk
       have e14:=hdE (HD 2 _ 14 rfl rfl rfl)
       have ca:w1.cell? ⟨bb,off+k,none⟩=some (.int .i64 y):=HCY.out w1 HJ
       go_simp;exact kk _ _ (by simp) HJ trivial rfl
      ·intro a w1 vs K HJ HK HD HN kk
       have e1:=HK 1 (by decide)
       go_simp;exact kk _ _ (by simp) HJ trivial rfl
      ·intro a w1 vs K HJ HK HD HN kk
       have e16:=hdE (HD 4 _ 16 rfl rfl rfl)
       have hws:=HWS.out
       go_simp;exact kk _ _ (by simp) HJ trivial rfl
      ·intro a w1 vs K HJ HK HD HN kk
       have e15:=hdE (HD 3 _ 15 rfl rfl rfl)
       have e17:=hdE (HD 5 _ 17 rfl rfl rfl)
       exact wpo_call 53 _ _ rfl #[.int .i64 y,.int .i64 0,.int .i64 (many - 1)] (by simp [Act.eval,e15,e17]) (fun args w=>by kernel_rfl)
        ((HI.out w1).mono fun e w' ⟨he,hb⟩=>⟨_,he,kk _ _ (by simp) (Below.trans HJ (hb.mono HJ.size)) trivial rfl⟩)
      ·intro a w1 vs K HJ HK HD HN kk
       have e18:=hdE (HD 6 _ 18 rfl rfl rfl)
       go_simp;exact kk _ _ (by simp) HJ trivial rfl
      ·intro a w1 vs K HJ HK HD HN kk
       have e19:=hdE (HD 7 _ 19 rfl rfl rfl)
       go_simp;exact kk _ _ (by simp) HJ trivial rfl
      ·intro a w1 vs K HJ HK HD HN kk
       have e20:=hdE (HD 8 _ 20 rfl rfl rfl)
       rw [if_pos (wanted_yes 8 false rfl rfl rfl e20)]
       have e5:=HK 5 (by decide)
       go_simp;exact kk _ _ (by simp) HJ trivial rfl
      ·intro a w1 vs K HJ HK HD HN kk
       have e20:=hdE (HD 8 _ 20 rfl rfl rfl)
       rw [if_pos (wanted_yes 8 false rfl rfl rfl e20)]
       have e21:=hdE (HD 9 _ 21 rfl rfl rfl)
       have hgt:=HGT.out
       have hgt2:=HGT2.out
       go_simp;exact kk _ _ (by simp) HJ trivial rfl
      ·intro a w1 vs K HJ HK HD HN kk
       have e20:=hdE (HD 8 _ 20 rfl rfl rfl)
       rw [if_pos (wanted_yes 8 false rfl rfl rfl e20)]
       have e22:=hdE (HD 10 _ 22 rfl rfl rfl)
       go_simp;exact kk _ _ (by simp) HJ trivial rfl
      ·intro a w1 vs K HJ HK HD HN kk
       have e23:=hdE (HD 11 _ 23 rfl rfl rfl)
       rw [if_neg (wanted_no 11 true rfl rfl rfl e23)]
       exact kk undef _ (by simp) HJ trivial rfl
      ·intro a w1 vs K HJ HK HD HN kk
       have e23:=hdE (HD 11 _ 23 rfl rfl rfl)
       rw [if_neg (wanted_no 11 true rfl rfl rfl e23)]
       exact kk undef _ (by simp) HJ trivial rfl
      ·intro a w1 vs K HJ HK HD HN kk
       have e23:=hdE (HD 11 _ 23 rfl rfl rfl)
       rw [if_neg (wanted_no 11 true rfl rfl rfl e23)]
       exact kk undef _ (by simp) HJ trivial rfl
      ·intro a w1 vs K HJ HK HD HN kk
       have e23:=hdE (HD 11 _ 23 rfl rfl rfl)
       rw [if_neg (wanted_no 11 true rfl rfl rfl e23)]
       exact kk undef _ (by simp) HJ trivial rfl
      ·intro a w1 vs K HJ HK HD HN kk
       have e23:=hdE (HD 11 _ 23 rfl rfl rfl)
       rw [if_neg (wanted_no 11 true rfl rfl rfl e23)]
       exact kk undef _ (by simp) HJ trivial rfl
      ·intro a w1 vs K HJ HK HD HN kk
       have e23:=hdE (HD 11 _ 23 rfl rfl rfl)
       rw [if_neg (wanted_no 11 true rfl rfl rfl e23)]
       exact kk undef _ (by simp) HJ trivial rfl
      ·intro a w1 vs K HJ HK HD HN kk
       have e23:=hdE (HD 11 _ 23 rfl rfl rfl)
       rw [if_neg (wanted_no 11 true rfl rfl rfl e23)]
       exact kk undef _ (by simp) HJ trivial rfl
      ·intro a w1 vs K HJ HK HD HN kk
       have e23:=hdE (HD 11 _ 23 rfl rfl rfl)
       rw [if_neg (wanted_no 11 true rfl rfl rfl e23)]
       exact kk undef _ (by simp) HJ trivial rfl
      ·intro a w1 vs K HJ HK HD HN kk
       have e23:=hdE (HD 11 _ 23 rfl rfl rfl)
       rw [if_neg (wanted_no 11 true rfl rfl rfl e23)]
       exact kk undef _ (by simp) HJ trivial rfl
      ·intro a w1 vs K HJ HK HD HN kk
       have e23:=hdE (HD 11 _ 23 rfl rfl rfl)
       rw [if_neg (wanted_no 11 true rfl rfl rfl e23)]
       exact kk undef _ (by simp) HJ trivial rfl
      ·intro a w1 vs K HJ HK HD HN kk
       have e20:=hdE (HD 8 _ 20 rfl rfl rfl)
       rw [if_pos (wanted_yes 8 false rfl rfl rfl e20)]
       have e23:=hdE (HD 11 _ 23 rfl rfl rfl)
       have e33:=hdE (HD 21 _ 33 rfl rfl rfl)
       go_simp;exact kk _ _ (by simp) HJ trivial rfl
      ·intro a w1 vs K HJ HK HD HN kk
       have e20:=hdE (HD 8 _ 20 rfl rfl rfl)
       have e34:=hdE (HD 22 _ 34 rfl rfl rfl)
       go_simp;exact kk _ _ (by simp) HJ trivial rfl
     ·intro vs W3 hw6 hrr
      have e23:vs 23=.bool false:=hrr 23 _ rfl
      have HB3:Hid (Below w.heap.size w W3):=Lib.hid (HB.out.trans (Below.mono hw6 HB.out.size))
      clear hrr hw6
      simp only [putAll,Act.put,List.setIfInBounds_toArray,List.set_cons_zero,List.set_cons_succ]
      rw [e23]
      go_wp2_with fail
      go_roundw
      case rel=>exact ⟨k+1,by omega,by go_num,Lib.hid ⟨HB3.out,HG.out⟩⟩
      case measure=>simp [intOf];omega
    ·obtain ⟨m,hm⟩:∃ m,k=m+1:=⟨k - 1,by omega⟩
     have hmk:k - 1=m:=by omega
     have hmn:m<n:=by omega
     have HK0:=Lib.hid hk0
     obtain ⟨z,hz⟩:∃ z,numI l m=z:=⟨_,rfl⟩
     have HCZ:Hid (∀ w1,Below wo.heap.size wo w1→w1.cell? ⟨bb,off+m,none⟩=some (.int .i64 z)):=Lib.hid fun w1 hb=>by rw [← hz];exact HCC.out w1 hb m (by omega)
     have HWM:Hid (IntKind.i64.wrap ((k:Int) - 1)=(m:Int)):=Lib.hid (by rw [IntWalk.i64_in _ (by omega)];omega)
     have HGT:Hid ((0:Int)<(k:Int)):=Lib.hid (by omega)
     have HGT2:Hid (0<k):=Lib.hid (by omega)
     rw [hmk,hz] at HBAD HGO
     clear hz hmk hm hk0
     by_cases hzy:z<y
     ·have HG:=Lib.hid (HGO.out (by rw [decide_eq_true hzy,Bool.or_true];rfl))
      have HZY:Hid (¬ y≤z):=Lib.hid (by omega)
      clear HBAD HGO hzy
      go_upto_region 4 with (fail)
      refine wp_region_steps (by kernel_rfl) (by kernel_rfl) (fun w1=>Below wo.heap.size wo w1) (fun _ _ _=>True)
       (fun ix u _ _=>match ix with
        | 0=>u=.slice (some ⟨bb,off,none⟩) n c
        | 1=>u=.int .i64 (k:Int)
        | 2=>u=.pointer (some ⟨bb,off+k,none⟩)
        | 3=>u=.int .i64 y
        | 4=>u=.int .i64 many
        | 5=>u=.int .i64 (many - 1)
        | 6=>u=.bool true
        | 7=>u=.bool false
        | 8=>u=.bool false
        | 9=>u=.int .i64 (k:Int)
        | 10=>u=.bool true
        | 11=>u=.bool true
        | 12=>u=.slice (some ⟨bb,off,none⟩) n c
        | 13=>u=.int .i64 (k:Int)
        | 14=>u=.pointer (some ⟨bb,off+k,none⟩)
        | 15=>u=.int .i64 y
        | 16=>u=.slice (some ⟨bb,off,none⟩) n c
        | 17=>u=.int .i64 (k:Int)
        | 18=>u=.int .i64 (m:Int)
        | 19=>u=.pointer (some ⟨bb,off+m,none⟩)
        | 20=>u=.int .i64 z
        | 21=>u=.bool false
        | 22=>u=.bool false
        | _=>u=.bool false) (Below.refl _ _).drew (fun _ _ _ _ _ _ _ _ h _ _=>h) ?_ ?_
      ·refine ⟨?_,?_,?_,?_,?_,?_,?_,?_,?_,?_,?_,?_,?_,?_,?_,?_,?_,?_,?_,?_,?_,?_,?_,?_,trivial⟩
       ·intro a w1 vs K HJ HK HD HN kk
        have e0:=HK 0 (by decide)
        go_simp;exact kk _ _ (by simp) HJ trivial rfl
       ·intro a w1 vs K HJ HK HD HN kk
        have e5:=HK 5 (by decide)
        go_simp;exact kk _ _ (by simp) HJ trivial rfl
       ·intro a w1 vs K HJ HK HD HN kk
        have e12:=hdE (HD 0 _ 12 rfl rfl rfl)
        have e13:=hdE (HD 1 _ 13 rfl rfl rfl)
        go_simp;exact kk _ _ (by simp) HJ trivial rfl
       ·intro a w1 vs K HJ HK HD HN kk
        have e14:=hdE (HD 2 _ 14 rfl rfl rfl)
        have ca:w1.cell? ⟨bb,off+k,none⟩=some (.int .i64 y):=HCY.out w1 HJ
        go_simp;exact kk _ _ (by simp) HJ trivial rfl
       ·intro a w1 vs K HJ HK HD HN kk
        have e1:=HK 1 (by decide)
        go_simp;exact kk _ _ (by simp) HJ trivial rfl
       ·intro a w1 vs K HJ HK HD HN kk
        have e16:=hdE (HD 4 _ 16 rfl rfl rfl)
        have hws:=HWS.out
        go_simp;exact kk _ _ (by simp) HJ trivial rfl
       ·intro a w1 vs K HJ HK HD HN kk
        have e15:=hdE (HD 3 _ 15 rfl rfl rfl)
        have e17:=hdE (HD 5 _ 17 rfl rfl rfl)
        exact wpo_call 53 _ _ rfl #[.int .i64 y,.int .i64 0,.int .i64 (many - 1)] (by simp [Act.eval,e15,e17]) (fun args w=>by kernel_rfl)
         ((HI.out w1).mono fun e w' ⟨he,hb⟩=>⟨_,he,kk _ _ (by simp) (Below.trans HJ (hb.mono HJ.size)) trivial rfl⟩)
       ·intro a w1 vs K HJ HK HD HN kk
        have e18:=hdE (HD 6 _ 18 rfl rfl rfl)
        go_simp;exact kk _ _ (by simp) HJ trivial rfl
       ·intro a w1 vs K HJ HK HD HN kk
        have e19:=hdE (HD 7 _ 19 rfl rfl rfl)
        go_simp;exact kk _ _ (by simp) HJ trivial rfl
       ·intro a w1 vs K HJ HK HD HN kk
        have e20:=hdE (HD 8 _ 20 rfl rfl rfl)
        rw [if_pos (wanted_yes 8 false rfl rfl rfl e20)]
        have e5:=HK 5 (by decide)
        go_simp;exact kk _ _ (by simp) HJ trivial rfl
       ·intro a w1 vs K HJ HK HD HN kk
        have e20:=hdE (HD 8 _ 20 rfl rfl rfl)
        rw [if_pos (wanted_yes 8 false rfl rfl rfl e20)]
        have e21:=hdE (HD 9 _ 21 rfl rfl rfl)
        have hgt:=HGT.out
        have hgt2:=HGT2.out
        go_simp;exact kk _ _ (by simp) HJ trivial rfl
       ·intro a w1 vs K HJ HK HD HN kk
        have e20:=hdE (HD 8 _ 20 rfl rfl rfl)
        rw [if_pos (wanted_yes 8 false rfl rfl rfl e20)]
        have e22:=hdE (HD 10 _ 22 rfl rfl rfl)
        go_simp;exact kk _ _ (by simp) HJ trivial rfl
       ·intro a w1 vs K HJ HK HD HN kk
        have e23:=hdE (HD 11 _ 23 rfl rfl rfl)
        rw [if_pos (wanted_yes 11 true rfl rfl rfl e23)]
        have e0:=HK 0 (by decide)
        go_simp;exact kk _ _ (by simp) HJ trivial rfl
       ·intro a w1 vs K HJ HK HD HN kk
        have e23:=hdE (HD 11 _ 23 rfl rfl rfl)
        rw [if_pos (wanted_yes 11 true rfl rfl rfl e23)]
        have e5:=HK 5 (by decide)
        go_simp;exact kk _ _ (by simp) HJ trivial rfl
       ·intro a w1 vs K HJ HK HD HN kk
        have e23:=hdE (HD 11 _ 23 rfl rfl rfl)
        rw [if_pos (wanted_yes 11 true rfl rfl rfl e23)]
        have e24:=hdE (HD 12 _ 24 rfl rfl rfl)
        have e25:=hdE (HD 13 _ 25 rfl rfl rfl)
        go_simp;exact kk _ _ (by simp) HJ trivial rfl
       ·intro a w1 vs K HJ HK HD HN kk
        have e23:=hdE (HD 11 _ 23 rfl rfl rfl)
        rw [if_pos (wanted_yes 11 true rfl rfl rfl e23)]
        have e26:=hdE (HD 14 _ 26 rfl rfl rfl)
        have ca:w1.cell? ⟨bb,off+k,none⟩=some (.int .i64 y):=HCY.out w1 HJ
        go_simp;exact kk _ _ (by simp) HJ trivial rfl
       ·intro a w1 vs K HJ HK HD HN kk
        have e23:=hdE (HD 11 _ 23 rfl rfl rfl)
        rw [if_pos (wanted_yes 11 true rfl rfl rfl e23)]
        have e0:=HK 0 (by decide)
        go_simp;exact kk _ _ (by simp) HJ trivial rfl
       ·intro a w1 vs K HJ HK HD HN kk
        have e23:=hdE (HD 11 _ 23 rfl rfl rfl)
        rw [if_pos (wanted_yes 11 true rfl rfl rfl e23)]
        have e5:=HK 5 (by decide)
        go_simp;exact kk _ _ (by simp) HJ trivial rfl
       ·intro a w1 vs K HJ HK HD HN kk
        have e23:=hdE (HD 11 _ 23 rfl rfl rfl)
        rw [if_pos (wanted_yes 11 true rfl rfl rfl e23)]
        have e29:=hdE (HD 17 _ 29 rfl rfl rfl)
        have hwm:=HWM.out
        go_simp;exact kk _ _ (by simp) HJ trivial rfl
       ·intro a w1 vs K HJ HK HD HN kk
        have e23:=hdE (HD 11 _ 23 rfl rfl rfl)
        rw [if_pos (wanted_yes 11 true rfl rfl rfl e23)]
        have e28:=hdE (HD 16 _ 28 rfl rfl rfl)
        have e30:=hdE (HD 18 _ 30 rfl rfl rfl)
        go_simp;exact kk _ _ (by simp) HJ trivial rfl
       ·intro a w1 vs K HJ HK HD HN kk
        have e23:=hdE (HD 11 _ 23 rfl rfl rfl)
        rw [if_pos (wanted_yes 11 true rfl rfl rfl e23)]
        have e31:=hdE (HD 19 _ 31 rfl rfl rfl)
        have ca:w1.cell? ⟨bb,off+m,none⟩=some (.int .i64 z):=HCZ.out w1 HJ
        go_simp;exact kk _ _ (by simp) HJ trivial rfl
       ·intro a w1 vs K HJ HK HD HN kk
        have e23:=hdE (HD 11 _ 23 rfl rfl rfl)
        rw [if_pos (wanted_yes 11 true rfl rfl rfl e23)]
        have e27:=hdE (HD 15 _ 27 rfl rfl rfl)
        have e32:=hdE (HD 20 _ 32 rfl rfl rfl)
        have hzy:=HZY.out
        go_simp;exact kk _ _ (by simp) HJ trivial rfl
       ·intro a w1 vs K HJ HK HD HN kk
        have e20:=hdE (HD 8 _ 20 rfl rfl rfl)
        rw [if_pos (wanted_yes 8 false rfl rfl rfl e20)]
        have e23:=hdE (HD 11 _ 23 rfl rfl rfl)
        have e33:=hdE (HD 21 _ 33 rfl rfl rfl)
        go_simp;exact kk _ _ (by simp) HJ trivial rfl
       ·intro a w1 vs K HJ HK HD HN kk
        have e20:=hdE (HD 8 _ 20 rfl rfl rfl)
        have e34:=hdE (HD 22 _ 34 rfl rfl rfl)
        go_simp;exact kk _ _ (by simp) HJ trivial rfl
      ·intro vs W3 hw6 hrr
       have e23:vs 23=.bool false:=hrr 23 _ rfl
       have HB3:Hid (Below w.heap.size w W3):=Lib.hid (HB.out.trans (Below.mono hw6 HB.out.size))
       clear hrr hw6
       simp only [putAll,Act.put,List.setIfInBounds_toArray,List.set_cons_zero,List.set_cons_succ]
       rw [e23]
       go_wp2_with fail
       go_roundw
       case rel=>exact ⟨k+1,by omega,by go_num,Lib.hid ⟨HB3.out,HG.out⟩⟩
       case measure=>simp [intOf];omega
     ·have HRF:Hid (R=false):=Lib.hid (HBAD.out (by rw [decide_eq_false hzy,decide_eq_false HK0.out];rfl))
      have HZY:Hid (y≤z):=Lib.hid (by omega)
      clear HBAD HGO hzy
      go_upto_region 4 with (fail)
      refine wp_region_steps (by kernel_rfl) (by kernel_rfl) (fun w1=>Below wo.heap.size wo w1) (fun _ _ _=>True)
       (fun ix u _ _=>match ix with
        | 0=>u=.slice (some ⟨bb,off,none⟩) n c
        | 1=>u=.int .i64 (k:Int)
        | 2=>u=.pointer (some ⟨bb,off+k,none⟩)
        | 3=>u=.int .i64 y
        | 4=>u=.int .i64 many
        | 5=>u=.int .i64 (many - 1)
        | 6=>u=.bool true
        | 7=>u=.bool false
        | 8=>u=.bool false
        | 9=>u=.int .i64 (k:Int)
        | 10=>u=.bool true
        | 11=>u=.bool true
        | 12=>u=.slice (some ⟨bb,off,none⟩) n c
        | 13=>u=.int .i64 (k:Int)
        | 14=>u=.pointer (some ⟨bb,off+k,none⟩)
        | 15=>u=.int .i64 y
        | 16=>u=.slice (some ⟨bb,off,none⟩) n c
        | 17=>u=.int .i64 (k:Int)
        | 18=>u=.int .i64 (m:Int)
        | 19=>u=.pointer (some ⟨bb,off+m,none⟩)
        | 20=>u=.int .i64 z
        | 21=>u=.bool true
        | 22=>u=.bool true
        | _=>u=.bool true) (Below.refl _ _).drew (fun _ _ _ _ _ _ _ _ h _ _=>h) ?_ ?_
      ·refine ⟨?_,?_,?_,?_,?_,?_,?_,?_,?_,?_,?_,?_,?_,?_,?_,?_,?_,?_,?_,?_,?_,?_,?_,?_,trivial⟩
       ·intro a w1 vs K HJ HK HD HN kk
        have e0:=HK 0 (by decide)
        go_simp;exact kk _ _ (by simp) HJ trivial rfl
       ·intro a w1 vs K HJ HK HD HN kk
        have e5:=HK 5 (by decide)
        go_simp;exact kk _ _ (by simp) HJ trivial rfl
       ·intro a w1 vs K HJ HK HD HN kk
        have e12:=hdE (HD 0 _ 12 rfl rfl rfl)
        have e13:=hdE (HD 1 _ 13 rfl rfl rfl)
        go_simp;exact kk _ _ (by simp) HJ trivial rfl
       ·intro a w1 vs K HJ HK HD HN kk
        have e14:=hdE (HD 2 _ 14 rfl rfl rfl)
        have ca:w1.cell? ⟨bb,off+k,none⟩=some (.int .i64 y):=HCY.out w1 HJ
        go_simp;exact kk _ _ (by simp) HJ trivial rfl
       ·intro a w1 vs K HJ HK HD HN kk
        have e1:=HK 1 (by decide)
        go_simp;exact kk _ _ (by simp) HJ trivial rfl
       ·intro a w1 vs K HJ HK HD HN kk
        have e16:=hdE (HD 4 _ 16 rfl rfl rfl)
        have hws:=HWS.out
        go_simp;exact kk _ _ (by simp) HJ trivial rfl
       ·intro a w1 vs K HJ HK HD HN kk
        have e15:=hdE (HD 3 _ 15 rfl rfl rfl)
        have e17:=hdE (HD 5 _ 17 rfl rfl rfl)
        exact wpo_call 53 _ _ rfl #[.int .i64 y,.int .i64 0,.int .i64 (many - 1)] (by simp [Act.eval,e15,e17]) (fun args w=>by kernel_rfl)
         ((HI.out w1).mono fun e w' ⟨he,hb⟩=>⟨_,he,kk _ _ (by simp) (Below.trans HJ (hb.mono HJ.size)) trivial rfl⟩)
       ·intro a w1 vs K HJ HK HD HN kk
        have e18:=hdE (HD 6 _ 18 rfl rfl rfl)
        go_simp;exact kk _ _ (by simp) HJ trivial rfl
       ·intro a w1 vs K HJ HK HD HN kk
        have e19:=hdE (HD 7 _ 19 rfl rfl rfl)
        go_simp;exact kk _ _ (by simp) HJ trivial rfl
       ·intro a w1 vs K HJ HK HD HN kk
        have e20:=hdE (HD 8 _ 20 rfl rfl rfl)
        rw [if_pos (wanted_yes 8 false rfl rfl rfl e20)]
        have e5:=HK 5 (by decide)
        go_simp;exact kk _ _ (by simp) HJ trivial rfl
       ·intro a w1 vs K HJ HK HD HN kk
        have e20:=hdE (HD 8 _ 20 rfl rfl rfl)
        rw [if_pos (wanted_yes 8 false rfl rfl rfl e20)]
        have e21:=hdE (HD 9 _ 21 rfl rfl rfl)
        have hgt:=HGT.out
        have hgt2:=HGT2.out
        go_simp;exact kk _ _ (by simp) HJ trivial rfl
       ·intro a w1 vs K HJ HK HD HN kk
        have e20:=hdE (HD 8 _ 20 rfl rfl rfl)
        rw [if_pos (wanted_yes 8 false rfl rfl rfl e20)]
        have e22:=hdE (HD 10 _ 22 rfl rfl rfl)
        go_simp;exact kk _ _ (by simp) HJ trivial rfl
       ·intro a w1 vs K HJ HK HD HN kk
        have e23:=hdE (HD 11 _ 23 rfl rfl rfl)
        rw [if_pos (wanted_yes 11 true rfl rfl rfl e23)]
        have e0:=HK 0 (by decide)
        go_simp;exact kk _ _ (by simp) HJ trivial rfl
       ·intro a w1 vs K HJ HK HD HN kk
        have e23:=hdE (HD 11 _ 23 rfl rfl rfl)
        rw [if_pos (wanted_yes 11 true rfl rfl rfl e23)]
        have e5:=HK 5 (by decide)
        go_simp;exact kk _ _ (by simp) HJ trivial rfl
       ·intro a w1 vs K HJ HK HD HN kk
        have e23:=hdE (HD 11 _ 23 rfl rfl rfl)
        rw [if_pos (wanted_yes 11 true rfl rfl rfl e23)]
        have e24:=hdE (HD 12 _ 24 rfl rfl rfl)
        have e25:=hdE (HD 13 _ 25 rfl rfl rfl)
        go_simp;exact kk _ _ (by simp) HJ trivial rfl
       ·intro a w1 vs K HJ HK HD HN kk
        have e23:=hdE (HD 11 _ 23 rfl rfl rfl)
        rw [if_pos (wanted_yes 11 true rfl rfl rfl e23)]
        have e26:=hdE (HD 14 _ 26 rfl rfl rfl)
        have ca:w1.cell? ⟨bb,off+k,none⟩=some (.int .i64 y):=HCY.out w1 HJ
        go_simp;exact kk _ _ (by simp) HJ trivial rfl
       ·intro a w1 vs K HJ HK HD HN kk
        have e23:=hdE (HD 11 _ 23 rfl rfl rfl)
        rw [if_pos (wanted_yes 11 true rfl rfl rfl e23)]
        have e0:=HK 0 (by decide)
        go_simp;exact kk _ _ (by simp) HJ trivial rfl
       ·intro a w1 vs K HJ HK HD HN kk
        have e23:=hdE (HD 11 _ 23 rfl rfl rfl)
        rw [if_pos (wanted_yes 11 true rfl rfl rfl e23)]
        have e5:=HK 5 (by decide)
        go_simp;exact kk _ _ (by simp) HJ trivial rfl
       ·intro a w1 vs K HJ HK HD HN kk
        have e23:=hdE (HD 11 _ 23 rfl rfl rfl)
        rw [if_pos (wanted_yes 11 true rfl rfl rfl e23)]
        have e29:=hdE (HD 17 _ 29 rfl rfl rfl)
        have hwm:=HWM.out
        go_simp;exact kk _ _ (by simp) HJ trivial rfl
       ·intro a w1 vs K HJ HK HD HN kk
        have e23:=hdE (HD 11 _ 23 rfl rfl rfl)
        rw [if_pos (wanted_yes 11 true rfl rfl rfl e23)]
        have e28:=hdE (HD 16 _ 28 rfl rfl rfl)
        have e30:=hdE (HD 18 _ 30 rfl rfl rfl)
        go_simp;exact kk _ _ (by simp) HJ trivial rfl
       ·intro a w1 vs K HJ HK HD HN kk
        have e23:=hdE (HD 11 _ 23 rfl rfl rfl)
        rw [if_pos (wanted_yes 11 true rfl rfl rfl e23)]
        have e31:=hdE (HD 19 _ 31 rfl rfl rfl)
        have ca:w1.cell? ⟨bb,off+m,none⟩=some (.int .i64 z):=HCZ.out w1 HJ
        go_simp;exact kk _ _ (by simp) HJ trivial rfl
       ·intro a w1 vs K HJ HK HD HN kk
        have e23:=hdE (HD 11 _ 23 rfl rfl rfl)
        rw [if_pos (wanted_yes 11 true rfl rfl rfl e23)]
        have e27:=hdE (HD 15 _ 27 rfl rfl rfl)
        have e32:=hdE (HD 20 _ 32 rfl rfl rfl)
        have hzy:=HZY.out
        go_simp;exact kk _ _ (by simp) HJ trivial rfl
       ·intro a w1 vs K HJ HK HD HN kk
        have e20:=hdE (HD 8 _ 20 rfl rfl rfl)
        rw [if_pos (wanted_yes 8 false rfl rfl rfl e20)]
        have e23:=hdE (HD 11 _ 23 rfl rfl rfl)
        have e33:=hdE (HD 21 _ 33 rfl rfl rfl)
        go_simp;exact kk _ _ (by simp) HJ trivial rfl
       ·intro a w1 vs K HJ HK HD HN kk
        have e20:=hdE (HD 8 _ 20 rfl rfl rfl)
        have e34:=hdE (HD 22 _ 34 rfl rfl rfl)
        go_simp;exact kk _ _ (by simp) HJ trivial rfl
      ·intro vs W3 hw6 hrr
       have e23:vs 23=.bool true:=hrr 23 _ rfl
       have HB3:Hid (Below w.heap.size w W3):=Lib.hid (HB.out.trans (Below.mono hw6 HB.out.size))
       clear hrr hw6
       simp only [putAll,Act.put,List.setIfInBounds_toArray,List.set_cons_zero,List.set_cons_succ]
       rw [e23]
       go_wp2_with fail
       first | exact HFIN.out _ _ HRF.out HB3.out | (go_ret;exact HFIN.out _ _ HRF.out HB3.out)
  ·obtain rfl:k=n:=by omega
   have HRT:Hid (R=true):=Lib.hid (by rw [HD.out];exact allN_iff.2 fun i hi=>HNO.out i hi)
   go_wp2_with fail
   first | exact HFIN.out _ _ HRT.out HB.out | (go_ret;exact HFIN.out _ _ HRT.out HB.out)
end Go.Proofs.YtcnjenlojnognaaGreat
/- What is proved: contracts of the document's Same, mass. Conditions: the campaign is valid; the lists lie in memory. -/
namespace Go.Proofs.YtcnjenlojnognaaGreat
open Go.RowKit

def sameB (a b:List LaunchD):Bool:=decide (a.length=b.length) && allN a.length fun i=>decide (cmpL (a.getD i launch0) (b.getD i launch0)=0)
theorem sameB_iff {a b:List LaunchD}:sameB a b=true ↔ a=b:=by
 unfold sameB
 rw [Bool.and_eq_true,decide_eq_true_eq,allN_iff]
 constructor
 ·rintro ⟨h1,h2⟩
  apply List.ext_getElem h1
  intro i hi hj
  have:=h2 i hi
  rw [decide_eq_true_eq,cmpL_zero,List.getD_eq_getElem?_getD,List.getD_eq_getElem?_getD,List.getElem?_eq_getElem hi,List.getElem?_eq_getElem hj] at this
  exact this
 ·rintro rfl
  exact ⟨rfl,fun i _=>by rw [cmpL_irrefl];rfl⟩
set_option maxRecDepth 100000 in
set_option maxHeartbeats 4000000 in
theorem same_any (w:World) (l m:List LaunchD) (A B:Option Addr) (ca cb:Nat) (hl:PlanAt w w.heap.size A l) (hm:PlanAt w w.heap.size B m) :
  Calls Tryz.prog 27 #[.slice A l.length ca,.slice B m.length cb] w fun e w'=>e=.returned (.bool (sameB l m))∧Below w.heap.size w w':=by
 have hll:=hl.len
 have hml:=hm.len
 obtain ⟨nl,hnl⟩:∃ n,l.length=n:=⟨_,rfl⟩
 obtain ⟨nm,hnm⟩:∃ n,m.length=n:=⟨_,rfl⟩
 have HNL:=Lib.hid hnl
 have HNM:=Lib.hid hnm
 have HLP:=Lib.hid hl
 have HMP:=Lib.hid hm
 obtain ⟨R,hR⟩:∃ R,sameB l m=R:=⟨_,rfl⟩
 have HD:Hid (R=(decide (nl=nm) && allN nl fun i=>decide (cmpL (l.getD i launch0) (m.getD i launch0)=0))):=Lib.hid (by rw [← hR,← hnl,← hnm];rfl)
 obtain ⟨PQ,hPQ⟩:∃ Q,(fun (e:Ending) (w':World)=>e=.returned (.bool R)∧Below w.heap.size w w')=Q:=⟨_,rfl⟩
 have HFIN:Hid (∀ x w',R=x→Below w.heap.size w w'→PQ (.returned (.bool x)) w'):=Lib.hid fun x w' h1 h2=>by rw [← hPQ,h1];exact ⟨rfl,h2⟩
 rw [hnl] at hll ⊢
 rw [hnm] at hml ⊢
 rw [hR,hPQ]
 clear hl hm hnl hnm hR hPQ
 by_cases hne:nl=nm
 case neg =>
  have h1:((nl:Int) != (nm:Int))=true:=by rw [bne_iff_ne];omega
  have HRF:Hid (R=false):=Lib.hid (by rw [HD.out,decide_eq_false hne];rfl)
  clear hne
  go_enter Tryz.func27,Tryz.ntmps27
  go_wp2_with fail
  first | exact HFIN.out _ _ HRF.out (Below.refl _ _) | (go_ret;exact HFIN.out _ _ HRF.out (Below.refl _ _))
 case pos =>
 subst hne
 have h1:((nl:Int) != (nl:Int))=false:=by simp
 go_enter Tryz.func27,Tryz.ntmps27
 go_wp2_with fail
 go_loopw [5] (fun iv wr=>∃ i:Nat,i≤nl∧iv=.int .i64 i∧Hid (Below w.heap.size w wr∧∀ j,j<i→cmpL (l.getD j launch0) (m.getD j launch0)=0)) (fun iv _=>nl - (intOf iv).toNat)
 case atStart=>exact ⟨0,Nat.zero_le _,rfl,Lib.hid ⟨Below.refl _ _,fun j hj=>absurd hj (Nat.not_lt_zero j)⟩⟩
 case round =>
  obtain ⟨wo,rfl⟩:∃ wo:World,wo=wr:=⟨_,rfl⟩
  obtain ⟨i,hi,rfl,hs⟩:=hrel
  have HB:=Lib.hid hs.out.1
  have HNO:=Lib.hid hs.out.2
  clear hs
  have h0i:(0:Int)≤(i:Int):=by omega
  by_cases hlt:i<nl
  ·have hii:(i:Int)<(nl:Int):=by omega
   obtain ⟨b1,o1,P1,Q1,rfl,_,d1,dl1⟩:=(HLP.out.later HB.out).at (i:=i) (by rw [HNL.out];exact hlt)
   obtain ⟨b2,o2,P2,Q2,rfl,_,d2,dl2⟩:=(HMP.out.later HB.out).at (i:=i) (by rw [HNM.out];exact hlt)
   obtain ⟨x,hx⟩:∃ x,l.getD i launch0=x:=⟨_,rfl⟩
   obtain ⟨y,hy⟩:∃ y,m.getD i launch0=y:=⟨_,rfl⟩
   obtain ⟨cm,hcm⟩:∃ z,cmpL x y=z:=⟨_,rfl⟩
   have HXY:Hid (cmpL (l.getD i launch0) (m.getD i launch0)=cm):=Lib.hid (by rw [hx,hy];exact hcm)
   rw [hx] at d1 dl1
   rw [hy] at d2 dl2
   have HL1:Hid (∀ w1,Below wo.heap.size wo w1→∀ j u,(launchA x P1 Q1)[j]?=some u→w1.cell? ⟨b1,o1+i * 4+j,none⟩=some u):=Lib.hid fun w1 hb j u hj=>by
    have h1:=d1 j u hj
    rw [hb.cell (p:=⟨b1,o1+i * 4+j,none⟩) (World.block_lt_of_cell? wo _ h1)];exact h1
   have HL2:Hid (∀ w1,Below wo.heap.size wo w1→∀ j u,(launchA y P2 Q2)[j]?=some u→w1.cell? ⟨b2,o2+i * 4+j,none⟩=some u):=Lib.hid fun w1 hb j u hj=>by
    have h1:=d2 j u hj
    rw [hb.cell (p:=⟨b2,o2+i * 4+j,none⟩) (World.block_lt_of_cell? wo _ h1)];exact h1
   have HCM:Hid (∀ w1,Below wo.heap.size wo w1→Calls Tryz.prog 67 #[.agg (launchA x P1 Q1),.agg (launchA y P2 Q2)] w1 fun e w'=>e=.returned (.int .i64 cm)∧Below w1.heap.size w1 w'):=Lib.hid fun w1 hb=>by
    have:=refCompare_any w1 x y P1 P2 Q1 Q2 (dl1.later hb) (dl2.later hb)
    rw [hcm] at this
    exact this
   clear d1 d2 dl1 dl2 hx hy hcm
   by_cases hz:cm=0
   ·have HZ:Hid ((cm != 0)=false):=Lib.hid (by rw [hz];rfl)
    have HZ0:=Lib.hid hz
    clear hz
    go_upto_region 6 with (fail)
    refine wp_region_steps (by kernel_rfl) (by kernel_rfl) (fun w1=>Below wo.heap.size wo w1) (fun _ _ _=>True)
     (fun ix u _ _=>match ix with
      | 0=>u=.slice (some ⟨b1,o1,none⟩) nl ca
      | 1=>u=.int .i64 (i:Int)
      | 2=>u=.pointer (some ⟨b1,o1+i * 4,none⟩)
      | 3=>u=.agg (launchA x P1 Q1)
      | 4=>u=.slice (some ⟨b2,o2,none⟩) nl cb
      | 5=>u=.int .i64 (i:Int)
      | 6=>u=.pointer (some ⟨b2,o2+i * 4,none⟩)
      | 7=>u=.agg (launchA y P2 Q2)
      | 8=>u=.int .i64 cm
      | _=>u=.bool false) (Below.refl _ _).drew (fun _ _ _ _ _ _ _ _ h _ _=>h) ?_ ?_
    ·refine ⟨?_,?_,?_,?_,?_,?_,?_,?_,?_,?_,trivial⟩
     ·intro a w1 vs K HJ HK HD HN kk
      have e0:=HK 0 (by decide)
      go_simp;exact kk _ _ (by simp) HJ trivial rfl
     ·intro a w1 vs K HJ HK HD HN kk
      have e5:=HK 5 (by decide)
      go_simp;exact kk _ _ (by simp) HJ trivial rfl
     ·intro a w1 vs K HJ HK HD HN kk
      have e17:=hdE (HD 0 _ 17 rfl rfl rfl)
      have e18:=hdE (HD 1 _ 18 rfl rfl rfl)
      go_simp;exact kk _ _ (by simp) HJ trivial rfl
     ·intro a w1 vs K HJ HK HD HN kk
      have e19:=hdE (HD 2 _ 19 rfl rfl rfl)
      exact wpo_loadS 52 (.tmp 19) rfl b1 (o1+i * 4) (by simpa [Act.eval] using e19) (launchA x P1 Q1) _ (HL1.out w1 HJ) und_launch rfl info_launch (kk _ _ (by simp) HJ trivial rfl)
     ·intro a w1 vs K HJ HK HD HN kk
      have e1:=HK 1 (by decide)
      go_simp;exact kk _ _ (by simp) HJ trivial rfl
     ·intro a w1 vs K HJ HK HD HN kk
      have e5:=HK 5 (by decide)
      go_simp;exact kk _ _ (by simp) HJ trivial rfl
     ·intro a w1 vs K HJ HK HD HN kk
      have e21:=hdE (HD 4 _ 21 rfl rfl rfl)
      have e22:=hdE (HD 5 _ 22 rfl rfl rfl)
      go_simp;exact kk _ _ (by simp) HJ trivial rfl
     ·intro a w1 vs K HJ HK HD HN kk
      have e23:=hdE (HD 6 _ 23 rfl rfl rfl)
      exact wpo_loadS 52 (.tmp 23) rfl b2 (o2+i * 4) (by simpa [Act.eval] using e23) (launchA y P2 Q2) _ (HL2.out w1 HJ) und_launch rfl info_launch (kk _ _ (by simp) HJ trivial rfl)
     ·intro a w1 vs K HJ HK HD HN kk
      have e20:=hdE (HD 3 _ 20 rfl rfl rfl)
      have e24:=hdE (HD 7 _ 24 rfl rfl rfl)
      exact wpo_call 67 _ _ rfl #[.agg (launchA x P1 Q1),.agg (launchA y P2 Q2)] (by simp [Act.eval,e20,e24]) (fun args w=>by kernel_rfl)
       ((HCM.out w1 HJ).mono fun e w' ⟨he,hb⟩=>⟨_,he,kk _ _ (by simp) (Below.trans HJ (hb.mono HJ.size)) trivial rfl⟩)
     ·intro a w1 vs K HJ HK HD HN kk
      have e25:=hdE (HD 8 _ 25 rfl rfl rfl)
      have hz:=HZ.out
      go_simp;exact kk _ _ (by simp) HJ trivial rfl
    ·intro vs W3 hw6 hrr
     have e9:vs 9=.bool false:=hrr 9 _ rfl
     have HB3:Hid (Below w.heap.size w W3):=Lib.hid (HB.out.trans (Below.mono hw6 HB.out.size))
     clear hrr hw6
     simp only [putAll,Act.put,List.setIfInBounds_toArray,List.set_cons_zero,List.set_cons_succ]
     rw [e9]
     go_wp2_with fail
     go_roundw
     case rel=>exact ⟨i+1,by omega,by go_num,Lib.hid ⟨HB3.out,fun j hj=>by
      by_cases e:j=i
      ·subst e;rw [HXY.out];exact HZ0.out
      ·exact HNO.out j (by omega)⟩⟩
     case measure=>simp [intOf];omega
   ·have HZ:Hid ((cm != 0)=true):=Lib.hid (by rw [bne_iff_ne];exact hz)
    have HRF:Hid (R=false):=Lib.hid (by
     rw [HD.out]
     cases ha:allN nl fun i=>decide (cmpL (l.getD i launch0) (m.getD i launch0)=0) with
     | false=>simp
     | true =>
      have:=allN_iff.1 ha i hlt
      rw [HXY.out,decide_eq_true_eq] at this
      exact absurd this hz)
    clear hz
    go_upto_region 6 with (fail)
    refine wp_region_steps (by kernel_rfl) (by kernel_rfl) (fun w1=>Below wo.heap.size wo w1) (fun _ _ _=>True)
     (fun ix u _ _=>match ix with
      | 0=>u=.slice (some ⟨b1,o1,none⟩) nl ca
      | 1=>u=.int .i64 (i:Int)
      | 2=>u=.pointer (some ⟨b1,o1+i * 4,none⟩)
      | 3=>u=.agg (launchA x P1 Q1)
      | 4=>u=.slice (some ⟨b2,o2,none⟩) nl cb
      | 5=>u=.int .i64 (i:Int)
      | 6=>u=.pointer (some ⟨b2,o2+i * 4,none⟩)
      | 7=>u=.agg (launchA y P2 Q2)
      | 8=>u=.int .i64 cm
      | _=>u=.bool true) (Below.refl _ _).drew (fun _ _ _ _ _ _ _ _ h _ _=>h) ?_ ?_
    ·refine ⟨?_,?_,?_,?_,?_,?_,?_,?_,?_,?_,trivial⟩
     ·intro a w1 vs K HJ HK HD HN kk
      have e0:=HK 0 (by decide)
      go_simp;exact kk _ _ (by simp) HJ trivial rfl
     ·intro a w1 vs K HJ HK HD HN kk
      have e5:=HK 5 (by decide)
      go_simp;exact kk _ _ (by simp) HJ trivial rfl
     ·intro a w1 vs K HJ HK HD HN kk
      have e17:=hdE (HD 0 _ 17 rfl rfl rfl)
      have e18:=hdE (HD 1 _ 18 rfl rfl rfl)
      go_simp;exact kk _ _ (by simp) HJ trivial rfl
     ·intro a w1 vs K HJ HK HD HN kk
      have e19:=hdE (HD 2 _ 19 rfl rfl rfl)
      exact wpo_loadS 52 (.tmp 19) rfl b1 (o1+i * 4) (by simpa [Act.eval] using e19) (launchA x P1 Q1) _ (HL1.out w1 HJ) und_launch rfl info_launch (kk _ _ (by simp) HJ trivial rfl)
     ·intro a w1 vs K HJ HK HD HN kk
      have e1:=HK 1 (by decide)
      go_simp;exact kk _ _ (by simp) HJ trivial rfl
     ·intro a w1 vs K HJ HK HD HN kk
      have e5:=HK 5 (by decide)
      go_simp;exact kk _ _ (by simp) HJ trivial rfl
     ·intro a w1 vs K HJ HK HD HN kk
      have e21:=hdE (HD 4 _ 21 rfl rfl rfl)
      have e22:=hdE (HD 5 _ 22 rfl rfl rfl)
      go_simp;exact kk _ _ (by simp) HJ trivial rfl
     ·intro a w1 vs K HJ HK HD HN kk
      have e23:=hdE (HD 6 _ 23 rfl rfl rfl)
      exact wpo_loadS 52 (.tmp 23) rfl b2 (o2+i * 4) (by simpa [Act.eval] using e23) (launchA y P2 Q2) _ (HL2.out w1 HJ) und_launch rfl info_launch (kk _ _ (by simp) HJ trivial rfl)
     ·intro a w1 vs K HJ HK HD HN kk
      have e20:=hdE (HD 3 _ 20 rfl rfl rfl)
      have e24:=hdE (HD 7 _ 24 rfl rfl rfl)
      exact wpo_call 67 _ _ rfl #[.agg (launchA x P1 Q1),.agg (launchA y P2 Q2)] (by simp [Act.eval,e20,e24]) (fun args w=>by kernel_rfl)
       ((HCM.out w1 HJ).mono fun e w' ⟨he,hb⟩=>⟨_,he,kk _ _ (by simp) (Below.trans HJ (hb.mono HJ.size)) trivial rfl⟩)
     ·intro a w1 vs K HJ HK HD HN kk
      have e25:=hdE (HD 8 _ 25 rfl rfl rfl)
      have hz:=HZ.out
      go_simp;exact kk _ _ (by simp) HJ trivial rfl
    ·intro vs W3 hw6 hrr
     have e9:vs 9=.bool true:=hrr 9 _ rfl
     have HB3:Hid (Below w.heap.size w W3):=Lib.hid (HB.out.trans (Below.mono hw6 HB.out.size))
     clear hrr hw6
     simp only [putAll,Act.put,List.setIfInBounds_toArray,List.set_cons_zero,List.set_cons_succ]
     rw [e9]
     go_wp2_with fail
     first | exact HFIN.out _ _ HRF.out HB3.out | (go_ret;exact HFIN.out _ _ HRF.out HB3.out)
  ·obtain rfl:i=nl:=by omega
   have HRT:Hid (R=true):=Lib.hid (by
    rw [HD.out]
    have:(allN i fun i=>decide (cmpL (l.getD i launch0) (m.getD i launch0)=0))=true:=allN_iff.2 fun j hj=>by rw [HNO.out j hj];rfl
    rw [this];simp)
   go_wp2_with fail
   first | exact HFIN.out _ _ HRT.out HB.out | (go_ret;exact HFIN.out _ _ HRT.out HB.out)
set_option maxRecDepth 100000 in
set_option maxHeartbeats 4000000 in
theorem refMass_any (w:World) (V:CV) (c:CampD) (h:CampAt w w.heap.size V c) (hc:campB c=true) (x:LaunchD) (P:Option Addr) (cx:Nat) (hl:IntsAt w w.heap.size P x.cargos) (hr:risingB x.cargos c.cargos.length=true) :
  Calls Tryz.prog 64 #[.agg (campA V c),.agg (launchA x P cx)] w fun e w'=>e=.returned (.int .i64 (massL c x.cargos))∧Below w.heap.size w w':=by
 have hn6:=(camp_len hc).2.2.2.2.2.1
 have hlen:=rise_len hr
 have HB:=Lib.hid (massL_bound hc x.cargos)
 have HT:=Lib.hid (massL_take c x.cargos)
 have HRN:=Lib.hid fun (k:Nat) (hk:k<x.cargos.length)=>rise_num hr hk
 have HCC:=Lib.hid fun i=>camp_cargo hc i
 obtain ⟨qb,hqb⟩:∃ qb,w.heap.size=qb:=⟨_,rfl⟩
 obtain ⟨W0,hW0⟩:∃ W0,(w.alloc (.cells (campA V c) 26)).alloc (.cells (launchA x P cx) 52)=W0:=⟨_,rfl⟩
 have hb0:Below w.heap.size w W0:=by rw [← hW0];exact ((Below.refl _ w).alloc (Nat.le_refl _) _).alloc (by simp) _
 have HB0:Hid (Below qb w W0):=Lib.hid (by rw [← hqb];exact hb0)
 have HKC:Hid (Bk W0 qb 26 (campA V c)):=Lib.hid (by rw [← hW0,← hqb];exact (Bk.new _ _ _).alloc _)
 have HKX:Hid (Bk W0 (qb+1) 52 (launchA x P cx)):=Lib.hid (by rw [← hW0,← hqb];exact Bk.newAt _ _ _ _ (by simp))
 have HG:=Lib.hid (h.later hb0).cargos
 have HL:=Lib.hid (hl.later hb0)
 have HSZ:Hid (qb≤W0.heap.size):=Lib.hid (by have:=HKX.out.lt;omega)
 obtain ⟨n,hn⟩:∃ n,x.cargos.length=n:=⟨_,rfl⟩
 have HN:=Lib.hid hn
 obtain ⟨R,hR⟩:∃ R,massL c x.cargos=R:=⟨_,rfl⟩
 have HR:Hid (massL c (x.cargos.take n)=R):=Lib.hid (by rw [← hn,List.take_length];exact hR)
 obtain ⟨ng,hng⟩:∃ ng,c.cargos.length=ng:=⟨_,rfl⟩
 have HC2:Hid (∀ w1,Below W0.heap.size W0 w1→w1.cell? ⟨qb,2,none⟩=some (.slice V.gA ng V.gc)∧w1.cell? ⟨qb+1,3,none⟩=some (.slice P n cx)):=Lib.hid fun w1 hb=>⟨by rw [← hng];exact (HKC.out.below hb HKC.out.lt).cell 2,by rw [← hn];exact (HKX.out.below hb HKX.out.lt).cell 3⟩
 obtain ⟨PQ,hPQ⟩:∃ Q,(fun (e:Ending) (w':World)=>e=.returned (.int .i64 R)∧Below w.heap.size w w')=Q:=⟨_,rfl⟩
 have HFIN:Hid (∀ y w',R=y→Below qb w w'→PQ (.returned (.int .i64 y)) w'):=Lib.hid fun y w' h1 h2=>by rw [← hPQ,h1,hqb];exact ⟨rfl,h2⟩
 rw [hng] at HRN HG
 rw [hR,hPQ]
 have hn6':n≤6:=by omega
 have hng6:ng≤6:=by omega
 clear h hl hr hc hb0 hR hlen hn6 hPQ
 simp only [campA,launchA] at hW0 ⊢
 rw [hng] at hW0 ⊢
 rw [hn] at hW0 ⊢
 go_enter Tryz.func64,Tryz.ntmps64
 go_upto_region 1 with (fail)
 clear hW0 hqb hn hng
 go_wp2_with fail
 go_loopw [5,6] (fun v i wr=>∃ (k:Nat) (u:Int),k≤n∧i=.int .i64 k∧v=.int .i64 u∧Hid (u=massL c (x.cargos.take k)∧Below W0.heap.size W0 wr)) (fun _ i _=>n - (intOf i).toNat)
 case atStart=>exact ⟨0,0,Nat.zero_le _,rfl,rfl,Lib.hid ⟨rfl,Below.refl _ _⟩⟩
 case round =>
  obtain ⟨wo,rfl⟩:∃ wo:World,wo=wr:=⟨_,rfl⟩
  obtain ⟨k,su,hk,rfl,rfl,hs⟩:=hrel
  have HU:=Lib.hid hs.out.1
  have HBW:=Lib.hid hs.out.2
  clear hs
  have hb:=HB.out k (by rw [HN.out];exact hk)
  rw [← HU.out] at hb
  obtain ⟨hu0,hu1⟩:=hb
  have hu2:su≤6442450944:=by omega
  clear hu1
  have h0k:(0:Int)≤(k:Int):=by omega
  obtain ⟨c2,c3⟩:=HC2.out wo HBW.out
  by_cases hlt:k<n
  ·have hki:(k:Int)<(n:Int):=by omega
   have hkt:k<x.cargos.length:=by rw [HN.out];exact hlt
   obtain ⟨bb,off,rfl,hbb,d0⟩:=Sl.at1 HL.out hkt
   obtain ⟨m,hm,hmn⟩:=HRN.out k hkt
   have hT:=HT.out k hkt
   try dsimp only at d0
   rw [hm] at d0 hT
   obtain ⟨gb,go,hga,hgb,_,g1,_⟩:=Sl.at6 HG.out (i:=m) (by omega)
   dsimp only [cargoC] at g1
   obtain ⟨y,hy⟩:∃ y,(c.cargoN m).mass=y:=⟨_,rfl⟩
   have hy2:(c.cargo (m:Int)).mass=y:=hy
   rw [hy] at g1
   have hcc:=HCC.out (m:Int)
   rw [hy2] at hcc hT
   obtain ⟨y0,y1,_⟩:=hcc
   have HTK:Hid (su+y=massL c (x.cargos.take (k+1))):=Lib.hid (by rw [hT,HU.out])
   have hm0:(0:Int)≤(m:Int):=by omega
   have hmi:(m:Int)<(ng:Int):=by omega
   have HWU:Hid (IntKind.i64.wrap (su+y)=su+y):=Lib.hid (IntWalk.i64_in _ (by omega))
   have HCL:Hid (∀ w1,Below wo.heap.size wo w1→w1.cell? ⟨qb,2,none⟩=some (.slice (some ⟨gb,go,none⟩) ng V.gc)∧w1.cell? ⟨qb+1,3,none⟩=some (.slice (some ⟨bb,off,none⟩) n cx)∧w1.cell? ⟨bb,off+k,none⟩=some (.int .i64 (m:Int))∧w1.cell? ⟨gb,go+m * 6+1,none⟩=some (.int .i64 y)):=Lib.hid fun w1 hb=>by
    have hbw:=HBW.out.trans (hb.mono HBW.out.size)
    obtain ⟨e2,e3⟩:=HC2.out w1 hbw
    exact ⟨by rw [← hga];exact e2,e3,(hbw.cell (p:=⟨bb,off+k,none⟩) hbb).trans d0,(hbw.cell (p:=⟨gb,go+m * 6+1,none⟩) hgb).trans g1⟩
   clear hy hy2 hT hm hga d0 g1 c2
   go_upto_region 5 with (fail)
   refine wp_region_steps (by kernel_rfl) (by kernel_rfl) (fun w1=>Below wo.heap.size wo w1) (fun _ _ _=>True)
    (fun ix u _ _=>match ix with
     | 0=>u=.int .i64 su
     | 1=>u=.pointer (some ⟨qb,2,none⟩)
     | 2=>u=.slice (some ⟨gb,go,none⟩) ng V.gc
     | 3=>u=.pointer (some ⟨qb+1,3,none⟩)
     | 4=>u=.slice (some ⟨bb,off,none⟩) n cx
     | 5=>u=.int .i64 (k:Int)
     | 6=>u=.pointer (some ⟨bb,off+k,none⟩)
     | 7=>u=.int .i64 (m:Int)
     | 8=>u=.pointer (some ⟨gb,go+m * 6,none⟩)
     | 9=>u=.pointer (some ⟨gb,go+m * 6+1,none⟩)
     | 10=>u=.int .i64 y
     | 11=>u=.int .i64 (su+y)
     | _=>u=.int .i64 (su+y)) (Below.refl _ _).drew (fun _ _ _ _ _ _ _ _ h _ _=>h) ?_ ?_
   ·refine ⟨?_,?_,?_,?_,?_,?_,?_,?_,?_,?_,?_,?_,?_,trivial⟩
    ·intro a w1 vs K HJ HK HD HN kk
     have e5:=HK 5 (by decide)
     go_simp;exact kk _ _ (by simp) HJ trivial rfl
    ·intro a w1 vs K HJ HK HD HN kk
     have e2:=HK 2 (by decide)
     go_simp;exact kk _ _ (by simp) HJ trivial rfl
    ·intro a w1 vs K HJ HK HD HN kk
     have e15:=hdE (HD 1 _ 15 rfl rfl rfl)
     have ca:w1.cell? ⟨qb,2,none⟩=some (.slice (some ⟨gb,go,none⟩) ng V.gc):=(HCL.out w1 HJ).1
     go_simp;exact kk _ _ (by simp) HJ trivial rfl
    ·intro a w1 vs K HJ HK HD HN kk
     have e3:=HK 3 (by decide)
     go_simp;exact kk _ _ (by simp) HJ trivial rfl
    ·intro a w1 vs K HJ HK HD HN kk
     have e17:=hdE (HD 3 _ 17 rfl rfl rfl)
     have ca:w1.cell? ⟨qb+1,3,none⟩=some (.slice (some ⟨bb,off,none⟩) n cx):=(HCL.out w1 HJ).2.1
     go_simp;exact kk _ _ (by simp) HJ trivial rfl
    ·intro a w1 vs K HJ HK HD HN kk
     have e6:=HK 6 (by decide)
     go_simp;exact kk _ _ (by simp) HJ trivial rfl
    ·intro a w1 vs K HJ HK HD HN kk
     have e18:=hdE (HD 4 _ 18 rfl rfl rfl)
     have e19:=hdE (HD 5 _ 19 rfl rfl rfl)
     go_simp;exact kk _ _ (by simp) HJ trivial rfl
    ·intro a w1 vs K HJ HK HD HN kk
     have e20:=hdE (HD 6 _ 20 rfl rfl rfl)
     have ca:w1.cell? ⟨bb,off+k,none⟩=some (.int .i64 (m:Int)):=(HCL.out w1 HJ).2.2.1
     go_simp;exact kk _ _ (by simp) HJ trivial rfl
    ·intro a w1 vs K HJ HK HD HN kk
     have e16:=hdE (HD 2 _ 16 rfl rfl rfl)
     have e21:=hdE (HD 7 _ 21 rfl rfl rfl)
     go_simp;exact kk _ _ (by simp) HJ trivial rfl
    ·intro a w1 vs K HJ HK HD HN kk
     have e22:=hdE (HD 8 _ 22 rfl rfl rfl)
     go_simp;exact kk _ _ (by simp) HJ trivial rfl
    ·intro a w1 vs K HJ HK HD HN kk
     have e23:=hdE (HD 9 _ 23 rfl rfl rfl)
     have ca:w1.cell? ⟨gb,go+m * 6+1,none⟩=some (.int .i64 y):=(HCL.out w1 HJ).2.2.2
     go_simp;exact kk _ _ (by simp) HJ trivial rfl
    ·intro a w1 vs K HJ HK HD HN kk
     have e14:=hdE (HD 0 _ 14 rfl rfl rfl)
     have e24:=hdE (HD 10 _ 24 rfl rfl rfl)
     have hwu:=HWU.out
     go_simp;exact kk _ _ (by simp) HJ trivial rfl
    ·intro a w1 vs K HJ HK HD HN kk
     have e25:=hdE (HD 11 _ 25 rfl rfl rfl)
     go_simp;exact kk _ _ (by simp) HJ trivial rfl
   ·intro vs W3 hw6 hrr
    have e12:vs 12=.int .i64 (su+y):=hrr 12 _ rfl
    have HB3:Hid (Below W0.heap.size W0 W3):=Lib.hid (HBW.out.trans (Below.mono hw6 HBW.out.size))
    clear hrr hw6
    simp only [putAll,Act.put,List.setIfInBounds_toArray,List.set_cons_zero,List.set_cons_succ]
    rw [e12]
    go_wp2_with fail
    go_roundw
    case rel=>exact ⟨k+1,su+y,by omega,by go_num,rfl,Lib.hid ⟨HTK.out,HB3.out⟩⟩
    case measure=>simp [intOf];omega
  ·obtain rfl:k=n:=by omega
   have HE:Hid (R=su):=Lib.hid (by rw [HU.out];exact HR.out.symm)
   have HBE:Hid (Below qb w wo):=Lib.hid (HB0.out.trans (HBW.out.mono HSZ.out))
   clear c2
   go_wp2_with fail
   first | exact HFIN.out _ _ HE.out HBE.out | (go_ret;exact HFIN.out _ _ HE.out HBE.out)
end Go.Proofs.YtcnjenlojnognaaGreat
/- What is proved: a contract of the document's possible. Conditions: the campaign, which is valid, and the launch lie in memory. -/
namespace Go.Proofs.YtcnjenlojnognaaGreat
open Go.RowKit

/-- A cargo copied into a box: the state of the region that does it. -/
def CgJ (wo:World) (y:CargoD) (d9 d10:Bool) (v9:Value) (w1:World):Prop :=
 Below wo.heap.size wo w1∧(d9=true→∃ q,wo.heap.size≤q∧v9=.pointer (some ⟨q,0,none⟩)∧Bk w1 q 54 (if d10=true then cargoA y else zeroCg))
theorem CgJ.start (wo:World) (y:CargoD) (v9:Value):CgJ wo y false false v9 wo.drew:=⟨(Below.refl _ _).drew,fun h=>absurd h (by decide)⟩
theorem CgJ.made {wo w1:World} {y:CargoD} {d9 d10:Bool} {v9:Value} (h:CgJ wo y d9 d10 v9 w1) (h10:d10=false):CgJ wo y true d10 (.pointer (some ⟨w1.heap.size,0,none⟩)) (w1.alloc (.cells zeroCg 54)) :=
 ⟨h.1.alloc h.1.size _,fun _=>⟨_,h.1.size,rfl,by rw [h10];exact Bk.new _ _ _⟩⟩
theorem mass_most {c:CampD} (hc:campB c=true) (m i:Int):decide (m≤mostB c i)=decide (m * (1000+c.margin)≤(c.craft i).lift * 1000):=by
 unfold mostB
 rw [decide_eq_decide]
 exact most_iff m (c.craft i).lift c.margin (camp_len hc).2.2.2.2.2.2.1
set_option maxRecDepth 100000 in
set_option maxHeartbeats 16000000 in
theorem refPossible_any (w:World) (V:CV) (c:CampD) (h:CampAt w w.heap.size V c) (hc:campB c=true) (x:LaunchD) (A:Option Addr) (cl:Nat) (hl:IntsAt w w.heap.size A x.cargos) :
  Calls Tryz.prog 85 #[.agg (campA V c),.agg (launchA x A cl)] w fun e w'=>e=.returned (.bool (possB c x))∧Below w.heap.size w w':=by
 have hlen:=camp_len hc
 obtain ⟨nc,hnc⟩:∃ nc,c.crafts.length=nc:=⟨_,rfl⟩
 obtain ⟨np,hnp⟩:∃ np,c.pads.length=np:=⟨_,rfl⟩
 obtain ⟨ng,hng⟩:∃ ng,c.cargos.length=ng:=⟨_,rfl⟩
 obtain ⟨nl,hnl⟩:∃ nl,x.cargos.length=nl:=⟨_,rfl⟩
 have hll:=hl.1
 obtain ⟨qb,hqb⟩:∃ qb,w.heap.size=qb:=⟨_,rfl⟩
 obtain ⟨W0,hW0⟩:∃ W0,(w.alloc (.cells (campA V c) 26)).alloc (.cells (launchA x A cl) 52)=W0:=⟨_,rfl⟩
 have hb0:Below w.heap.size w W0:=by rw [← hW0];exact ((Below.refl _ w).alloc (Nat.le_refl _) _).alloc (by simp) _
 have HB0:Hid (Below qb w W0):=Lib.hid (by rw [← hqb];exact hb0)
 have HKC:Hid (Bk W0 qb 26 (campA V c)):=Lib.hid (by rw [← hW0,← hqb];exact (Bk.new _ _ _).alloc _)
 have HKL:Hid (Bk W0 (qb+1) 52 (launchA x A cl)):=Lib.hid (by rw [← hW0,← hqb];exact Bk.newAt _ _ _ _ (by simp))
 have hLT:qb+1<W0.heap.size:=HKL.out.lt
 have HCA:=Lib.hid (h.later hb0)
 have HLA:=Lib.hid (hl.later hb0)
 obtain ⟨R,hR⟩:∃ R,possB c x=R:=⟨_,rfl⟩
 have HR:=Lib.hid hR
 obtain ⟨PQ,hPQ⟩:∃ Q,(fun (e:Ending) (w':World)=>e=.returned (.bool R)∧Below w.heap.size w w')=Q:=⟨_,rfl⟩
 have HFIN:Hid (∀ (b:Bool) (w':World),b=R→Below qb w w'→PQ (.returned (.bool b)) w'):=Lib.hid fun b w' h1 h2=>by subst h1;rw [← hPQ,hqb];exact ⟨rfl,h2⟩
 have HCAMP:=Lib.hid hc
 have HNC:=Lib.hid hnc
 have HNP:=Lib.hid hnp
 have HNG:=Lib.hid hng
 have HNL:=Lib.hid hnl
 simp only [campA,launchA] at hW0 ⊢
 rw [hnc,hnp,hng,hnl] at hW0
 rw [hnc,hnp,hng,hnl,hR,hPQ]
 rw [hnl] at hll
 have hn1:nc≤3:=by omega
 have hn2:np≤2:=by omega
 have hn3:ng≤6:=by omega
 have hn1':1≤nc:=by omega
 have hn2':1≤np:=by omega
 have HC:Hid (∀ w1,Below W0.heap.size W0 w1→w1.cell? ⟨qb,0,none⟩=some (.slice V.cA nc V.cc)∧w1.cell? ⟨qb,1,none⟩=some (.slice V.pA np V.pc)∧w1.cell? ⟨qb,2,none⟩=some (.slice V.gA ng V.gc) ∧
   w1.cell? ⟨qb+1,0,none⟩=some (.int .i64 x.day)∧w1.cell? ⟨qb+1,1,none⟩=some (.int .i64 x.craft)∧w1.cell? ⟨qb+1,2,none⟩=some (.int .i64 x.pad)∧w1.cell? ⟨qb+1,3,none⟩=some (.slice A nl cl)):=Lib.hid fun w1 hb=>by
  have k1:=HKC.out.below hb HKC.out.lt
  have k2:=HKL.out.below hb HKL.out.lt
  rw [← hnc,← hnp,← hng,← hnl]
  exact ⟨k1.cell 0,k1.cell 1,k1.cell 2,k2.cell 0,k2.cell 1,k2.cell 2,k2.cell 3⟩
 have HSZ:Hid (qb≤W0.heap.size):=Lib.hid (by omega)
 clear h hl hb0 hR hlen hc hnc hnp hng hnl hLT hPQ
 obtain ⟨b1,hb1⟩:∃ b,inB x.craft 0 ((nc:Int) - 1)=b:=⟨_,rfl⟩
 have HI1:Hid (∀ w1,Calls Tryz.prog 53 #[.int .i64 x.craft,.int .i64 0,.int .i64 ((nc:Int) - 1)] w1 fun e w'=>e=.returned (.bool b1)∧Below w1.heap.size w1 w'):=Lib.hid fun w1=>by rw [← hb1];exact inW_any _ _ _ _
 have HB1:=Lib.hid hb1
 clear hb1
 obtain ⟨b2,hb2⟩:∃ b,inB x.pad 0 ((np:Int) - 1)=b:=⟨_,rfl⟩
 have HI2:Hid (∀ w1,Calls Tryz.prog 53 #[.int .i64 x.pad,.int .i64 0,.int .i64 ((np:Int) - 1)] w1 fun e w'=>e=.returned (.bool b2)∧Below w1.heap.size w1 w'):=Lib.hid fun w1=>by rw [← hb2];exact inW_any _ _ _ _
 have HB2:=Lib.hid hb2
 clear hb2
 cases b1 with
 | false =>
  have HRF:Hid (false=R):=Lib.hid (by rw [← HR.out];exact (possB_no1 (by rw [HNC.out];exact HB1.out)).symm)
  go_enter Tryz.func85,Tryz.ntmps85
  go_upto_region 1 with (fail)
  clear hqb hW0
  refine wp_region_steps (by kernel_rfl) (by kernel_rfl) (fun w1=>Below W0.heap.size W0 w1) (fun _ _ _=>True)
   (fun ix u _ _=>match ix with
    | 0=>u=.pointer (some ⟨qb+1,1,none⟩)
    | 1=>u=.int .i64 x.craft
    | 2=>u=.pointer (some ⟨qb,0,none⟩)
    | 3=>u=.slice V.cA nc V.cc
    | 4=>u=.int .i64 nc
    | 5=>u=.int .i64 ((nc:Int) - 1)
    | 6=>u=.bool false
    | 7=>u=.bool true
    | 8=>u=.bool true
    | 9=>u=undef
    | 10=>u=undef
    | 11=>u=undef
    | 12=>u=undef
    | 13=>u=undef
    | 14=>u=undef
    | 15=>u=undef
    | 16=>u=undef
    | 17=>u=.bool true
    | 18=>u=.bool true
    | 19=>u=undef
    | 20=>u=undef
    | 21=>u=undef
    | 22=>u=undef
    | 23=>u=undef
    | 24=>u=undef
    | 25=>u=undef
    | 26=>u=undef
    | 27=>u=undef
    | 28=>u=undef
    | 29=>u=undef
    | 30=>u=.bool true
    | 31=>u=.bool true
    | 32=>u=undef
    | 33=>u=undef
    | 34=>u=undef
    | 35=>u=undef
    | 36=>u=undef
    | 37=>u=undef
    | 38=>u=undef
    | 39=>u=undef
    | 40=>u=undef
    | 41=>u=undef
    | 42=>u=undef
    | _=>u=.bool true) (Below.refl _ _).drew (fun _ _ _ _ _ _ _ _ h _ _=>h) ?_ ?_
  ·refine ⟨?_,?_,?_,?_,?_,?_,?_,?_,?_,?_,?_,?_,?_,?_,?_,?_,?_,?_,?_,?_,?_,?_,?_,?_,?_,?_,?_,?_,?_,?_,?_,?_,?_,?_,?_,?_,?_,?_,?_,?_,?_,?_,?_,?_,trivial⟩
   ·intro a w1 vs K HJ HK HD HN kk
    have e3:=HK 3 (by decide)
    go_simp;exact kk _ _ (by simp) HJ trivial rfl
   ·intro a w1 vs K HJ HK HD HN kk
    have e7:=hdE (HD 0 _ 7 rfl rfl rfl)
    have ca:w1.cell? ⟨qb+1,1,none⟩=some (.int .i64 x.craft):=(HC.out w1 HJ).2.2.2.2.1
    go_simp;exact kk _ _ (by simp) HJ trivial rfl
   ·intro a w1 vs K HJ HK HD HN kk
    have e2:=HK 2 (by decide)
    go_simp;exact kk _ _ (by simp) HJ trivial rfl
   ·intro a w1 vs K HJ HK HD HN kk
    have e9:=hdE (HD 2 _ 9 rfl rfl rfl)
    have ca:w1.cell? ⟨qb,0,none⟩=some (.slice V.cA nc V.cc):=(HC.out w1 HJ).1
    go_simp;exact kk _ _ (by simp) HJ trivial rfl
   ·intro a w1 vs K HJ HK HD HN kk
    have e10:=hdE (HD 3 _ 10 rfl rfl rfl)
    go_simp;exact kk _ _ (by simp) HJ trivial rfl
   ·intro a w1 vs K HJ HK HD HN kk
    have e11:=hdE (HD 4 _ 11 rfl rfl rfl)
    have hws:IntKind.i64.wrap ((nc:Int) - 1)=(nc:Int) - 1:=IntWalk.i64_in _ (by omega)
    go_simp;exact kk _ _ (by simp) HJ trivial rfl
   ·intro a w1 vs K HJ HK HD HN kk
    have e8:=hdE (HD 1 _ 8 rfl rfl rfl)
    have e12:=hdE (HD 5 _ 12 rfl rfl rfl)
    exact wpo_call 53 _ _ rfl #[.int .i64 x.craft,.int .i64 0,.int .i64 ((nc:Int) - 1)] (by simp [Act.eval,e8,e12]) (fun args w=>by kernel_rfl)
     ((HI1.out w1).mono fun e w' ⟨he,hb⟩=>⟨_,he,kk _ _ (by simp) (Below.trans HJ (hb.mono HJ.size)) trivial rfl⟩)
   ·intro a w1 vs K HJ HK HD HN kk
    have e13:=hdE (HD 6 _ 13 rfl rfl rfl)
    go_simp;exact kk _ _ (by simp) HJ trivial rfl
   ·intro a w1 vs K HJ HK HD HN kk
    have e14:=hdE (HD 7 _ 14 rfl rfl rfl)
    go_simp;exact kk _ _ (by simp) HJ trivial rfl
   ·intro a w1 vs K HJ HK HD HN kk
    have e15:=hdE (HD 8 _ 15 rfl rfl rfl)
    rw [if_neg (wanted_no 8 false rfl rfl rfl e15)]
    exact kk undef _ (by simp) HJ trivial rfl
   ·intro a w1 vs K HJ HK HD HN kk
    have e15:=hdE (HD 8 _ 15 rfl rfl rfl)
    rw [if_neg (wanted_no 8 false rfl rfl rfl e15)]
    exact kk undef _ (by simp) HJ trivial rfl
   ·intro a w1 vs K HJ HK HD HN kk
    have e15:=hdE (HD 8 _ 15 rfl rfl rfl)
    rw [if_neg (wanted_no 8 false rfl rfl rfl e15)]
    exact kk undef _ (by simp) HJ trivial rfl
   ·intro a w1 vs K HJ HK HD HN kk
    have e15:=hdE (HD 8 _ 15 rfl rfl rfl)
    rw [if_neg (wanted_no 8 false rfl rfl rfl e15)]
    exact kk undef _ (by simp) HJ trivial rfl
   ·intro a w1 vs K HJ HK HD HN kk
    have e15:=hdE (HD 8 _ 15 rfl rfl rfl)
    rw [if_neg (wanted_no 8 false rfl rfl rfl e15)]
    exact kk undef _ (by simp) HJ trivial rfl
   ·intro a w1 vs K HJ HK HD HN kk
    have e15:=hdE (HD 8 _ 15 rfl rfl rfl)
    rw [if_neg (wanted_no 8 false rfl rfl rfl e15)]
    exact kk undef _ (by simp) HJ trivial rfl
   ·intro a w1 vs K HJ HK HD HN kk
    have e15:=hdE (HD 8 _ 15 rfl rfl rfl)
    rw [if_neg (wanted_no 8 false rfl rfl rfl e15)]
    exact kk undef _ (by simp) HJ trivial rfl
   ·intro a w1 vs K HJ HK HD HN kk
    have e15:=hdE (HD 8 _ 15 rfl rfl rfl)
    rw [if_neg (wanted_no 8 false rfl rfl rfl e15)]
    exact kk undef _ (by simp) HJ trivial rfl
   ·intro a w1 vs K HJ HK HD HN kk
    have e15:=hdE (HD 8 _ 15 rfl rfl rfl)
    have e23:=hdE (HD 16 _ 23 rfl rfl rfl)
    go_simp;exact kk _ _ (by simp) HJ trivial rfl
   ·intro a w1 vs K HJ HK HD HN kk
    have e24:=hdE (HD 17 _ 24 rfl rfl rfl)
    go_simp;exact kk _ _ (by simp) HJ trivial rfl
   ·intro a w1 vs K HJ HK HD HN kk
    have e25:=hdE (HD 18 _ 25 rfl rfl rfl)
    rw [if_neg (wanted_no 18 false rfl rfl rfl e25)]
    exact kk undef _ (by simp) HJ trivial rfl
   ·intro a w1 vs K HJ HK HD HN kk
    have e25:=hdE (HD 18 _ 25 rfl rfl rfl)
    rw [if_neg (wanted_no 18 false rfl rfl rfl e25)]
    exact kk undef _ (by simp) HJ trivial rfl
   ·intro a w1 vs K HJ HK HD HN kk
    have e25:=hdE (HD 18 _ 25 rfl rfl rfl)
    rw [if_neg (wanted_no 18 false rfl rfl rfl e25)]
    exact kk undef _ (by simp) HJ trivial rfl
   ·intro a w1 vs K HJ HK HD HN kk
    have e25:=hdE (HD 18 _ 25 rfl rfl rfl)
    rw [if_neg (wanted_no 18 false rfl rfl rfl e25)]
    exact kk undef _ (by simp) HJ trivial rfl
   ·intro a w1 vs K HJ HK HD HN kk
    have e25:=hdE (HD 18 _ 25 rfl rfl rfl)
    rw [if_neg (wanted_no 18 false rfl rfl rfl e25)]
    exact kk undef _ (by simp) HJ trivial rfl
   ·intro a w1 vs K HJ HK HD HN kk
    have e25:=hdE (HD 18 _ 25 rfl rfl rfl)
    rw [if_neg (wanted_no 18 false rfl rfl rfl e25)]
    exact kk undef _ (by simp) HJ trivial rfl
   ·intro a w1 vs K HJ HK HD HN kk
    have e25:=hdE (HD 18 _ 25 rfl rfl rfl)
    rw [if_neg (wanted_no 18 false rfl rfl rfl e25)]
    exact kk undef _ (by simp) HJ trivial rfl
   ·intro a w1 vs K HJ HK HD HN kk
    have e25:=hdE (HD 18 _ 25 rfl rfl rfl)
    rw [if_neg (wanted_no 18 false rfl rfl rfl e25)]
    exact kk undef _ (by simp) HJ trivial rfl
   ·intro a w1 vs K HJ HK HD HN kk
    have e25:=hdE (HD 18 _ 25 rfl rfl rfl)
    rw [if_neg (wanted_no 18 false rfl rfl rfl e25)]
    exact kk undef _ (by simp) HJ trivial rfl
   ·intro a w1 vs K HJ HK HD HN kk
    have e25:=hdE (HD 18 _ 25 rfl rfl rfl)
    rw [if_neg (wanted_no 18 false rfl rfl rfl e25)]
    exact kk undef _ (by simp) HJ trivial rfl
   ·intro a w1 vs K HJ HK HD HN kk
    have e25:=hdE (HD 18 _ 25 rfl rfl rfl)
    rw [if_neg (wanted_no 18 false rfl rfl rfl e25)]
    exact kk undef _ (by simp) HJ trivial rfl
   ·intro a w1 vs K HJ HK HD HN kk
    have e25:=hdE (HD 18 _ 25 rfl rfl rfl)
    have e36:=hdE (HD 29 _ 36 rfl rfl rfl)
    go_simp;exact kk _ _ (by simp) HJ trivial rfl
   ·intro a w1 vs K HJ HK HD HN kk
    have e37:=hdE (HD 30 _ 37 rfl rfl rfl)
    go_simp;exact kk _ _ (by simp) HJ trivial rfl
   ·intro a w1 vs K HJ HK HD HN kk
    have e38:=hdE (HD 31 _ 38 rfl rfl rfl)
    rw [if_neg (wanted_no 31 false rfl rfl rfl e38)]
    exact kk undef _ (by simp) HJ trivial rfl
   ·intro a w1 vs K HJ HK HD HN kk
    have e38:=hdE (HD 31 _ 38 rfl rfl rfl)
    rw [if_neg (wanted_no 31 false rfl rfl rfl e38)]
    exact kk undef _ (by simp) HJ trivial rfl
   ·intro a w1 vs K HJ HK HD HN kk
    have e38:=hdE (HD 31 _ 38 rfl rfl rfl)
    rw [if_neg (wanted_no 31 false rfl rfl rfl e38)]
    exact kk undef _ (by simp) HJ trivial rfl
   ·intro a w1 vs K HJ HK HD HN kk
    have e38:=hdE (HD 31 _ 38 rfl rfl rfl)
    rw [if_neg (wanted_no 31 false rfl rfl rfl e38)]
    exact kk undef _ (by simp) HJ trivial rfl
   ·intro a w1 vs K HJ HK HD HN kk
    have e38:=hdE (HD 31 _ 38 rfl rfl rfl)
    rw [if_neg (wanted_no 31 false rfl rfl rfl e38)]
    exact kk undef _ (by simp) HJ trivial rfl
   ·intro a w1 vs K HJ HK HD HN kk
    have e38:=hdE (HD 31 _ 38 rfl rfl rfl)
    rw [if_neg (wanted_no 31 false rfl rfl rfl e38)]
    exact kk undef _ (by simp) HJ trivial rfl
   ·intro a w1 vs K HJ HK HD HN kk
    have e38:=hdE (HD 31 _ 38 rfl rfl rfl)
    rw [if_neg (wanted_no 31 false rfl rfl rfl e38)]
    exact kk undef _ (by simp) HJ trivial rfl
   ·intro a w1 vs K HJ HK HD HN kk
    have e38:=hdE (HD 31 _ 38 rfl rfl rfl)
    rw [if_neg (wanted_no 31 false rfl rfl rfl e38)]
    exact kk undef _ (by simp) HJ trivial rfl
   ·intro a w1 vs K HJ HK HD HN kk
    have e38:=hdE (HD 31 _ 38 rfl rfl rfl)
    rw [if_neg (wanted_no 31 false rfl rfl rfl e38)]
    exact kk undef _ (by simp) HJ trivial rfl
   ·intro a w1 vs K HJ HK HD HN kk
    have e38:=hdE (HD 31 _ 38 rfl rfl rfl)
    rw [if_neg (wanted_no 31 false rfl rfl rfl e38)]
    exact kk undef _ (by simp) HJ trivial rfl
   ·intro a w1 vs K HJ HK HD HN kk
    have e38:=hdE (HD 31 _ 38 rfl rfl rfl)
    rw [if_neg (wanted_no 31 false rfl rfl rfl e38)]
    exact kk undef _ (by simp) HJ trivial rfl
   ·intro a w1 vs K HJ HK HD HN kk
    have e38:=hdE (HD 31 _ 38 rfl rfl rfl)
    have e49:=hdE (HD 42 _ 49 rfl rfl rfl)
    go_simp;exact kk _ _ (by simp) HJ trivial rfl
  ·intro vs w6 hw6 hrr
   have e43:vs 43=.bool true:=hrr 43 _ rfl
   have HF:=Lib.hid (HFIN.out _ _ HRF.out (HB0.out.trans (Below.mono hw6 HSZ.out)))
   clear hrr hw6
   simp only [putAll,Act.put,List.setIfInBounds_toArray,List.set_cons_zero,List.set_cons_succ]
   rw [e43]
   go_wp2_with fail
   first | exact HF.out | (go_ret;exact HF.out)
 | true =>
 cases b2 with
 | false =>
  have HRF:Hid (false=R):=Lib.hid (by rw [← HR.out];exact (possB_no2 (by rw [HNP.out];exact HB2.out)).symm)
  go_enter Tryz.func85,Tryz.ntmps85
  go_upto_region 1 with (fail)
  clear hqb hW0
  refine wp_region_steps (by kernel_rfl) (by kernel_rfl) (fun w1=>Below W0.heap.size W0 w1) (fun _ _ _=>True)
   (fun ix u _ _=>match ix with
    | 0=>u=.pointer (some ⟨qb+1,1,none⟩)
    | 1=>u=.int .i64 x.craft
    | 2=>u=.pointer (some ⟨qb,0,none⟩)
    | 3=>u=.slice V.cA nc V.cc
    | 4=>u=.int .i64 nc
    | 5=>u=.int .i64 ((nc:Int) - 1)
    | 6=>u=.bool true
    | 7=>u=.bool false
    | 8=>u=.bool false
    | 9=>u=.pointer (some ⟨qb+1,2,none⟩)
    | 10=>u=.int .i64 x.pad
    | 11=>u=.pointer (some ⟨qb,1,none⟩)
    | 12=>u=.slice V.pA np V.pc
    | 13=>u=.int .i64 np
    | 14=>u=.int .i64 ((np:Int) - 1)
    | 15=>u=.bool false
    | 16=>u=.bool true
    | 17=>u=.bool true
    | 18=>u=.bool true
    | 19=>u=undef
    | 20=>u=undef
    | 21=>u=undef
    | 22=>u=undef
    | 23=>u=undef
    | 24=>u=undef
    | 25=>u=undef
    | 26=>u=undef
    | 27=>u=undef
    | 28=>u=undef
    | 29=>u=undef
    | 30=>u=.bool true
    | 31=>u=.bool true
    | 32=>u=undef
    | 33=>u=undef
    | 34=>u=undef
    | 35=>u=undef
    | 36=>u=undef
    | 37=>u=undef
    | 38=>u=undef
    | 39=>u=undef
    | 40=>u=undef
    | 41=>u=undef
    | 42=>u=undef
    | _=>u=.bool true) (Below.refl _ _).drew (fun _ _ _ _ _ _ _ _ h _ _=>h) ?_ ?_
  ·refine ⟨?_,?_,?_,?_,?_,?_,?_,?_,?_,?_,?_,?_,?_,?_,?_,?_,?_,?_,?_,?_,?_,?_,?_,?_,?_,?_,?_,?_,?_,?_,?_,?_,?_,?_,?_,?_,?_,?_,?_,?_,?_,?_,?_,?_,trivial⟩
   ·intro a w1 vs K HJ HK HD HN kk
    have e3:=HK 3 (by decide)
    go_simp;exact kk _ _ (by simp) HJ trivial rfl
   ·intro a w1 vs K HJ HK HD HN kk
    have e7:=hdE (HD 0 _ 7 rfl rfl rfl)
    have ca:w1.cell? ⟨qb+1,1,none⟩=some (.int .i64 x.craft):=(HC.out w1 HJ).2.2.2.2.1
    go_simp;exact kk _ _ (by simp) HJ trivial rfl
   ·intro a w1 vs K HJ HK HD HN kk
    have e2:=HK 2 (by decide)
    go_simp;exact kk _ _ (by simp) HJ trivial rfl
   ·intro a w1 vs K HJ HK HD HN kk
    have e9:=hdE (HD 2 _ 9 rfl rfl rfl)
    have ca:w1.cell? ⟨qb,0,none⟩=some (.slice V.cA nc V.cc):=(HC.out w1 HJ).1
    go_simp;exact kk _ _ (by simp) HJ trivial rfl
   ·intro a w1 vs K HJ HK HD HN kk
    have e10:=hdE (HD 3 _ 10 rfl rfl rfl)
    go_simp;exact kk _ _ (by simp) HJ trivial rfl
   ·intro a w1 vs K HJ HK HD HN kk
    have e11:=hdE (HD 4 _ 11 rfl rfl rfl)
    have hws:IntKind.i64.wrap ((nc:Int) - 1)=(nc:Int) - 1:=IntWalk.i64_in _ (by omega)
    go_simp;exact kk _ _ (by simp) HJ trivial rfl
   ·intro a w1 vs K HJ HK HD HN kk
    have e8:=hdE (HD 1 _ 8 rfl rfl rfl)
    have e12:=hdE (HD 5 _ 12 rfl rfl rfl)
    exact wpo_call 53 _ _ rfl #[.int .i64 x.craft,.int .i64 0,.int .i64 ((nc:Int) - 1)] (by simp [Act.eval,e8,e12]) (fun args w=>by kernel_rfl)
     ((HI1.out w1).mono fun e w' ⟨he,hb⟩=>⟨_,he,kk _ _ (by simp) (Below.trans HJ (hb.mono HJ.size)) trivial rfl⟩)
   ·intro a w1 vs K HJ HK HD HN kk
    have e13:=hdE (HD 6 _ 13 rfl rfl rfl)
    go_simp;exact kk _ _ (by simp) HJ trivial rfl
   ·intro a w1 vs K HJ HK HD HN kk
    have e14:=hdE (HD 7 _ 14 rfl rfl rfl)
    go_simp;exact kk _ _ (by simp) HJ trivial rfl
   ·intro a w1 vs K HJ HK HD HN kk
    have e15:=hdE (HD 8 _ 15 rfl rfl rfl)
    rw [if_pos (wanted_yes 8 false rfl rfl rfl e15)]
    have e3:=HK 3 (by decide)
    go_simp;exact kk _ _ (by simp) HJ trivial rfl
   ·intro a w1 vs K HJ HK HD HN kk
    have e15:=hdE (HD 8 _ 15 rfl rfl rfl)
    rw [if_pos (wanted_yes 8 false rfl rfl rfl e15)]
    have e16:=hdE (HD 9 _ 16 rfl rfl rfl)
    have ca:w1.cell? ⟨qb+1,2,none⟩=some (.int .i64 x.pad):=(HC.out w1 HJ).2.2.2.2.2.1
    go_simp;exact kk _ _ (by simp) HJ trivial rfl
   ·intro a w1 vs K HJ HK HD HN kk
    have e15:=hdE (HD 8 _ 15 rfl rfl rfl)
    rw [if_pos (wanted_yes 8 false rfl rfl rfl e15)]
    have e2:=HK 2 (by decide)
    go_simp;exact kk _ _ (by simp) HJ trivial rfl
   ·intro a w1 vs K HJ HK HD HN kk
    have e15:=hdE (HD 8 _ 15 rfl rfl rfl)
    rw [if_pos (wanted_yes 8 false rfl rfl rfl e15)]
    have e18:=hdE (HD 11 _ 18 rfl rfl rfl)
    have ca:w1.cell? ⟨qb,1,none⟩=some (.slice V.pA np V.pc):=(HC.out w1 HJ).2.1
    go_simp;exact kk _ _ (by simp) HJ trivial rfl
   ·intro a w1 vs K HJ HK HD HN kk
    have e15:=hdE (HD 8 _ 15 rfl rfl rfl)
    rw [if_pos (wanted_yes 8 false rfl rfl rfl e15)]
    have e19:=hdE (HD 12 _ 19 rfl rfl rfl)
    go_simp;exact kk _ _ (by simp) HJ trivial rfl
   ·intro a w1 vs K HJ HK HD HN kk
    have e15:=hdE (HD 8 _ 15 rfl rfl rfl)
    rw [if_pos (wanted_yes 8 false rfl rfl rfl e15)]
    have e20:=hdE (HD 13 _ 20 rfl rfl rfl)
    have hws:IntKind.i64.wrap ((np:Int) - 1)=(np:Int) - 1:=IntWalk.i64_in _ (by omega)
    go_simp;exact kk _ _ (by simp) HJ trivial rfl
   ·intro a w1 vs K HJ HK HD HN kk
    have e15:=hdE (HD 8 _ 15 rfl rfl rfl)
    rw [if_pos (wanted_yes 8 false rfl rfl rfl e15)]
    have e17:=hdE (HD 10 _ 17 rfl rfl rfl)
    have e21:=hdE (HD 14 _ 21 rfl rfl rfl)
    exact wpo_call 53 _ _ rfl #[.int .i64 x.pad,.int .i64 0,.int .i64 ((np:Int) - 1)] (by simp [Act.eval,e17,e21]) (fun args w=>by kernel_rfl)
     ((HI2.out w1).mono fun e w' ⟨he,hb⟩=>⟨_,he,kk _ _ (by simp) (Below.trans HJ (hb.mono HJ.size)) trivial rfl⟩)
   ·intro a w1 vs K HJ HK HD HN kk
    have e15:=hdE (HD 8 _ 15 rfl rfl rfl)
    rw [if_pos (wanted_yes 8 false rfl rfl rfl e15)]
    have e22:=hdE (HD 15 _ 22 rfl rfl rfl)
    go_simp;exact kk _ _ (by simp) HJ trivial rfl
   ·intro a w1 vs K HJ HK HD HN kk
    have e15:=hdE (HD 8 _ 15 rfl rfl rfl)
    have e23:=hdE (HD 16 _ 23 rfl rfl rfl)
    go_simp;exact kk _ _ (by simp) HJ trivial rfl
   ·intro a w1 vs K HJ HK HD HN kk
    have e24:=hdE (HD 17 _ 24 rfl rfl rfl)
    go_simp;exact kk _ _ (by simp) HJ trivial rfl
   ·intro a w1 vs K HJ HK HD HN kk
    have e25:=hdE (HD 18 _ 25 rfl rfl rfl)
    rw [if_neg (wanted_no 18 false rfl rfl rfl e25)]
    exact kk undef _ (by simp) HJ trivial rfl
   ·intro a w1 vs K HJ HK HD HN kk
    have e25:=hdE (HD 18 _ 25 rfl rfl rfl)
    rw [if_neg (wanted_no 18 false rfl rfl rfl e25)]
    exact kk undef _ (by simp) HJ trivial rfl
   ·intro a w1 vs K HJ HK HD HN kk
    have e25:=hdE (HD 18 _ 25 rfl rfl rfl)
    rw [if_neg (wanted_no 18 false rfl rfl rfl e25)]
    exact kk undef _ (by simp) HJ trivial rfl
   ·intro a w1 vs K HJ HK HD HN kk
    have e25:=hdE (HD 18 _ 25 rfl rfl rfl)
    rw [if_neg (wanted_no 18 false rfl rfl rfl e25)]
    exact kk undef _ (by simp) HJ trivial rfl
   ·intro a w1 vs K HJ HK HD HN kk
    have e25:=hdE (HD 18 _ 25 rfl rfl rfl)
    rw [if_neg (wanted_no 18 false rfl rfl rfl e25)]
    exact kk undef _ (by simp) HJ trivial rfl
   ·intro a w1 vs K HJ HK HD HN kk
    have e25:=hdE (HD 18 _ 25 rfl rfl rfl)
    rw [if_neg (wanted_no 18 false rfl rfl rfl e25)]
    exact kk undef _ (by simp) HJ trivial rfl
   ·intro a w1 vs K HJ HK HD HN kk
    have e25:=hdE (HD 18 _ 25 rfl rfl rfl)
    rw [if_neg (wanted_no 18 false rfl rfl rfl e25)]
    exact kk undef _ (by simp) HJ trivial rfl
   ·intro a w1 vs K HJ HK HD HN kk
    have e25:=hdE (HD 18 _ 25 rfl rfl rfl)
    rw [if_neg (wanted_no 18 false rfl rfl rfl e25)]
    exact kk undef _ (by simp) HJ trivial rfl
   ·intro a w1 vs K HJ HK HD HN kk
    have e25:=hdE (HD 18 _ 25 rfl rfl rfl)
    rw [if_neg (wanted_no 18 false rfl rfl rfl e25)]
    exact kk undef _ (by simp) HJ trivial rfl
   ·intro a w1 vs K HJ HK HD HN kk
    have e25:=hdE (HD 18 _ 25 rfl rfl rfl)
    rw [if_neg (wanted_no 18 false rfl rfl rfl e25)]
    exact kk undef _ (by simp) HJ trivial rfl
   ·intro a w1 vs K HJ HK HD HN kk
    have e25:=hdE (HD 18 _ 25 rfl rfl rfl)
    rw [if_neg (wanted_no 18 false rfl rfl rfl e25)]
    exact kk undef _ (by simp) HJ trivial rfl
   ·intro a w1 vs K HJ HK HD HN kk
    have e25:=hdE (HD 18 _ 25 rfl rfl rfl)
    have e36:=hdE (HD 29 _ 36 rfl rfl rfl)
    go_simp;exact kk _ _ (by simp) HJ trivial rfl
   ·intro a w1 vs K HJ HK HD HN kk
    have e37:=hdE (HD 30 _ 37 rfl rfl rfl)
    go_simp;exact kk _ _ (by simp) HJ trivial rfl
   ·intro a w1 vs K HJ HK HD HN kk
    have e38:=hdE (HD 31 _ 38 rfl rfl rfl)
    rw [if_neg (wanted_no 31 false rfl rfl rfl e38)]
    exact kk undef _ (by simp) HJ trivial rfl
   ·intro a w1 vs K HJ HK HD HN kk
    have e38:=hdE (HD 31 _ 38 rfl rfl rfl)
    rw [if_neg (wanted_no 31 false rfl rfl rfl e38)]
    exact kk undef _ (by simp) HJ trivial rfl
   ·intro a w1 vs K HJ HK HD HN kk
    have e38:=hdE (HD 31 _ 38 rfl rfl rfl)
    rw [if_neg (wanted_no 31 false rfl rfl rfl e38)]
    exact kk undef _ (by simp) HJ trivial rfl
   ·intro a w1 vs K HJ HK HD HN kk
    have e38:=hdE (HD 31 _ 38 rfl rfl rfl)
    rw [if_neg (wanted_no 31 false rfl rfl rfl e38)]
    exact kk undef _ (by simp) HJ trivial rfl
   ·intro a w1 vs K HJ HK HD HN kk
    have e38:=hdE (HD 31 _ 38 rfl rfl rfl)
    rw [if_neg (wanted_no 31 false rfl rfl rfl e38)]
    exact kk undef _ (by simp) HJ trivial rfl
   ·intro a w1 vs K HJ HK HD HN kk
    have e38:=hdE (HD 31 _ 38 rfl rfl rfl)
    rw [if_neg (wanted_no 31 false rfl rfl rfl e38)]
    exact kk undef _ (by simp) HJ trivial rfl
   ·intro a w1 vs K HJ HK HD HN kk
    have e38:=hdE (HD 31 _ 38 rfl rfl rfl)
    rw [if_neg (wanted_no 31 false rfl rfl rfl e38)]
    exact kk undef _ (by simp) HJ trivial rfl
   ·intro a w1 vs K HJ HK HD HN kk
    have e38:=hdE (HD 31 _ 38 rfl rfl rfl)
    rw [if_neg (wanted_no 31 false rfl rfl rfl e38)]
    exact kk undef _ (by simp) HJ trivial rfl
   ·intro a w1 vs K HJ HK HD HN kk
    have e38:=hdE (HD 31 _ 38 rfl rfl rfl)
    rw [if_neg (wanted_no 31 false rfl rfl rfl e38)]
    exact kk undef _ (by simp) HJ trivial rfl
   ·intro a w1 vs K HJ HK HD HN kk
    have e38:=hdE (HD 31 _ 38 rfl rfl rfl)
    rw [if_neg (wanted_no 31 false rfl rfl rfl e38)]
    exact kk undef _ (by simp) HJ trivial rfl
   ·intro a w1 vs K HJ HK HD HN kk
    have e38:=hdE (HD 31 _ 38 rfl rfl rfl)
    rw [if_neg (wanted_no 31 false rfl rfl rfl e38)]
    exact kk undef _ (by simp) HJ trivial rfl
   ·intro a w1 vs K HJ HK HD HN kk
    have e38:=hdE (HD 31 _ 38 rfl rfl rfl)
    have e49:=hdE (HD 42 _ 49 rfl rfl rfl)
    go_simp;exact kk _ _ (by simp) HJ trivial rfl
  ·intro vs w6 hw6 hrr
   have e43:vs 43=.bool true:=hrr 43 _ rfl
   have HF:=Lib.hid (HFIN.out _ _ HRF.out (HB0.out.trans (Below.mono hw6 HSZ.out)))
   clear hrr hw6
   simp only [putAll,Act.put,List.setIfInBounds_toArray,List.set_cons_zero,List.set_cons_succ]
   rw [e43]
   go_wp2_with fail
   first | exact HF.out | (go_ret;exact HF.out)
 | true =>
 obtain ⟨ic,hic⟩:∃ ic:Nat,x.craft=(ic:Int):=⟨x.craft.toNat,by have:=(inB_iff.1 HB1.out).1;omega⟩
 obtain ⟨ip,hip⟩:∃ ip:Nat,x.pad=(ip:Int):=⟨x.pad.toNat,by have:=(inB_iff.1 HB2.out).1;omega⟩
 have hicn:ic<nc:=by have:=(inB_iff.1 HB1.out).2;omega
 have hipn:ip<np:=by have:=(inB_iff.1 HB2.out).2;omega
 have HIC:=Lib.hid hic
 have HIP:=Lib.hid hip
 obtain ⟨cb,co,hcA,hcb,_,g1,g2,_⟩:=Sl.at4 HCA.out.crafts (i:=ic) (by rw [HNC.out];exact hicn)
 obtain ⟨pb,po,hpA,hpb,_,_,t2⟩:=Sl.at3 HCA.out.pads (i:=ip) (by rw [HNP.out];exact hipn)
 dsimp only [craftC] at g1 g2
 dsimp only [padC] at t2
 obtain ⟨rd,hrd⟩:∃ rd,(c.craftN ic).ready=rd:=⟨_,rfl⟩
 obtain ⟨lf,hlf⟩:∃ lf,(c.craftN ic).lift=lf:=⟨_,rfl⟩
 obtain ⟨nt,hnt⟩:∃ nt,(c.padN ip).takes.length=nt:=⟨_,rfl⟩
 have HTK:=Lib.hid (HCA.out.takes ip (by rw [HNP.out];exact hipn))
 rw [hrd] at g2
 rw [hlf] at g1
 rw [hnt] at t2
 obtain ⟨b3,hb3⟩:∃ b,(c.padN ip).takes.contains (ic:Int)=b:=⟨_,rfl⟩
 have HCT:Hid (∀ w1,Below W0.heap.size W0 w1→Calls Tryz.prog 86 #[.slice (V.tA ip) nt (V.tc ip),.int .i64 (ic:Int)] w1 fun e w'=>e=.returned (.bool b3)∧Below w1.heap.size w1 w'):=Lib.hid fun w1 hb=>by
  rw [← hb3,← hnt]
  exact (has_any w1 (V.tA ip) (V.tc ip) _ _ (HTK.out.later hb)).mono fun e w' ⟨a,b⟩=>⟨a,by rw [b];exact Below.refl _ _⟩
 have HB3:Hid ((c.pad x.pad).takes.contains x.craft=b3):=Lib.hid (by rw [hip,hic];exact hb3)
 have HC2:Hid (∀ w1,Below W0.heap.size W0 w1→w1.cell? ⟨cb,co+ic * 4+2,none⟩=some (.int .i64 rd)∧w1.cell? ⟨pb,po+ip * 3+2,none⟩=some (.slice (V.tA ip) nt (V.tc ip))∧w1.cell? ⟨cb,co+ic * 4+1,none⟩=some (.int .i64 lf)):=Lib.hid fun w1 hb =>
  ⟨(hb.cell (p:=⟨cb,co+ic * 4+2,none⟩) hcb).trans g2,(hb.cell (p:=⟨pb,po+ip * 3+2,none⟩) hpb).trans t2,(hb.cell (p:=⟨cb,co+ic * 4+1,none⟩) hcb).trans g1⟩
 have HRD:Hid ((c.craft x.craft).ready=rd):=Lib.hid (by rw [hic];exact hrd)
 have HLF:Hid ((c.craft x.craft).lift=lf):=Lib.hid (by rw [hic];exact hlf)
 obtain ⟨b4,hb4⟩:∃ b,inB x.day rd 10000=b:=⟨_,rfl⟩
 have HI4:Hid (∀ w1,Calls Tryz.prog 53 #[.int .i64 x.day,.int .i64 rd,.int .i64 10000] w1 fun e w'=>e=.returned (.bool b4)∧Below w1.heap.size w1 w'):=Lib.hid fun w1=>by rw [← hb4];exact inW_any _ _ _ _
 have HB4:Hid (inB x.day (c.craft x.craft).ready 10000=b4):=Lib.hid (by rw [HRD.out];exact hb4)
 rw [hcA,hpA] at HC
 rw [hic,hip] at HC
 rw [hcA,hpA,hic,hip] at hW0
 rw [hic] at HI1
 rw [hip] at HI2
 have h0ic:(0:Int)≤(ic:Int):=by omega
 have h0ip:(0:Int)≤(ip:Int):=by omega
 have hici:(ic:Int)<(nc:Int):=by omega
 have hipi:(ip:Int)<(np:Int):=by omega
 have HCRA:=Lib.hid hcA
 have HCPA:=Lib.hid hpA
 rw [hcA,hpA,hic,hip]
 clear hb3 hnt hrd hlf g1 g2 t2 hcA hpA hic hip hcb hpb HTK hb4
 cases b3 with
 | false =>
  have HRF:Hid (false=R):=Lib.hid (by rw [← HR.out];exact (possB_no3 HB3.out).symm)
  go_enter Tryz.func85,Tryz.ntmps85
  go_upto_region 1 with (fail)
  clear hqb hW0
  refine wp_region_steps (by kernel_rfl) (by kernel_rfl) (fun w1=>Below W0.heap.size W0 w1) (fun _ _ _=>True)
   (fun ix u _ _=>match ix with
    | 0=>u=.pointer (some ⟨qb+1,1,none⟩)
    | 1=>u=.int .i64 (ic:Int)
    | 2=>u=.pointer (some ⟨qb,0,none⟩)
    | 3=>u=.slice (some ⟨cb,co,none⟩) nc V.cc
    | 4=>u=.int .i64 nc
    | 5=>u=.int .i64 ((nc:Int) - 1)
    | 6=>u=.bool true
    | 7=>u=.bool false
    | 8=>u=.bool false
    | 9=>u=.pointer (some ⟨qb+1,2,none⟩)
    | 10=>u=.int .i64 (ip:Int)
    | 11=>u=.pointer (some ⟨qb,1,none⟩)
    | 12=>u=.slice (some ⟨pb,po,none⟩) np V.pc
    | 13=>u=.int .i64 np
    | 14=>u=.int .i64 ((np:Int) - 1)
    | 15=>u=.bool true
    | 16=>u=.bool false
    | 17=>u=.bool false
    | 18=>u=.bool false
    | 19=>u=.pointer (some ⟨qb,1,none⟩)
    | 20=>u=.slice (some ⟨pb,po,none⟩) np V.pc
    | 21=>u=.pointer (some ⟨qb+1,2,none⟩)
    | 22=>u=.int .i64 (ip:Int)
    | 23=>u=.pointer (some ⟨pb,po+ip * 3,none⟩)
    | 24=>u=.pointer (some ⟨pb,po+ip * 3+2,none⟩)
    | 25=>u=.slice (V.tA ip) nt (V.tc ip)
    | 26=>u=.pointer (some ⟨qb+1,1,none⟩)
    | 27=>u=.int .i64 (ic:Int)
    | 28=>u=.bool false
    | 29=>u=.bool true
    | 30=>u=.bool true
    | 31=>u=.bool true
    | 32=>u=undef
    | 33=>u=undef
    | 34=>u=undef
    | 35=>u=undef
    | 36=>u=undef
    | 37=>u=undef
    | 38=>u=undef
    | 39=>u=undef
    | 40=>u=undef
    | 41=>u=undef
    | 42=>u=undef
    | _=>u=.bool true) (Below.refl _ _).drew (fun _ _ _ _ _ _ _ _ h _ _=>h) ?_ ?_
  ·refine ⟨?_,?_,?_,?_,?_,?_,?_,?_,?_,?_,?_,?_,?_,?_,?_,?_,?_,?_,?_,?_,?_,?_,?_,?_,?_,?_,?_,?_,?_,?_,?_,?_,?_,?_,?_,?_,?_,?_,?_,?_,?_,?_,?_,?_,trivial⟩
   ·intro a w1 vs K HJ HK HD HN kk
    have e3:=HK 3 (by decide)
    go_simp;exact kk _ _ (by simp) HJ trivial rfl
   ·intro a w1 vs K HJ HK HD HN kk
    have e7:=hdE (HD 0 _ 7 rfl rfl rfl)
    have ca:w1.cell? ⟨qb+1,1,none⟩=some (.int .i64 (ic:Int)):=(HC.out w1 HJ).2.2.2.2.1
    go_simp;exact kk _ _ (by simp) HJ trivial rfl
   ·intro a w1 vs K HJ HK HD HN kk
    have e2:=HK 2 (by decide)
    go_simp;exact kk _ _ (by simp) HJ trivial rfl
   ·intro a w1 vs K HJ HK HD HN kk
    have e9:=hdE (HD 2 _ 9 rfl rfl rfl)
    have ca:w1.cell? ⟨qb,0,none⟩=some (.slice (some ⟨cb,co,none⟩) nc V.cc):=(HC.out w1 HJ).1
    go_simp;exact kk _ _ (by simp) HJ trivial rfl
   ·intro a w1 vs K HJ HK HD HN kk
    have e10:=hdE (HD 3 _ 10 rfl rfl rfl)
    go_simp;exact kk _ _ (by simp) HJ trivial rfl
   ·intro a w1 vs K HJ HK HD HN kk
    have e11:=hdE (HD 4 _ 11 rfl rfl rfl)
    have hws:IntKind.i64.wrap ((nc:Int) - 1)=(nc:Int) - 1:=IntWalk.i64_in _ (by omega)
    go_simp;exact kk _ _ (by simp) HJ trivial rfl
   ·intro a w1 vs K HJ HK HD HN kk
    have e8:=hdE (HD 1 _ 8 rfl rfl rfl)
    have e12:=hdE (HD 5 _ 12 rfl rfl rfl)
    exact wpo_call 53 _ _ rfl #[.int .i64 (ic:Int),.int .i64 0,.int .i64 ((nc:Int) - 1)] (by simp [Act.eval,e8,e12]) (fun args w=>by kernel_rfl)
     ((HI1.out w1).mono fun e w' ⟨he,hb⟩=>⟨_,he,kk _ _ (by simp) (Below.trans HJ (hb.mono HJ.size)) trivial rfl⟩)
   ·intro a w1 vs K HJ HK HD HN kk
    have e13:=hdE (HD 6 _ 13 rfl rfl rfl)
    go_simp;exact kk _ _ (by simp) HJ trivial rfl
   ·intro a w1 vs K HJ HK HD HN kk
    have e14:=hdE (HD 7 _ 14 rfl rfl rfl)
    go_simp;exact kk _ _ (by simp) HJ trivial rfl
   ·intro a w1 vs K HJ HK HD HN kk
    have e15:=hdE (HD 8 _ 15 rfl rfl rfl)
    rw [if_pos (wanted_yes 8 false rfl rfl rfl e15)]
    have e3:=HK 3 (by decide)
    go_simp;exact kk _ _ (by simp) HJ trivial rfl
   ·intro a w1 vs K HJ HK HD HN kk
    have e15:=hdE (HD 8 _ 15 rfl rfl rfl)
    rw [if_pos (wanted_yes 8 false rfl rfl rfl e15)]
    have e16:=hdE (HD 9 _ 16 rfl rfl rfl)
    have ca:w1.cell? ⟨qb+1,2,none⟩=some (.int .i64 (ip:Int)):=(HC.out w1 HJ).2.2.2.2.2.1
    go_simp;exact kk _ _ (by simp) HJ trivial rfl
   ·intro a w1 vs K HJ HK HD HN kk
    have e15:=hdE (HD 8 _ 15 rfl rfl rfl)
    rw [if_pos (wanted_yes 8 false rfl rfl rfl e15)]
    have e2:=HK 2 (by decide)
    go_simp;exact kk _ _ (by simp) HJ trivial rfl
   ·intro a w1 vs K HJ HK HD HN kk
    have e15:=hdE (HD 8 _ 15 rfl rfl rfl)
    rw [if_pos (wanted_yes 8 false rfl rfl rfl e15)]
    have e18:=hdE (HD 11 _ 18 rfl rfl rfl)
    have ca:w1.cell? ⟨qb,1,none⟩=some (.slice (some ⟨pb,po,none⟩) np V.pc):=(HC.out w1 HJ).2.1
    go_simp;exact kk _ _ (by simp) HJ trivial rfl
   ·intro a w1 vs K HJ HK HD HN kk
    have e15:=hdE (HD 8 _ 15 rfl rfl rfl)
    rw [if_pos (wanted_yes 8 false rfl rfl rfl e15)]
    have e19:=hdE (HD 12 _ 19 rfl rfl rfl)
    go_simp;exact kk _ _ (by simp) HJ trivial rfl
   ·intro a w1 vs K HJ HK HD HN kk
    have e15:=hdE (HD 8 _ 15 rfl rfl rfl)
    rw [if_pos (wanted_yes 8 false rfl rfl rfl e15)]
    have e20:=hdE (HD 13 _ 20 rfl rfl rfl)
    have hws:IntKind.i64.wrap ((np:Int) - 1)=(np:Int) - 1:=IntWalk.i64_in _ (by omega)
    go_simp;exact kk _ _ (by simp) HJ trivial rfl
   ·intro a w1 vs K HJ HK HD HN kk
    have e15:=hdE (HD 8 _ 15 rfl rfl rfl)
    rw [if_pos (wanted_yes 8 false rfl rfl rfl e15)]
    have e17:=hdE (HD 10 _ 17 rfl rfl rfl)
    have e21:=hdE (HD 14 _ 21 rfl rfl rfl)
    exact wpo_call 53 _ _ rfl #[.int .i64 (ip:Int),.int .i64 0,.int .i64 ((np:Int) - 1)] (by simp [Act.eval,e17,e21]) (fun args w=>by kernel_rfl)
     ((HI2.out w1).mono fun e w' ⟨he,hb⟩=>⟨_,he,kk _ _ (by simp) (Below.trans HJ (hb.mono HJ.size)) trivial rfl⟩)
   ·intro a w1 vs K HJ HK HD HN kk
    have e15:=hdE (HD 8 _ 15 rfl rfl rfl)
    rw [if_pos (wanted_yes 8 false rfl rfl rfl e15)]
    have e22:=hdE (HD 15 _ 22 rfl rfl rfl)
    go_simp;exact kk _ _ (by simp) HJ trivial rfl
   ·intro a w1 vs K HJ HK HD HN kk
    have e15:=hdE (HD 8 _ 15 rfl rfl rfl)
    have e23:=hdE (HD 16 _ 23 rfl rfl rfl)
    go_simp;exact kk _ _ (by simp) HJ trivial rfl
   ·intro a w1 vs K HJ HK HD HN kk
    have e24:=hdE (HD 17 _ 24 rfl rfl rfl)
    go_simp;exact kk _ _ (by simp) HJ trivial rfl
   ·intro a w1 vs K HJ HK HD HN kk
    have e25:=hdE (HD 18 _ 25 rfl rfl rfl)
    rw [if_pos (wanted_yes 18 false rfl rfl rfl e25)]
    have e2:=HK 2 (by decide)
    go_simp;exact kk _ _ (by simp) HJ trivial rfl
   ·intro a w1 vs K HJ HK HD HN kk
    have e25:=hdE (HD 18 _ 25 rfl rfl rfl)
    rw [if_pos (wanted_yes 18 false rfl rfl rfl e25)]
    have e26:=hdE (HD 19 _ 26 rfl rfl rfl)
    have ca:w1.cell? ⟨qb,1,none⟩=some (.slice (some ⟨pb,po,none⟩) np V.pc):=(HC.out w1 HJ).2.1
    go_simp;exact kk _ _ (by simp) HJ trivial rfl
   ·intro a w1 vs K HJ HK HD HN kk
    have e25:=hdE (HD 18 _ 25 rfl rfl rfl)
    rw [if_pos (wanted_yes 18 false rfl rfl rfl e25)]
    have e3:=HK 3 (by decide)
    go_simp;exact kk _ _ (by simp) HJ trivial rfl
   ·intro a w1 vs K HJ HK HD HN kk
    have e25:=hdE (HD 18 _ 25 rfl rfl rfl)
    rw [if_pos (wanted_yes 18 false rfl rfl rfl e25)]
    have e28:=hdE (HD 21 _ 28 rfl rfl rfl)
    have ca:w1.cell? ⟨qb+1,2,none⟩=some (.int .i64 (ip:Int)):=(HC.out w1 HJ).2.2.2.2.2.1
    go_simp;exact kk _ _ (by simp) HJ trivial rfl
   ·intro a w1 vs K HJ HK HD HN kk
    have e25:=hdE (HD 18 _ 25 rfl rfl rfl)
    rw [if_pos (wanted_yes 18 false rfl rfl rfl e25)]
    have e27:=hdE (HD 20 _ 27 rfl rfl rfl)
    have e29:=hdE (HD 22 _ 29 rfl rfl rfl)
    go_simp;exact kk _ _ (by simp) HJ trivial rfl
   ·intro a w1 vs K HJ HK HD HN kk
    have e25:=hdE (HD 18 _ 25 rfl rfl rfl)
    rw [if_pos (wanted_yes 18 false rfl rfl rfl e25)]
    have e30:=hdE (HD 23 _ 30 rfl rfl rfl)
    go_simp;exact kk _ _ (by simp) HJ trivial rfl
   ·intro a w1 vs K HJ HK HD HN kk
    have e25:=hdE (HD 18 _ 25 rfl rfl rfl)
    rw [if_pos (wanted_yes 18 false rfl rfl rfl e25)]
    have e31:=hdE (HD 24 _ 31 rfl rfl rfl)
    have ca:w1.cell? ⟨pb,po+ip * 3+2,none⟩=some (.slice (V.tA ip) nt (V.tc ip)):=(HC2.out w1 HJ).2.1
    go_simp;exact kk _ _ (by simp) HJ trivial rfl
   ·intro a w1 vs K HJ HK HD HN kk
    have e25:=hdE (HD 18 _ 25 rfl rfl rfl)
    rw [if_pos (wanted_yes 18 false rfl rfl rfl e25)]
    have e3:=HK 3 (by decide)
    go_simp;exact kk _ _ (by simp) HJ trivial rfl
   ·intro a w1 vs K HJ HK HD HN kk
    have e25:=hdE (HD 18 _ 25 rfl rfl rfl)
    rw [if_pos (wanted_yes 18 false rfl rfl rfl e25)]
    have e33:=hdE (HD 26 _ 33 rfl rfl rfl)
    have ca:w1.cell? ⟨qb+1,1,none⟩=some (.int .i64 (ic:Int)):=(HC.out w1 HJ).2.2.2.2.1
    go_simp;exact kk _ _ (by simp) HJ trivial rfl
   ·intro a w1 vs K HJ HK HD HN kk
    have e25:=hdE (HD 18 _ 25 rfl rfl rfl)
    rw [if_pos (wanted_yes 18 false rfl rfl rfl e25)]
    have e32:=hdE (HD 25 _ 32 rfl rfl rfl)
    have e34:=hdE (HD 27 _ 34 rfl rfl rfl)
    exact wpo_call 86 _ _ rfl #[.slice (V.tA ip) nt (V.tc ip),.int .i64 (ic:Int)] (by simp [Act.eval,e32,e34]) (fun args w=>by kernel_rfl)
     ((HCT.out w1 HJ).mono fun e w' ⟨he,hb⟩=>⟨_,he,kk _ _ (by simp) (Below.trans HJ (hb.mono HJ.size)) trivial rfl⟩)
   ·intro a w1 vs K HJ HK HD HN kk
    have e25:=hdE (HD 18 _ 25 rfl rfl rfl)
    rw [if_pos (wanted_yes 18 false rfl rfl rfl e25)]
    have e35:=hdE (HD 28 _ 35 rfl rfl rfl)
    go_simp;exact kk _ _ (by simp) HJ trivial rfl
   ·intro a w1 vs K HJ HK HD HN kk
    have e25:=hdE (HD 18 _ 25 rfl rfl rfl)
    have e36:=hdE (HD 29 _ 36 rfl rfl rfl)
    go_simp;exact kk _ _ (by simp) HJ trivial rfl
   ·intro a w1 vs K HJ HK HD HN kk
    have e37:=hdE (HD 30 _ 37 rfl rfl rfl)
    go_simp;exact kk _ _ (by simp) HJ trivial rfl
   ·intro a w1 vs K HJ HK HD HN kk
    have e38:=hdE (HD 31 _ 38 rfl rfl rfl)
    rw [if_neg (wanted_no 31 false rfl rfl rfl e38)]
    exact kk undef _ (by simp) HJ trivial rfl
   ·intro a w1 vs K HJ HK HD HN kk
    have e38:=hdE (HD 31 _ 38 rfl rfl rfl)
    rw [if_neg (wanted_no 31 false rfl rfl rfl e38)]
    exact kk undef _ (by simp) HJ trivial rfl
   ·intro a w1 vs K HJ HK HD HN kk
    have e38:=hdE (HD 31 _ 38 rfl rfl rfl)
    rw [if_neg (wanted_no 31 false rfl rfl rfl e38)]
    exact kk undef _ (by simp) HJ trivial rfl
   ·intro a w1 vs K HJ HK HD HN kk
    have e38:=hdE (HD 31 _ 38 rfl rfl rfl)
    rw [if_neg (wanted_no 31 false rfl rfl rfl e38)]
    exact kk undef _ (by simp) HJ trivial rfl
   ·intro a w1 vs K HJ HK HD HN kk
    have e38:=hdE (HD 31 _ 38 rfl rfl rfl)
    rw [if_neg (wanted_no 31 false rfl rfl rfl e38)]
    exact kk undef _ (by simp) HJ trivial rfl
   ·intro a w1 vs K HJ HK HD HN kk
    have e38:=hdE (HD 31 _ 38 rfl rfl rfl)
    rw [if_neg (wanted_no 31 false rfl rfl rfl e38)]
    exact kk undef _ (by simp) HJ trivial rfl
   ·intro a w1 vs K HJ HK HD HN kk
    have e38:=hdE (HD 31 _ 38 rfl rfl rfl)
    rw [if_neg (wanted_no 31 false rfl rfl rfl e38)]
    exact kk undef _ (by simp) HJ trivial rfl
   ·intro a w1 vs K HJ HK HD HN kk
    have e38:=hdE (HD 31 _ 38 rfl rfl rfl)
    rw [if_neg (wanted_no 31 false rfl rfl rfl e38)]
    exact kk undef _ (by simp) HJ trivial rfl
   ·intro a w1 vs K HJ HK HD HN kk
    have e38:=hdE (HD 31 _ 38 rfl rfl rfl)
    rw [if_neg (wanted_no 31 false rfl rfl rfl e38)]
    exact kk undef _ (by simp) HJ trivial rfl
   ·intro a w1 vs K HJ HK HD HN kk
    have e38:=hdE (HD 31 _ 38 rfl rfl rfl)
    rw [if_neg (wanted_no 31 false rfl rfl rfl e38)]
    exact kk undef _ (by simp) HJ trivial rfl
   ·intro a w1 vs K HJ HK HD HN kk
    have e38:=hdE (HD 31 _ 38 rfl rfl rfl)
    rw [if_neg (wanted_no 31 false rfl rfl rfl e38)]
    exact kk undef _ (by simp) HJ trivial rfl
   ·intro a w1 vs K HJ HK HD HN kk
    have e38:=hdE (HD 31 _ 38 rfl rfl rfl)
    have e49:=hdE (HD 42 _ 49 rfl rfl rfl)
    go_simp;exact kk _ _ (by simp) HJ trivial rfl
  ·intro vs w6 hw6 hrr
   have e43:vs 43=.bool true:=hrr 43 _ rfl
   have HF:=Lib.hid (HFIN.out _ _ HRF.out (HB0.out.trans (Below.mono hw6 HSZ.out)))
   clear hrr hw6
   simp only [putAll,Act.put,List.setIfInBounds_toArray,List.set_cons_zero,List.set_cons_succ]
   rw [e43]
   go_wp2_with fail
   first | exact HF.out | (go_ret;exact HF.out)
 | true =>
 cases b4 with
 | false =>
  have HRF:Hid (false=R):=Lib.hid (by rw [← HR.out];exact (possB_no4 HB4.out).symm)
  go_enter Tryz.func85,Tryz.ntmps85
  go_upto_region 1 with (fail)
  clear hqb hW0
  refine wp_region_steps (by kernel_rfl) (by kernel_rfl) (fun w1=>Below W0.heap.size W0 w1) (fun _ _ _=>True)
   (fun ix u _ _=>match ix with
    | 0=>u=.pointer (some ⟨qb+1,1,none⟩)
    | 1=>u=.int .i64 (ic:Int)
    | 2=>u=.pointer (some ⟨qb,0,none⟩)
    | 3=>u=.slice (some ⟨cb,co,none⟩) nc V.cc
    | 4=>u=.int .i64 nc
    | 5=>u=.int .i64 ((nc:Int) - 1)
    | 6=>u=.bool true
    | 7=>u=.bool false
    | 8=>u=.bool false
    | 9=>u=.pointer (some ⟨qb+1,2,none⟩)
    | 10=>u=.int .i64 (ip:Int)
    | 11=>u=.pointer (some ⟨qb,1,none⟩)
    | 12=>u=.slice (some ⟨pb,po,none⟩) np V.pc
    | 13=>u=.int .i64 np
    | 14=>u=.int .i64 ((np:Int) - 1)
    | 15=>u=.bool true
    | 16=>u=.bool false
    | 17=>u=.bool false
    | 18=>u=.bool false
    | 19=>u=.pointer (some ⟨qb,1,none⟩)
    | 20=>u=.slice (some ⟨pb,po,none⟩) np V.pc
    | 21=>u=.pointer (some ⟨qb+1,2,none⟩)
    | 22=>u=.int .i64 (ip:Int)
    | 23=>u=.pointer (some ⟨pb,po+ip * 3,none⟩)
    | 24=>u=.pointer (some ⟨pb,po+ip * 3+2,none⟩)
    | 25=>u=.slice (V.tA ip) nt (V.tc ip)
    | 26=>u=.pointer (some ⟨qb+1,1,none⟩)
    | 27=>u=.int .i64 (ic:Int)
    | 28=>u=.bool true
    | 29=>u=.bool false
    | 30=>u=.bool false
    | 31=>u=.bool false
    | 32=>u=.pointer (some ⟨qb+1,0,none⟩)
    | 33=>u=.int .i64 x.day
    | 34=>u=.pointer (some ⟨qb,0,none⟩)
    | 35=>u=.slice (some ⟨cb,co,none⟩) nc V.cc
    | 36=>u=.pointer (some ⟨qb+1,1,none⟩)
    | 37=>u=.int .i64 (ic:Int)
    | 38=>u=.pointer (some ⟨cb,co+ic * 4,none⟩)
    | 39=>u=.pointer (some ⟨cb,co+ic * 4+2,none⟩)
    | 40=>u=.int .i64 rd
    | 41=>u=.bool false
    | 42=>u=.bool true
    | _=>u=.bool true) (Below.refl _ _).drew (fun _ _ _ _ _ _ _ _ h _ _=>h) ?_ ?_
  ·refine ⟨?_,?_,?_,?_,?_,?_,?_,?_,?_,?_,?_,?_,?_,?_,?_,?_,?_,?_,?_,?_,?_,?_,?_,?_,?_,?_,?_,?_,?_,?_,?_,?_,?_,?_,?_,?_,?_,?_,?_,?_,?_,?_,?_,?_,trivial⟩
   ·intro a w1 vs K HJ HK HD HN kk
    have e3:=HK 3 (by decide)
    go_simp;exact kk _ _ (by simp) HJ trivial rfl
   ·intro a w1 vs K HJ HK HD HN kk
    have e7:=hdE (HD 0 _ 7 rfl rfl rfl)
    have ca:w1.cell? ⟨qb+1,1,none⟩=some (.int .i64 (ic:Int)):=(HC.out w1 HJ).2.2.2.2.1
    go_simp;exact kk _ _ (by simp) HJ trivial rfl
   ·intro a w1 vs K HJ HK HD HN kk
    have e2:=HK 2 (by decide)
    go_simp;exact kk _ _ (by simp) HJ trivial rfl
   ·intro a w1 vs K HJ HK HD HN kk
    have e9:=hdE (HD 2 _ 9 rfl rfl rfl)
    have ca:w1.cell? ⟨qb,0,none⟩=some (.slice (some ⟨cb,co,none⟩) nc V.cc):=(HC.out w1 HJ).1
    go_simp;exact kk _ _ (by simp) HJ trivial rfl
   ·intro a w1 vs K HJ HK HD HN kk
    have e10:=hdE (HD 3 _ 10 rfl rfl rfl)
    go_simp;exact kk _ _ (by simp) HJ trivial rfl
   ·intro a w1 vs K HJ HK HD HN kk
    have e11:=hdE (HD 4 _ 11 rfl rfl rfl)
    have hws:IntKind.i64.wrap ((nc:Int) - 1)=(nc:Int) - 1:=IntWalk.i64_in _ (by omega)
    go_simp;exact kk _ _ (by simp) HJ trivial rfl
   ·intro a w1 vs K HJ HK HD HN kk
    have e8:=hdE (HD 1 _ 8 rfl rfl rfl)
    have e12:=hdE (HD 5 _ 12 rfl rfl rfl)
    exact wpo_call 53 _ _ rfl #[.int .i64 (ic:Int),.int .i64 0,.int .i64 ((nc:Int) - 1)] (by simp [Act.eval,e8,e12]) (fun args w=>by kernel_rfl)
     ((HI1.out w1).mono fun e w' ⟨he,hb⟩=>⟨_,he,kk _ _ (by simp) (Below.trans HJ (hb.mono HJ.size)) trivial rfl⟩)
   ·intro a w1 vs K HJ HK HD HN kk
    have e13:=hdE (HD 6 _ 13 rfl rfl rfl)
    go_simp;exact kk _ _ (by simp) HJ trivial rfl
   ·intro a w1 vs K HJ HK HD HN kk
    have e14:=hdE (HD 7 _ 14 rfl rfl rfl)
    go_simp;exact kk _ _ (by simp) HJ trivial rfl
   ·intro a w1 vs K HJ HK HD HN kk
    have e15:=hdE (HD 8 _ 15 rfl rfl rfl)
    rw [if_pos (wanted_yes 8 false rfl rfl rfl e15)]
    have e3:=HK 3 (by decide)
    go_simp;exact kk _ _ (by simp) HJ trivial rfl
   ·intro a w1 vs K HJ HK HD HN kk
    have e15:=hdE (HD 8 _ 15 rfl rfl rfl)
    rw [if_pos (wanted_yes 8 false rfl rfl rfl e15)]
    have e16:=hdE (HD 9 _ 16 rfl rfl rfl)
    have ca:w1.cell? ⟨qb+1,2,none⟩=some (.int .i64 (ip:Int)):=(HC.out w1 HJ).2.2.2.2.2.1
    go_simp;exact kk _ _ (by simp) HJ trivial rfl
   ·intro a w1 vs K HJ HK HD HN kk
    have e15:=hdE (HD 8 _ 15 rfl rfl rfl)
    rw [if_pos (wanted_yes 8 false rfl rfl rfl e15)]
    have e2:=HK 2 (by decide)
    go_simp;exact kk _ _ (by simp) HJ trivial rfl
   ·intro a w1 vs K HJ HK HD HN kk
    have e15:=hdE (HD 8 _ 15 rfl rfl rfl)
    rw [if_pos (wanted_yes 8 false rfl rfl rfl e15)]
    have e18:=hdE (HD 11 _ 18 rfl rfl rfl)
    have ca:w1.cell? ⟨qb,1,none⟩=some (.slice (some ⟨pb,po,none⟩) np V.pc):=(HC.out w1 HJ).2.1
    go_simp;exact kk _ _ (by simp) HJ trivial rfl
   ·intro a w1 vs K HJ HK HD HN kk
    have e15:=hdE (HD 8 _ 15 rfl rfl rfl)
    rw [if_pos (wanted_yes 8 false rfl rfl rfl e15)]
    have e19:=hdE (HD 12 _ 19 rfl rfl rfl)
    go_simp;exact kk _ _ (by simp) HJ trivial rfl
   ·intro a w1 vs K HJ HK HD HN kk
    have e15:=hdE (HD 8 _ 15 rfl rfl rfl)
    rw [if_pos (wanted_yes 8 false rfl rfl rfl e15)]
    have e20:=hdE (HD 13 _ 20 rfl rfl rfl)
    have hws:IntKind.i64.wrap ((np:Int) - 1)=(np:Int) - 1:=IntWalk.i64_in _ (by omega)
    go_simp;exact kk _ _ (by simp) HJ trivial rfl
   ·intro a w1 vs K HJ HK HD HN kk
    have e15:=hdE (HD 8 _ 15 rfl rfl rfl)
    rw [if_pos (wanted_yes 8 false rfl rfl rfl e15)]
    have e17:=hdE (HD 10 _ 17 rfl rfl rfl)
    have e21:=hdE (HD 14 _ 21 rfl rfl rfl)
    exact wpo_call 53 _ _ rfl #[.int .i64 (ip:Int),.int .i64 0,.int .i64 ((np:Int) - 1)] (by simp [Act.eval,e17,e21]) (fun args w=>by kernel_rfl)
     ((HI2.out w1).mono fun e w' ⟨he,hb⟩=>⟨_,he,kk _ _ (by simp) (Below.trans HJ (hb.mono HJ.size)) trivial rfl⟩)
   ·intro a w1 vs K HJ HK HD HN kk
    have e15:=hdE (HD 8 _ 15 rfl rfl rfl)
    rw [if_pos (wanted_yes 8 false rfl rfl rfl e15)]
    have e22:=hdE (HD 15 _ 22 rfl rfl rfl)
    go_simp;exact kk _ _ (by simp) HJ trivial rfl
   ·intro a w1 vs K HJ HK HD HN kk
    have e15:=hdE (HD 8 _ 15 rfl rfl rfl)
    have e23:=hdE (HD 16 _ 23 rfl rfl rfl)
    go_simp;exact kk _ _ (by simp) HJ trivial rfl
   ·intro a w1 vs K HJ HK HD HN kk
    have e24:=hdE (HD 17 _ 24 rfl rfl rfl)
    go_simp;exact kk _ _ (by simp) HJ trivial rfl
   ·intro a w1 vs K HJ HK HD HN kk
    have e25:=hdE (HD 18 _ 25 rfl rfl rfl)
    rw [if_pos (wanted_yes 18 false rfl rfl rfl e25)]
    have e2:=HK 2 (by decide)
    go_simp;exact kk _ _ (by simp) HJ trivial rfl
   ·intro a w1 vs K HJ HK HD HN kk
    have e25:=hdE (HD 18 _ 25 rfl rfl rfl)
    rw [if_pos (wanted_yes 18 false rfl rfl rfl e25)]
    have e26:=hdE (HD 19 _ 26 rfl rfl rfl)
    have ca:w1.cell? ⟨qb,1,none⟩=some (.slice (some ⟨pb,po,none⟩) np V.pc):=(HC.out w1 HJ).2.1
    go_simp;exact kk _ _ (by simp) HJ trivial rfl
   ·intro a w1 vs K HJ HK HD HN kk
    have e25:=hdE (HD 18 _ 25 rfl rfl rfl)
    rw [if_pos (wanted_yes 18 false rfl rfl rfl e25)]
    have e3:=HK 3 (by decide)
    go_simp;exact kk _ _ (by simp) HJ trivial rfl
   ·intro a w1 vs K HJ HK HD HN kk
    have e25:=hdE (HD 18 _ 25 rfl rfl rfl)
    rw [if_pos (wanted_yes 18 false rfl rfl rfl e25)]
    have e28:=hdE (HD 21 _ 28 rfl rfl rfl)
    have ca:w1.cell? ⟨qb+1,2,none⟩=some (.int .i64 (ip:Int)):=(HC.out w1 HJ).2.2.2.2.2.1
    go_simp;exact kk _ _ (by simp) HJ trivial rfl
   ·intro a w1 vs K HJ HK HD HN kk
    have e25:=hdE (HD 18 _ 25 rfl rfl rfl)
    rw [if_pos (wanted_yes 18 false rfl rfl rfl e25)]
    have e27:=hdE (HD 20 _ 27 rfl rfl rfl)
    have e29:=hdE (HD 22 _ 29 rfl rfl rfl)
    go_simp;exact kk _ _ (by simp) HJ trivial rfl
   ·intro a w1 vs K HJ HK HD HN kk
    have e25:=hdE (HD 18 _ 25 rfl rfl rfl)
    rw [if_pos (wanted_yes 18 false rfl rfl rfl e25)]
    have e30:=hdE (HD 23 _ 30 rfl rfl rfl)
    go_simp;exact kk _ _ (by simp) HJ trivial rfl
   ·intro a w1 vs K HJ HK HD HN kk
    have e25:=hdE (HD 18 _ 25 rfl rfl rfl)
    rw [if_pos (wanted_yes 18 false rfl rfl rfl e25)]
    have e31:=hdE (HD 24 _ 31 rfl rfl rfl)
    have ca:w1.cell? ⟨pb,po+ip * 3+2,none⟩=some (.slice (V.tA ip) nt (V.tc ip)):=(HC2.out w1 HJ).2.1
    go_simp;exact kk _ _ (by simp) HJ trivial rfl
   ·intro a w1 vs K HJ HK HD HN kk
    have e25:=hdE (HD 18 _ 25 rfl rfl rfl)
    rw [if_pos (wanted_yes 18 false rfl rfl rfl e25)]
    have e3:=HK 3 (by decide)
    go_simp;exact kk _ _ (by simp) HJ trivial rfl
   ·intro a w1 vs K HJ HK HD HN kk
    have e25:=hdE (HD 18 _ 25 rfl rfl rfl)
    rw [if_pos (wanted_yes 18 false rfl rfl rfl e25)]
    have e33:=hdE (HD 26 _ 33 rfl rfl rfl)
    have ca:w1.cell? ⟨qb+1,1,none⟩=some (.int .i64 (ic:Int)):=(HC.out w1 HJ).2.2.2.2.1
    go_simp;exact kk _ _ (by simp) HJ trivial rfl
   ·intro a w1 vs K HJ HK HD HN kk
    have e25:=hdE (HD 18 _ 25 rfl rfl rfl)
    rw [if_pos (wanted_yes 18 false rfl rfl rfl e25)]
    have e32:=hdE (HD 25 _ 32 rfl rfl rfl)
    have e34:=hdE (HD 27 _ 34 rfl rfl rfl)
    exact wpo_call 86 _ _ rfl #[.slice (V.tA ip) nt (V.tc ip),.int .i64 (ic:Int)] (by simp [Act.eval,e32,e34]) (fun args w=>by kernel_rfl)
     ((HCT.out w1 HJ).mono fun e w' ⟨he,hb⟩=>⟨_,he,kk _ _ (by simp) (Below.trans HJ (hb.mono HJ.size)) trivial rfl⟩)
   ·intro a w1 vs K HJ HK HD HN kk
    have e25:=hdE (HD 18 _ 25 rfl rfl rfl)
    rw [if_pos (wanted_yes 18 false rfl rfl rfl e25)]
    have e35:=hdE (HD 28 _ 35 rfl rfl rfl)
    go_simp;exact kk _ _ (by simp) HJ trivial rfl
   ·intro a w1 vs K HJ HK HD HN kk
    have e25:=hdE (HD 18 _ 25 rfl rfl rfl)
    have e36:=hdE (HD 29 _ 36 rfl rfl rfl)
    go_simp;exact kk _ _ (by simp) HJ trivial rfl
   ·intro a w1 vs K HJ HK HD HN kk
    have e37:=hdE (HD 30 _ 37 rfl rfl rfl)
    go_simp;exact kk _ _ (by simp) HJ trivial rfl
   ·intro a w1 vs K HJ HK HD HN kk
    have e38:=hdE (HD 31 _ 38 rfl rfl rfl)
    rw [if_pos (wanted_yes 31 false rfl rfl rfl e38)]
    have e3:=HK 3 (by decide)
    go_simp;exact kk _ _ (by simp) HJ trivial rfl
   ·intro a w1 vs K HJ HK HD HN kk
    have e38:=hdE (HD 31 _ 38 rfl rfl rfl)
    rw [if_pos (wanted_yes 31 false rfl rfl rfl e38)]
    have e39:=hdE (HD 32 _ 39 rfl rfl rfl)
    have ca:w1.cell? ⟨qb+1,0,none⟩=some (.int .i64 x.day):=(HC.out w1 HJ).2.2.2.1
    go_simp;exact kk _ _ (by simp) HJ trivial rfl
   ·intro a w1 vs K HJ HK HD HN kk
    have e38:=hdE (HD 31 _ 38 rfl rfl rfl)
    rw [if_pos (wanted_yes 31 false rfl rfl rfl e38)]
    have e2:=HK 2 (by decide)
    go_simp;exact kk _ _ (by simp) HJ trivial rfl
   ·intro a w1 vs K HJ HK HD HN kk
    have e38:=hdE (HD 31 _ 38 rfl rfl rfl)
    rw [if_pos (wanted_yes 31 false rfl rfl rfl e38)]
    have e41:=hdE (HD 34 _ 41 rfl rfl rfl)
    have ca:w1.cell? ⟨qb,0,none⟩=some (.slice (some ⟨cb,co,none⟩) nc V.cc):=(HC.out w1 HJ).1
    go_simp;exact kk _ _ (by simp) HJ trivial rfl
   ·intro a w1 vs K HJ HK HD HN kk
    have e38:=hdE (HD 31 _ 38 rfl rfl rfl)
    rw [if_pos (wanted_yes 31 false rfl rfl rfl e38)]
    have e3:=HK 3 (by decide)
    go_simp;exact kk _ _ (by simp) HJ trivial rfl
   ·intro a w1 vs K HJ HK HD HN kk
    have e38:=hdE (HD 31 _ 38 rfl rfl rfl)
    rw [if_pos (wanted_yes 31 false rfl rfl rfl e38)]
    have e43:=hdE (HD 36 _ 43 rfl rfl rfl)
    have ca:w1.cell? ⟨qb+1,1,none⟩=some (.int .i64 (ic:Int)):=(HC.out w1 HJ).2.2.2.2.1
    go_simp;exact kk _ _ (by simp) HJ trivial rfl
   ·intro a w1 vs K HJ HK HD HN kk
    have e38:=hdE (HD 31 _ 38 rfl rfl rfl)
    rw [if_pos (wanted_yes 31 false rfl rfl rfl e38)]
    have e42:=hdE (HD 35 _ 42 rfl rfl rfl)
    have e44:=hdE (HD 37 _ 44 rfl rfl rfl)
    go_simp;exact kk _ _ (by simp) HJ trivial rfl
   ·intro a w1 vs K HJ HK HD HN kk
    have e38:=hdE (HD 31 _ 38 rfl rfl rfl)
    rw [if_pos (wanted_yes 31 false rfl rfl rfl e38)]
    have e45:=hdE (HD 38 _ 45 rfl rfl rfl)
    go_simp;exact kk _ _ (by simp) HJ trivial rfl
   ·intro a w1 vs K HJ HK HD HN kk
    have e38:=hdE (HD 31 _ 38 rfl rfl rfl)
    rw [if_pos (wanted_yes 31 false rfl rfl rfl e38)]
    have e46:=hdE (HD 39 _ 46 rfl rfl rfl)
    have ca:w1.cell? ⟨cb,co+ic * 4+2,none⟩=some (.int .i64 rd):=(HC2.out w1 HJ).1
    go_simp;exact kk _ _ (by simp) HJ trivial rfl
   ·intro a w1 vs K HJ HK HD HN kk
    have e38:=hdE (HD 31 _ 38 rfl rfl rfl)
    rw [if_pos (wanted_yes 31 false rfl rfl rfl e38)]
    have e40:=hdE (HD 33 _ 40 rfl rfl rfl)
    have e47:=hdE (HD 40 _ 47 rfl rfl rfl)
    exact wpo_call 53 _ _ rfl #[.int .i64 x.day,.int .i64 rd,.int .i64 10000] (by simp [Act.eval,e40,e47]) (fun args w=>by kernel_rfl)
     ((HI4.out w1).mono fun e w' ⟨he,hb⟩=>⟨_,he,kk _ _ (by simp) (Below.trans HJ (hb.mono HJ.size)) trivial rfl⟩)
   ·intro a w1 vs K HJ HK HD HN kk
    have e38:=hdE (HD 31 _ 38 rfl rfl rfl)
    rw [if_pos (wanted_yes 31 false rfl rfl rfl e38)]
    have e48:=hdE (HD 41 _ 48 rfl rfl rfl)
    go_simp;exact kk _ _ (by simp) HJ trivial rfl
   ·intro a w1 vs K HJ HK HD HN kk
    have e38:=hdE (HD 31 _ 38 rfl rfl rfl)
    have e49:=hdE (HD 42 _ 49 rfl rfl rfl)
    go_simp;exact kk _ _ (by simp) HJ trivial rfl
  ·intro vs w6 hw6 hrr
   have e43:vs 43=.bool true:=hrr 43 _ rfl
   have HF:=Lib.hid (HFIN.out _ _ HRF.out (HB0.out.trans (Below.mono hw6 HSZ.out)))
   clear hrr hw6
   simp only [putAll,Act.put,List.setIfInBounds_toArray,List.set_cons_zero,List.set_cons_succ]
   rw [e43]
   go_wp2_with fail
   first | exact HF.out | (go_ret;exact HF.out)
 | true =>
 go_enter Tryz.func85,Tryz.ntmps85
 go_upto_region 1 with (fail)
 clear hqb hW0
 refine wp_region_steps (by kernel_rfl) (by kernel_rfl) (fun w1=>Below W0.heap.size W0 w1) (fun _ _ _=>True)
  (fun ix u _ _=>match ix with
   | 0=>u=.pointer (some ⟨qb+1,1,none⟩)
   | 1=>u=.int .i64 (ic:Int)
   | 2=>u=.pointer (some ⟨qb,0,none⟩)
   | 3=>u=.slice (some ⟨cb,co,none⟩) nc V.cc
   | 4=>u=.int .i64 nc
   | 5=>u=.int .i64 ((nc:Int) - 1)
   | 6=>u=.bool true
   | 7=>u=.bool false
   | 8=>u=.bool false
   | 9=>u=.pointer (some ⟨qb+1,2,none⟩)
   | 10=>u=.int .i64 (ip:Int)
   | 11=>u=.pointer (some ⟨qb,1,none⟩)
   | 12=>u=.slice (some ⟨pb,po,none⟩) np V.pc
   | 13=>u=.int .i64 np
   | 14=>u=.int .i64 ((np:Int) - 1)
   | 15=>u=.bool true
   | 16=>u=.bool false
   | 17=>u=.bool false
   | 18=>u=.bool false
   | 19=>u=.pointer (some ⟨qb,1,none⟩)
   | 20=>u=.slice (some ⟨pb,po,none⟩) np V.pc
   | 21=>u=.pointer (some ⟨qb+1,2,none⟩)
   | 22=>u=.int .i64 (ip:Int)
   | 23=>u=.pointer (some ⟨pb,po+ip * 3,none⟩)
   | 24=>u=.pointer (some ⟨pb,po+ip * 3+2,none⟩)
   | 25=>u=.slice (V.tA ip) nt (V.tc ip)
   | 26=>u=.pointer (some ⟨qb+1,1,none⟩)
   | 27=>u=.int .i64 (ic:Int)
   | 28=>u=.bool true
   | 29=>u=.bool false
   | 30=>u=.bool false
   | 31=>u=.bool false
   | 32=>u=.pointer (some ⟨qb+1,0,none⟩)
   | 33=>u=.int .i64 x.day
   | 34=>u=.pointer (some ⟨qb,0,none⟩)
   | 35=>u=.slice (some ⟨cb,co,none⟩) nc V.cc
   | 36=>u=.pointer (some ⟨qb+1,1,none⟩)
   | 37=>u=.int .i64 (ic:Int)
   | 38=>u=.pointer (some ⟨cb,co+ic * 4,none⟩)
   | 39=>u=.pointer (some ⟨cb,co+ic * 4+2,none⟩)
   | 40=>u=.int .i64 rd
   | 41=>u=.bool true
   | 42=>u=.bool false
   | _=>u=.bool false) (Below.refl _ _).drew (fun _ _ _ _ _ _ _ _ h _ _=>h) ?_ ?_
 ·refine ⟨?_,?_,?_,?_,?_,?_,?_,?_,?_,?_,?_,?_,?_,?_,?_,?_,?_,?_,?_,?_,?_,?_,?_,?_,?_,?_,?_,?_,?_,?_,?_,?_,?_,?_,?_,?_,?_,?_,?_,?_,?_,?_,?_,?_,trivial⟩
  ·intro a w1 vs K HJ HK HD HN kk
   have e3:=HK 3 (by decide)
   go_simp;exact kk _ _ (by simp) HJ trivial rfl
  ·intro a w1 vs K HJ HK HD HN kk
   have e7:=hdE (HD 0 _ 7 rfl rfl rfl)
   have ca:w1.cell? ⟨qb+1,1,none⟩=some (.int .i64 (ic:Int)):=(HC.out w1 HJ).2.2.2.2.1
   go_simp;exact kk _ _ (by simp) HJ trivial rfl
  ·intro a w1 vs K HJ HK HD HN kk
   have e2:=HK 2 (by decide)
   go_simp;exact kk _ _ (by simp) HJ trivial rfl
  ·intro a w1 vs K HJ HK HD HN kk
   have e9:=hdE (HD 2 _ 9 rfl rfl rfl)
   have ca:w1.cell? ⟨qb,0,none⟩=some (.slice (some ⟨cb,co,none⟩) nc V.cc):=(HC.out w1 HJ).1
   go_simp;exact kk _ _ (by simp) HJ trivial rfl
  ·intro a w1 vs K HJ HK HD HN kk
   have e10:=hdE (HD 3 _ 10 rfl rfl rfl)
   go_simp;exact kk _ _ (by simp) HJ trivial rfl
  ·intro a w1 vs K HJ HK HD HN kk
   have e11:=hdE (HD 4 _ 11 rfl rfl rfl)
   have hws:IntKind.i64.wrap ((nc:Int) - 1)=(nc:Int) - 1:=IntWalk.i64_in _ (by omega)
   go_simp;exact kk _ _ (by simp) HJ trivial rfl
  ·intro a w1 vs K HJ HK HD HN kk
   have e8:=hdE (HD 1 _ 8 rfl rfl rfl)
   have e12:=hdE (HD 5 _ 12 rfl rfl rfl)
   exact wpo_call 53 _ _ rfl #[.int .i64 (ic:Int),.int .i64 0,.int .i64 ((nc:Int) - 1)] (by simp [Act.eval,e8,e12]) (fun args w=>by kernel_rfl)
    ((HI1.out w1).mono fun e w' ⟨he,hb⟩=>⟨_,he,kk _ _ (by simp) (Below.trans HJ (hb.mono HJ.size)) trivial rfl⟩)
  ·intro a w1 vs K HJ HK HD HN kk
   have e13:=hdE (HD 6 _ 13 rfl rfl rfl)
   go_simp;exact kk _ _ (by simp) HJ trivial rfl
  ·intro a w1 vs K HJ HK HD HN kk
   have e14:=hdE (HD 7 _ 14 rfl rfl rfl)
   go_simp;exact kk _ _ (by simp) HJ trivial rfl
  ·intro a w1 vs K HJ HK HD HN kk
   have e15:=hdE (HD 8 _ 15 rfl rfl rfl)
   rw [if_pos (wanted_yes 8 false rfl rfl rfl e15)]
   have e3:=HK 3 (by decide)
   go_simp;exact kk _ _ (by simp) HJ trivial rfl
  ·intro a w1 vs K HJ HK HD HN kk
   have e15:=hdE (HD 8 _ 15 rfl rfl rfl)
   rw [if_pos (wanted_yes 8 false rfl rfl rfl e15)]
   have e16:=hdE (HD 9 _ 16 rfl rfl rfl)
   have ca:w1.cell? ⟨qb+1,2,none⟩=some (.int .i64 (ip:Int)):=(HC.out w1 HJ).2.2.2.2.2.1
   go_simp;exact kk _ _ (by simp) HJ trivial rfl
  ·intro a w1 vs K HJ HK HD HN kk
   have e15:=hdE (HD 8 _ 15 rfl rfl rfl)
   rw [if_pos (wanted_yes 8 false rfl rfl rfl e15)]
   have e2:=HK 2 (by decide)
   go_simp;exact kk _ _ (by simp) HJ trivial rfl
  ·intro a w1 vs K HJ HK HD HN kk
   have e15:=hdE (HD 8 _ 15 rfl rfl rfl)
   rw [if_pos (wanted_yes 8 false rfl rfl rfl e15)]
   have e18:=hdE (HD 11 _ 18 rfl rfl rfl)
   have ca:w1.cell? ⟨qb,1,none⟩=some (.slice (some ⟨pb,po,none⟩) np V.pc):=(HC.out w1 HJ).2.1
   go_simp;exact kk _ _ (by simp) HJ trivial rfl
  ·intro a w1 vs K HJ HK HD HN kk
   have e15:=hdE (HD 8 _ 15 rfl rfl rfl)
   rw [if_pos (wanted_yes 8 false rfl rfl rfl e15)]
   have e19:=hdE (HD 12 _ 19 rfl rfl rfl)
   go_simp;exact kk _ _ (by simp) HJ trivial rfl
  ·intro a w1 vs K HJ HK HD HN kk
   have e15:=hdE (HD 8 _ 15 rfl rfl rfl)
   rw [if_pos (wanted_yes 8 false rfl rfl rfl e15)]
   have e20:=hdE (HD 13 _ 20 rfl rfl rfl)
   have hws:IntKind.i64.wrap ((np:Int) - 1)=(np:Int) - 1:=IntWalk.i64_in _ (by omega)
   go_simp;exact kk _ _ (by simp) HJ trivial rfl
  ·intro a w1 vs K HJ HK HD HN kk
   have e15:=hdE (HD 8 _ 15 rfl rfl rfl)
   rw [if_pos (wanted_yes 8 false rfl rfl rfl e15)]
   have e17:=hdE (HD 10 _ 17 rfl rfl rfl)
   have e21:=hdE (HD 14 _ 21 rfl rfl rfl)
   exact wpo_call 53 _ _ rfl #[.int .i64 (ip:Int),.int .i64 0,.int .i64 ((np:Int) - 1)] (by simp [Act.eval,e17,e21]) (fun args w=>by kernel_rfl)
    ((HI2.out w1).mono fun e w' ⟨he,hb⟩=>⟨_,he,kk _ _ (by simp) (Below.trans HJ (hb.mono HJ.size)) trivial rfl⟩)
  ·intro a w1 vs K HJ HK HD HN kk
   have e15:=hdE (HD 8 _ 15 rfl rfl rfl)
   rw [if_pos (wanted_yes 8 false rfl rfl rfl e15)]
   have e22:=hdE (HD 15 _ 22 rfl rfl rfl)
   go_simp;exact kk _ _ (by simp) HJ trivial rfl
  ·intro a w1 vs K HJ HK HD HN kk
   have e15:=hdE (HD 8 _ 15 rfl rfl rfl)
   have e23:=hdE (HD 16 _ 23 rfl rfl rfl)
   go_simp;exact kk _ _ (by simp) HJ trivial rfl
  ·intro a w1 vs K HJ HK HD HN kk
   have e24:=hdE (HD 17 _ 24 rfl rfl rfl)
   go_simp;exact kk _ _ (by simp) HJ trivial rfl
  ·intro a w1 vs K HJ HK HD HN kk
   have e25:=hdE (HD 18 _ 25 rfl rfl rfl)
   rw [if_pos (wanted_yes 18 false rfl rfl rfl e25)]
   have e2:=HK 2 (by decide)
   go_simp;exact kk _ _ (by simp) HJ trivial rfl
  ·intro a w1 vs K HJ HK HD HN kk
   have e25:=hdE (HD 18 _ 25 rfl rfl rfl)
   rw [if_pos (wanted_yes 18 false rfl rfl rfl e25)]
   have e26:=hdE (HD 19 _ 26 rfl rfl rfl)
   have ca:w1.cell? ⟨qb,1,none⟩=some (.slice (some ⟨pb,po,none⟩) np V.pc):=(HC.out w1 HJ).2.1
   go_simp;exact kk _ _ (by simp) HJ trivial rfl
  ·intro a w1 vs K HJ HK HD HN kk
   have e25:=hdE (HD 18 _ 25 rfl rfl rfl)
   rw [if_pos (wanted_yes 18 false rfl rfl rfl e25)]
   have e3:=HK 3 (by decide)
   go_simp;exact kk _ _ (by simp) HJ trivial rfl
  ·intro a w1 vs K HJ HK HD HN kk
   have e25:=hdE (HD 18 _ 25 rfl rfl rfl)
   rw [if_pos (wanted_yes 18 false rfl rfl rfl e25)]
   have e28:=hdE (HD 21 _ 28 rfl rfl rfl)
   have ca:w1.cell? ⟨qb+1,2,none⟩=some (.int .i64 (ip:Int)):=(HC.out w1 HJ).2.2.2.2.2.1
   go_simp;exact kk _ _ (by simp) HJ trivial rfl
  ·intro a w1 vs K HJ HK HD HN kk
   have e25:=hdE (HD 18 _ 25 rfl rfl rfl)
   rw [if_pos (wanted_yes 18 false rfl rfl rfl e25)]
   have e27:=hdE (HD 20 _ 27 rfl rfl rfl)
   have e29:=hdE (HD 22 _ 29 rfl rfl rfl)
   go_simp;exact kk _ _ (by simp) HJ trivial rfl
  ·intro a w1 vs K HJ HK HD HN kk
   have e25:=hdE (HD 18 _ 25 rfl rfl rfl)
   rw [if_pos (wanted_yes 18 false rfl rfl rfl e25)]
   have e30:=hdE (HD 23 _ 30 rfl rfl rfl)
   go_simp;exact kk _ _ (by simp) HJ trivial rfl
  ·intro a w1 vs K HJ HK HD HN kk
   have e25:=hdE (HD 18 _ 25 rfl rfl rfl)
   rw [if_pos (wanted_yes 18 false rfl rfl rfl e25)]
   have e31:=hdE (HD 24 _ 31 rfl rfl rfl)
   have ca:w1.cell? ⟨pb,po+ip * 3+2,none⟩=some (.slice (V.tA ip) nt (V.tc ip)):=(HC2.out w1 HJ).2.1
   go_simp;exact kk _ _ (by simp) HJ trivial rfl
  ·intro a w1 vs K HJ HK HD HN kk
   have e25:=hdE (HD 18 _ 25 rfl rfl rfl)
   rw [if_pos (wanted_yes 18 false rfl rfl rfl e25)]
   have e3:=HK 3 (by decide)
   go_simp;exact kk _ _ (by simp) HJ trivial rfl
  ·intro a w1 vs K HJ HK HD HN kk
   have e25:=hdE (HD 18 _ 25 rfl rfl rfl)
   rw [if_pos (wanted_yes 18 false rfl rfl rfl e25)]
   have e33:=hdE (HD 26 _ 33 rfl rfl rfl)
   have ca:w1.cell? ⟨qb+1,1,none⟩=some (.int .i64 (ic:Int)):=(HC.out w1 HJ).2.2.2.2.1
   go_simp;exact kk _ _ (by simp) HJ trivial rfl
  ·intro a w1 vs K HJ HK HD HN kk
   have e25:=hdE (HD 18 _ 25 rfl rfl rfl)
   rw [if_pos (wanted_yes 18 false rfl rfl rfl e25)]
   have e32:=hdE (HD 25 _ 32 rfl rfl rfl)
   have e34:=hdE (HD 27 _ 34 rfl rfl rfl)
   exact wpo_call 86 _ _ rfl #[.slice (V.tA ip) nt (V.tc ip),.int .i64 (ic:Int)] (by simp [Act.eval,e32,e34]) (fun args w=>by kernel_rfl)
    ((HCT.out w1 HJ).mono fun e w' ⟨he,hb⟩=>⟨_,he,kk _ _ (by simp) (Below.trans HJ (hb.mono HJ.size)) trivial rfl⟩)
  ·intro a w1 vs K HJ HK HD HN kk
   have e25:=hdE (HD 18 _ 25 rfl rfl rfl)
   rw [if_pos (wanted_yes 18 false rfl rfl rfl e25)]
   have e35:=hdE (HD 28 _ 35 rfl rfl rfl)
   go_simp;exact kk _ _ (by simp) HJ trivial rfl
  ·intro a w1 vs K HJ HK HD HN kk
   have e25:=hdE (HD 18 _ 25 rfl rfl rfl)
   have e36:=hdE (HD 29 _ 36 rfl rfl rfl)
   go_simp;exact kk _ _ (by simp) HJ trivial rfl
  ·intro a w1 vs K HJ HK HD HN kk
   have e37:=hdE (HD 30 _ 37 rfl rfl rfl)
   go_simp;exact kk _ _ (by simp) HJ trivial rfl
  ·intro a w1 vs K HJ HK HD HN kk
   have e38:=hdE (HD 31 _ 38 rfl rfl rfl)
   rw [if_pos (wanted_yes 31 false rfl rfl rfl e38)]
   have e3:=HK 3 (by decide)
   go_simp;exact kk _ _ (by simp) HJ trivial rfl
  ·intro a w1 vs K HJ HK HD HN kk
   have e38:=hdE (HD 31 _ 38 rfl rfl rfl)
   rw [if_pos (wanted_yes 31 false rfl rfl rfl e38)]
   have e39:=hdE (HD 32 _ 39 rfl rfl rfl)
   have ca:w1.cell? ⟨qb+1,0,none⟩=some (.int .i64 x.day):=(HC.out w1 HJ).2.2.2.1
   go_simp;exact kk _ _ (by simp) HJ trivial rfl
  ·intro a w1 vs K HJ HK HD HN kk
   have e38:=hdE (HD 31 _ 38 rfl rfl rfl)
   rw [if_pos (wanted_yes 31 false rfl rfl rfl e38)]
   have e2:=HK 2 (by decide)
   go_simp;exact kk _ _ (by simp) HJ trivial rfl
  ·intro a w1 vs K HJ HK HD HN kk
   have e38:=hdE (HD 31 _ 38 rfl rfl rfl)
   rw [if_pos (wanted_yes 31 false rfl rfl rfl e38)]
   have e41:=hdE (HD 34 _ 41 rfl rfl rfl)
   have ca:w1.cell? ⟨qb,0,none⟩=some (.slice (some ⟨cb,co,none⟩) nc V.cc):=(HC.out w1 HJ).1
   go_simp;exact kk _ _ (by simp) HJ trivial rfl
  ·intro a w1 vs K HJ HK HD HN kk
   have e38:=hdE (HD 31 _ 38 rfl rfl rfl)
   rw [if_pos (wanted_yes 31 false rfl rfl rfl e38)]
   have e3:=HK 3 (by decide)
   go_simp;exact kk _ _ (by simp) HJ trivial rfl
  ·intro a w1 vs K HJ HK HD HN kk
   have e38:=hdE (HD 31 _ 38 rfl rfl rfl)
   rw [if_pos (wanted_yes 31 false rfl rfl rfl e38)]
   have e43:=hdE (HD 36 _ 43 rfl rfl rfl)
   have ca:w1.cell? ⟨qb+1,1,none⟩=some (.int .i64 (ic:Int)):=(HC.out w1 HJ).2.2.2.2.1
   go_simp;exact kk _ _ (by simp) HJ trivial rfl
  ·intro a w1 vs K HJ HK HD HN kk
   have e38:=hdE (HD 31 _ 38 rfl rfl rfl)
   rw [if_pos (wanted_yes 31 false rfl rfl rfl e38)]
   have e42:=hdE (HD 35 _ 42 rfl rfl rfl)
   have e44:=hdE (HD 37 _ 44 rfl rfl rfl)
   go_simp;exact kk _ _ (by simp) HJ trivial rfl
  ·intro a w1 vs K HJ HK HD HN kk
   have e38:=hdE (HD 31 _ 38 rfl rfl rfl)
   rw [if_pos (wanted_yes 31 false rfl rfl rfl e38)]
   have e45:=hdE (HD 38 _ 45 rfl rfl rfl)
   go_simp;exact kk _ _ (by simp) HJ trivial rfl
  ·intro a w1 vs K HJ HK HD HN kk
   have e38:=hdE (HD 31 _ 38 rfl rfl rfl)
   rw [if_pos (wanted_yes 31 false rfl rfl rfl e38)]
   have e46:=hdE (HD 39 _ 46 rfl rfl rfl)
   have ca:w1.cell? ⟨cb,co+ic * 4+2,none⟩=some (.int .i64 rd):=(HC2.out w1 HJ).1
   go_simp;exact kk _ _ (by simp) HJ trivial rfl
  ·intro a w1 vs K HJ HK HD HN kk
   have e38:=hdE (HD 31 _ 38 rfl rfl rfl)
   rw [if_pos (wanted_yes 31 false rfl rfl rfl e38)]
   have e40:=hdE (HD 33 _ 40 rfl rfl rfl)
   have e47:=hdE (HD 40 _ 47 rfl rfl rfl)
   exact wpo_call 53 _ _ rfl #[.int .i64 x.day,.int .i64 rd,.int .i64 10000] (by simp [Act.eval,e40,e47]) (fun args w=>by kernel_rfl)
    ((HI4.out w1).mono fun e w' ⟨he,hb⟩=>⟨_,he,kk _ _ (by simp) (Below.trans HJ (hb.mono HJ.size)) trivial rfl⟩)
  ·intro a w1 vs K HJ HK HD HN kk
   have e38:=hdE (HD 31 _ 38 rfl rfl rfl)
   rw [if_pos (wanted_yes 31 false rfl rfl rfl e38)]
   have e48:=hdE (HD 41 _ 48 rfl rfl rfl)
   go_simp;exact kk _ _ (by simp) HJ trivial rfl
  ·intro a w1 vs K HJ HK HD HN kk
   have e38:=hdE (HD 31 _ 38 rfl rfl rfl)
   have e49:=hdE (HD 42 _ 49 rfl rfl rfl)
   go_simp;exact kk _ _ (by simp) HJ trivial rfl
 ·intro vs W1 hw6 hrr
  have e43:vs 43=.bool false:=hrr 43 _ rfl
  have HB1W:=Lib.hid hw6
  clear hrr hw6
  simp only [putAll,Act.put,List.setIfInBounds_toArray,List.set_cons_zero,List.set_cons_succ]
  rw [e43]
  obtain ⟨b6,hb6⟩:∃ b,risingB x.cargos ng=b:=⟨_,rfl⟩
  have HI6:Hid (∀ w1,Below W0.heap.size W0 w1→Calls Tryz.prog 54 #[.slice A nl cl,.int .i64 (ng:Int)] w1 fun e w'=>e=.returned (.bool b6)∧Below w1.heap.size w1 w'):=Lib.hid fun w1 hb=>by
   rw [← hb6,← HNL.out]
   exact refRising_any w1 A cl x.cargos ng ⟨by omega,by omega⟩ (HLA.out.later hb)
  have HB6':Hid (risingB x.cargos c.cargos.length=b6):=Lib.hid (by rw [HNG.out];exact hb6)
  clear hb6
  obtain ⟨_,_,c2,_,_,_,c3⟩:=HC.out W1 HB1W.out
  rcases Nat.eq_zero_or_pos nl with hz | hz
  ·have HRF:Hid (false=R):=Lib.hid (by rw [← HR.out];exact (possB_no5 (List.length_eq_zero_iff.1 (HNL.out.trans hz))).symm)
   subst hz
   have HF:=Lib.hid (HFIN.out _ _ HRF.out (HB0.out.trans (HB1W.out.mono HSZ.out)))
   go_wp2_with fail
   first | exact HF.out | (go_ret;exact HF.out)
  have HZ:Hid (x.cargos ≠ []):=Lib.hid fun e=>by have:=HNL.out;rw [e] at this;simp at this;omega
  have hzi:((nl:Int) == 0)=false:=by rw [beq_eq_false_iff_ne];omega
  cases b6 with
  | false =>
   have HRF:Hid (false=R):=Lib.hid (by rw [← HR.out];exact (possB_no6 HB6'.out).symm)
   go_wp2_with fail
   refine (HI6.out _ HB1W.out).mono ?_
   rintro e W2 ⟨rfl,hb2⟩
   have HF:=Lib.hid (HFIN.out _ _ HRF.out (HB0.out.trans ((HB1W.out.trans (hb2.mono HB1W.out.size)).mono HSZ.out)))
   clear hb2 c2 c3
   go_wp2_with fail
   first | exact HF.out | (go_ret;exact HF.out)
  | true =>
   go_wp2_with fail
   refine (HI6.out _ HB1W.out).mono ?_
   rintro e W2 ⟨rfl,hb2⟩
   have HB2W:Hid (Below W0.heap.size W0 W2):=Lib.hid (HB1W.out.trans (hb2.mono HB1W.out.size))
   clear hb2 c2 c3 hzi
   have HNUM:=Lib.hid fun (k:Nat) (hk:k<x.cargos.length)=>rise_num HB6'.out hk
   go_wp2_with fail
   go_loopw [5] (fun iv wr=>∃ k:Nat,k≤nl∧iv=.int .i64 k∧Hid (Below W0.heap.size W0 wr∧∀ j,j<k→inB x.day (c.cargo (numI x.cargos j)).frm (c.cargo (numI x.cargos j)).to=true)) (fun iv _=>nl - (intOf iv).toNat)
   case atStart=>exact ⟨0,Nat.zero_le _,rfl,Lib.hid ⟨HB2W.out,fun j hj=>absurd hj (Nat.not_lt_zero j)⟩⟩
   case round =>
    obtain ⟨wo,rfl⟩:∃ wo:World,wo=wr:=⟨_,rfl⟩
    obtain ⟨k,hk,rfl,hs⟩:=hrel
    have HBW:=Lib.hid hs.out.1
    have HNO:=Lib.hid hs.out.2
    clear hs
    have h0k:(0:Int)≤(k:Int):=by omega
    obtain ⟨_,_,_,_,_,_,c3⟩:=HC.out wo HBW.out
    by_cases hlt:k<nl
    ·have hki:(k:Int)<(nl:Int):=by omega
     have hkt:k<x.cargos.length:=by rw [HNL.out];exact hlt
     obtain ⟨bb,off,hA,hbb,d0⟩:=Sl.at1 HLA.out hkt
     subst hA
     obtain ⟨m,hm,hmn⟩:=HNUM.out k hkt
     try dsimp only at d0
     rw [hm] at d0
     have hmn2:m<ng:=by have:=HNG.out;omega
     obtain ⟨gb,go,hga,hgb,hgc⟩:=HCA.out.cargos.2 (by omega)
     obtain ⟨y,hy⟩:∃ y,c.cargoN m=y:=⟨_,rfl⟩
     have HCG:Hid (∀ w1,Below W0.heap.size W0 w1→∀ j u,(cargoA y)[j]?=some u→w1.cell? ⟨gb,go+m * 6+j,none⟩=some u):=Lib.hid fun w1 hb j u hj=>by
      rw [hb.cell (p:=⟨gb,go+m * 6+j,none⟩) hgb]
      rw [← hy] at hj
      exact cargo_cell hgc (by rw [HNG.out];exact hmn2) j u hj
     have HCL:Hid (∀ w1,Below wo.heap.size wo w1→w1.cell? ⟨qb,2,none⟩=some (.slice (some ⟨gb,go,none⟩) ng V.gc)∧w1.cell? ⟨qb+1,3,none⟩=some (.slice (some ⟨bb,off,none⟩) nl cl)∧w1.cell? ⟨bb,off+k,none⟩=some (.int .i64 (m:Int))∧∀ j u,(cargoA y)[j]?=some u→w1.cell? ⟨gb,go+m * 6+j,none⟩=some u):=Lib.hid fun w1 hb=>by
      have hbw:=HBW.out.trans (hb.mono HBW.out.size)
      obtain ⟨_,_,e2,_,_,_,e3⟩:=HC.out w1 hbw
      exact ⟨by rw [← hga];exact e2,e3,(hbw.cell (p:=⟨bb,off+k,none⟩) hbb).trans d0,HCG.out w1 hbw⟩
     have hm0:(0:Int)≤(m:Int):=by omega
     have hmi:(m:Int)<(ng:Int):=by omega
     obtain ⟨b8,hb8⟩:∃ b,inB x.day y.frm y.to=b:=⟨_,rfl⟩
     have HI8:Hid (∀ w1,Calls Tryz.prog 53 #[.int .i64 x.day,.int .i64 y.frm,.int .i64 y.to] w1 fun e w'=>e=.returned (.bool b8)∧Below w1.heap.size w1 w'):=Lib.hid fun w1=>by rw [← hb8];exact inW_any _ _ _ _
     have HB8:Hid (inB x.day (c.cargo (numI x.cargos k)).frm (c.cargo (numI x.cargos k)).to=b8):=Lib.hid (by rw [hm,cargo_nat,hy];exact hb8)
     clear d0 hm hga hgb hgc hy hb8 HCG
     go_upto_region 8 with (fail)
     refine wp_region_stepsJ (by kernel_rfl) (by kernel_rfl) (fun dn vs w1=>CgJ wo y (dn 9) (dn 10) (vs 9) w1) (fun _ _ _=>True)
      (fun ix u _ _=>match ix with
       | 0=>u=.pointer (some ⟨qb,2,none⟩)
       | 1=>u=.slice (some ⟨gb,go,none⟩) ng V.gc
       | 2=>u=.pointer (some ⟨qb+1,3,none⟩)
       | 3=>u=.slice (some ⟨bb,off,none⟩) nl cl
       | 4=>u=.int .i64 (k:Int)
       | 5=>u=.pointer (some ⟨bb,off+k,none⟩)
       | 6=>u=.int .i64 (m:Int)
       | 7=>u=.pointer (some ⟨gb,go+m * 6,none⟩)
       | 8=>u=.agg (cargoA y)
       | 9=>True
       | _=>True) (fun _=>CgJ.start _ _ _) (fun _ _ _ _ _ _ _ _ h _=>h) ?_ ?_
     ·refine ⟨?_,?_,?_,?_,?_,?_,?_,?_,?_,?_,?_,trivial⟩
      ·intro a w1 vs K dn Hd Hb HJ HK HD HN kk
       have e2:=HK 2 (by decide)
       go_simp;exact kk _ _ (by simp) HJ trivial rfl
      ·intro a w1 vs K dn Hd Hb HJ HK HD HN kk
       have e71:=hdE (HD 0 _ 71 rfl rfl rfl)
       have ca:w1.cell? ⟨qb,2,none⟩=some (.slice (some ⟨gb,go,none⟩) ng V.gc):=(HCL.out w1 HJ.1).1
       go_simp;exact kk _ _ (by simp) HJ trivial rfl
      ·intro a w1 vs K dn Hd Hb HJ HK HD HN kk
       have e3:=HK 3 (by decide)
       go_simp;exact kk _ _ (by simp) HJ trivial rfl
      ·intro a w1 vs K dn Hd Hb HJ HK HD HN kk
       have e73:=hdE (HD 2 _ 73 rfl rfl rfl)
       have ca:w1.cell? ⟨qb+1,3,none⟩=some (.slice (some ⟨bb,off,none⟩) nl cl):=(HCL.out w1 HJ.1).2.1
       go_simp;exact kk _ _ (by simp) HJ trivial rfl
      ·intro a w1 vs K dn Hd Hb HJ HK HD HN kk
       have e5:=HK 5 (by decide)
       go_simp;exact kk _ _ (by simp) HJ trivial rfl
      ·intro a w1 vs K dn Hd Hb HJ HK HD HN kk
       have e74:=hdE (HD 3 _ 74 rfl rfl rfl)
       have e75:=hdE (HD 4 _ 75 rfl rfl rfl)
       go_simp;exact kk _ _ (by simp) HJ trivial rfl
      ·intro a w1 vs K dn Hd Hb HJ HK HD HN kk
       have e76:=hdE (HD 5 _ 76 rfl rfl rfl)
       have ca:w1.cell? ⟨bb,off+k,none⟩=some (.int .i64 (m:Int)):=(HCL.out w1 HJ.1).2.2.1
       go_simp;exact kk _ _ (by simp) HJ trivial rfl
      ·intro a w1 vs K dn Hd Hb HJ HK HD HN kk
       have e72:=hdE (HD 1 _ 72 rfl rfl rfl)
       have e77:=hdE (HD 6 _ 77 rfl rfl rfl)
       go_simp;exact kk _ _ (by simp) HJ trivial rfl
      ·intro a w1 vs K dn Hd Hb HJ HK HD HN kk
       have e78:=hdE (HD 7 _ 78 rfl rfl rfl)
       exact wpo_loadS 54 (.tmp 78) rfl gb (go+m * 6) (by simpa [Act.eval] using e78) (cargoA y) _ (HCL.out w1 HJ.1).2.2.2 und_cargo rfl (info_cargoA y) (kk _ _ (by simp) HJ trivial rfl)
      ·intro a w1 vs K dn Hd Hb HJ HK HD HN kk
       have d10:dn 10=false:=by cases hq:dn 10 with | false=>rfl | true=>exact absurd (Hd 10 hq).2 (by decide)
       go_simp;exact kk _ _ (by simp) (CgJ.made HJ d10) trivial trivial
      ·intro a w1 vs K dn Hd Hb HJ HK HD HN kk
       have e79:=hdE (HD 8 _ 79 rfl rfl rfl)
       have e79:=hdE (HD 8 _ 79 rfl rfl rfl)
       have d9:dn 9=true:=Hb 9 (by decide)
       have d10:dn 10=false:=by cases hq:dn 10 with | false=>rfl | true=>exact absurd rfl (Hd 10 hq).1
       obtain ⟨q,hq,hv9,hk9⟩:=HJ.2 d9
       rw [if_neg (by rw [d10];decide)] at hk9
       have e6:=(HD 9 _ 6 rfl rfl rfl).1.trans hv9
       exact wpo_storeS 54 (.tmp 6) (.tmp 79) rfl rfl q 0 (by simpa [Act.eval] using e6) (cargoA y) (by simpa [Act.eval] using e79) 54 _ hk9 (by show 0+6≤6;omega) (cargoA_one _) (info_cargoA _) fun w' hkf hof=>kk _ _ (by simp) ⟨HJ.1.trans (hof.below hq),fun _=>⟨q,hq,hv9,by rw [splA_all zeroCg (cargoA y) rfl] at hkf;exact hkf⟩⟩ trivial trivial
     ·intro vs dn W3 hdn hJ hrr
      have hd9:dn 9=true:=hdn 9 (by decide)
      have hd10:dn 10=true:=hdn 10 (by decide)
      obtain ⟨q,hq,hv9,hk9⟩:=hJ.2 hd9
      rw [if_pos hd10] at hk9
      have HB3:Hid (Below W0.heap.size W0 W3):=Lib.hid (HBW.out.trans (Below.mono hJ.1 HBW.out.size))
      have k3:W3.cell? ⟨q,3,none⟩=some (.int .i64 y.frm):=hk9.cell 3
      have k4:W3.cell? ⟨q,4,none⟩=some (.int .i64 y.to):=hk9.cell 4
      obtain ⟨_,_,_,c0,_,_,_⟩:=HC.out W3 HB3.out
      clear hrr hJ hdn hd9 hd10 hk9 hq c3
      simp only [putAll,Act.put,List.setIfInBounds_toArray,List.set_cons_zero,List.set_cons_succ]
      rw [hv9]
      clear hv9
      go_wp2_with fail
      refine (HI8.out _).mono ?_
      rintro e W4 ⟨rfl,hb4⟩
      have HB4W:Hid (Below W0.heap.size W0 W4):=Lib.hid (HB3.out.trans (hb4.mono HB3.out.size))
      clear hb4 k3 k4 c0
      cases b8 with
      | true =>
       go_wp2_with fail
       go_roundw
       case rel=>first | exact ⟨k+1,by omega,by go_num,Lib.hid ⟨HB4W.out,fun j hj=>by
        by_cases e:j=k
        ·subst e;exact HB8.out
        ·exact HNO.out j (by omega)⟩⟩ | ((repeat apply Exists.intro);exact ⟨⟨k+1,by omega,by go_num,Lib.hid ⟨HB4W.out,fun j hj=>by
        by_cases e:j=k
        ·subst e;exact HB8.out
        ·exact HNO.out j (by omega)⟩⟩,rfl⟩)
       case measure=>simp [intOf];omega
      | false =>
       have HRF:Hid (false=R):=Lib.hid (by
        rw [← HR.out]
        refine (possB_no7 ?_).symm
        rw [List.all_eq_false]
        refine ⟨numI x.cargos k,?_,by rw [HB8.out];decide⟩
        unfold numI
        rw [List.getD_eq_getElem?_getD,List.getElem?_eq_getElem hkt,Option.getD_some]
        exact List.getElem_mem _)
       have HF:=Lib.hid (HFIN.out _ _ HRF.out (HB0.out.trans (HB4W.out.mono HSZ.out)))
       go_wp2_with fail
       first | exact HF.out | (go_ret;exact HF.out)
    ·obtain rfl:k=nl:=by omega
     obtain ⟨ma,hma⟩:∃ ma,massL c x.cargos=ma:=⟨_,rfl⟩
     obtain ⟨mg,hmg⟩:∃ mg,c.margin=mg:=⟨_,rfl⟩
     have hmgb:=camp_len HCAMP.out
     rw [hmg] at hmgb
     have hlfb:=camp_craft HCAMP.out x.craft
     rw [HLF.out] at hlfb
     have hmab:=massL_bound HCAMP.out x.cargos x.cargos.length (Nat.le_refl _)
     rw [List.take_length,hma] at hmab
     have hlr:=rise_len HB6'.out
     obtain ⟨pr,hpr⟩:∃ pr,ma * (1000+mg)=pr:=⟨_,rfl⟩
     have hprb:0≤pr∧pr≤6442450944 * 2000:=by
      rw [← hpr]
      refine ⟨Int.mul_nonneg (by omega) (by omega),?_⟩
      exact Int.mul_le_mul (by omega) (by omega) (by omega) (by omega)
     obtain ⟨b8,hb8⟩:∃ b,decide (pr≤lf * 1000)=b:=⟨_,rfl⟩
     have HRT:Hid (b8=R):=Lib.hid (by
      rw [← HR.out,← hb8]
      refine (possB_yes (by rw [HNC.out];exact HB1.out) (by rw [HNP.out];exact HB2.out) HB3.out HB4.out HZ.out HB6'.out ?_ ?_).symm
      ·rw [← all_num]
       exact allN_iff.2 fun i hi=>HNO.out i (by rw [← HNL.out];exact hi)
      ·rw [mass_most HCAMP.out,hma,hmg,hpr,HLF.out])
     have HI9:Hid (∀ w1,Below W0.heap.size W0 w1→Calls Tryz.prog 64 #[.agg (campA V c),.agg (launchA x A cl)] w1 fun e w'=>e=.returned (.int .i64 ma)∧Below w1.heap.size w1 w'):=Lib.hid fun w1 hb=>by
      rw [← hma]
      exact refMass_any w1 V c (HCA.out.later hb) HCAMP.out x A cl (HLA.out.later hb) HB6'.out
     have HKC2:Hid (∀ w1,Below wo.heap.size wo w1→(∀ j u,(campA V c)[j]?=some u→w1.cell? ⟨qb,0+j,none⟩=some u)∧(∀ j u,(launchA x A cl)[j]?=some u→w1.cell? ⟨qb+1,0+j,none⟩=some u)∧w1.cell? ⟨qb,0,none⟩=some (.slice (some ⟨cb,co,none⟩) nc V.cc)∧w1.cell? ⟨qb,3,none⟩=some (.int .i64 mg)∧w1.cell? ⟨qb+1,1,none⟩=some (.int .i64 (ic:Int))∧w1.cell? ⟨cb,co+ic * 4+1,none⟩=some (.int .i64 lf)∧Below W0.heap.size W0 w1):=Lib.hid fun w1 hb=>by
      have hbw:=HBW.out.trans (hb.mono HBW.out.size)
      have k1:=HKC.out.below hbw HKC.out.lt
      have k2:=HKL.out.below hbw HKL.out.lt
      obtain ⟨e0,_,_,_,e1,_,_⟩:=HC.out w1 hbw
      exact ⟨fun j u hj=>by rw [Nat.zero_add,k1.cell];exact hj,fun j u hj=>by rw [Nat.zero_add,k2.cell];exact hj,e0,by rw [← hmg];exact k1.cell 3,e1,(HC2.out w1 hbw).2.2,hbw⟩
     have HW1:Hid (IntKind.i64.wrap (1000+mg)=1000+mg):=Lib.hid (IntWalk.i64_in _ (by omega))
     have HW2:Hid (IntKind.i64.wrap (ma * (1000+mg))=pr):=Lib.hid (by rw [hpr];exact IntWalk.i64_in _ (by omega))
     have HW3:Hid (IntKind.i64.wrap (lf * 1000)=lf * 1000):=Lib.hid (IntWalk.i64_in _ (by omega))
     have HB8:=Lib.hid hb8
     clear hma hmg hmgb hlfb hmab hlr hpr hprb hb8
     go_upto_region 11 with (fail)
     clear c3
     refine wp_region_steps (by kernel_rfl) (by kernel_rfl) (fun w1=>Below wo.heap.size wo w1) (fun _ _ _=>True)
      (fun ix u _ _=>match ix with
       | 0=>u=.agg (campA V c)
       | 1=>u=.agg (launchA x A cl)
       | 2=>u=.int .i64 ma
       | 3=>u=.pointer (some ⟨qb,3,none⟩)
       | 4=>u=.int .i64 mg
       | 5=>u=.int .i64 (1000+mg)
       | 6=>u=.int .i64 pr
       | 7=>u=.pointer (some ⟨qb,0,none⟩)
       | 8=>u=.slice (some ⟨cb,co,none⟩) nc V.cc
       | 9=>u=.pointer (some ⟨qb+1,1,none⟩)
       | 10=>u=.int .i64 (ic:Int)
       | 11=>u=.pointer (some ⟨cb,co+ic * 4,none⟩)
       | 12=>u=.pointer (some ⟨cb,co+ic * 4+1,none⟩)
       | 13=>u=.int .i64 lf
       | 14=>u=.int .i64 (lf * 1000)
       | 15=>u=.bool b8
       | _=>u=.bool b8) (Below.refl _ _).drew (fun _ _ _ _ _ _ _ _ h _ _=>h) ?_ ?_
     ·refine ⟨?_,?_,?_,?_,?_,?_,?_,?_,?_,?_,?_,?_,?_,?_,?_,?_,?_,trivial⟩
      ·intro a w1 vs K HJ HK HD HN kk
       have e2:=HK 2 (by decide)
       exact wpo_loadS 26 (.tmp 2) rfl qb 0 (by simpa [Act.eval] using e2) (campA V c) _ (HKC2.out w1 HJ).1 und_camp rfl (info_campA V c) (kk _ _ (by simp) HJ trivial rfl)
      ·intro a w1 vs K HJ HK HD HN kk
       have e3:=HK 3 (by decide)
       exact wpo_loadS 52 (.tmp 3) rfl (qb+1) 0 (by simpa [Act.eval] using e3) (launchA x A cl) _ (HKC2.out w1 HJ).2.1 und_launch rfl info_launch (kk _ _ (by simp) HJ trivial rfl)
      ·intro a w1 vs K HJ HK HD HN kk
       have e88:=hdE (HD 0 _ 88 rfl rfl rfl)
       have e89:=hdE (HD 1 _ 89 rfl rfl rfl)
       exact wpo_call 64 _ _ rfl #[.agg (campA V c),.agg (launchA x A cl)] (by simp [Act.eval,e88,e89]) (fun args w=>by kernel_rfl)
        ((HI9.out w1 (HKC2.out w1 HJ).2.2.2.2.2.2).mono fun e w' ⟨he,hb⟩=>⟨_,he,kk _ _ (by simp) (Below.trans HJ (hb.mono HJ.size)) trivial rfl⟩)
      ·intro a w1 vs K HJ HK HD HN kk
       have e2:=HK 2 (by decide)
       go_simp;exact kk _ _ (by simp) HJ trivial rfl
      ·intro a w1 vs K HJ HK HD HN kk
       have e91:=hdE (HD 3 _ 91 rfl rfl rfl)
       have ca:w1.cell? ⟨qb,3,none⟩=some (.int .i64 mg):=(HKC2.out w1 HJ).2.2.2.1
       go_simp;exact kk _ _ (by simp) HJ trivial rfl
      ·intro a w1 vs K HJ HK HD HN kk
       have e92:=hdE (HD 4 _ 92 rfl rfl rfl)
       have hws:=HW1.out
       go_simp;exact kk _ _ (by simp) HJ trivial rfl
      ·intro a w1 vs K HJ HK HD HN kk
       have e90:=hdE (HD 2 _ 90 rfl rfl rfl)
       have e93:=hdE (HD 5 _ 93 rfl rfl rfl)
       have hws:=HW2.out
       go_simp;exact kk _ _ (by simp) HJ trivial rfl
      ·intro a w1 vs K HJ HK HD HN kk
       have e2:=HK 2 (by decide)
       go_simp;exact kk _ _ (by simp) HJ trivial rfl
      ·intro a w1 vs K HJ HK HD HN kk
       have e95:=hdE (HD 7 _ 95 rfl rfl rfl)
       have ca:w1.cell? ⟨qb,0,none⟩=some (.slice (some ⟨cb,co,none⟩) nc V.cc):=(HKC2.out w1 HJ).2.2.1
       go_simp;exact kk _ _ (by simp) HJ trivial rfl
      ·intro a w1 vs K HJ HK HD HN kk
       have e3:=HK 3 (by decide)
       go_simp;exact kk _ _ (by simp) HJ trivial rfl
      ·intro a w1 vs K HJ HK HD HN kk
       have e97:=hdE (HD 9 _ 97 rfl rfl rfl)
       have ca:w1.cell? ⟨qb+1,1,none⟩=some (.int .i64 (ic:Int)):=(HKC2.out w1 HJ).2.2.2.2.1
       go_simp;exact kk _ _ (by simp) HJ trivial rfl
      ·intro a w1 vs K HJ HK HD HN kk
       have e96:=hdE (HD 8 _ 96 rfl rfl rfl)
       have e98:=hdE (HD 10 _ 98 rfl rfl rfl)
       go_simp;exact kk _ _ (by simp) HJ trivial rfl
      ·intro a w1 vs K HJ HK HD HN kk
       have e99:=hdE (HD 11 _ 99 rfl rfl rfl)
       go_simp;exact kk _ _ (by simp) HJ trivial rfl
      ·intro a w1 vs K HJ HK HD HN kk
       have e100:=hdE (HD 12 _ 100 rfl rfl rfl)
       have ca:w1.cell? ⟨cb,co+ic * 4+1,none⟩=some (.int .i64 lf):=(HKC2.out w1 HJ).2.2.2.2.2.1
       go_simp;exact kk _ _ (by simp) HJ trivial rfl
      ·intro a w1 vs K HJ HK HD HN kk
       have e101:=hdE (HD 13 _ 101 rfl rfl rfl)
       have hws:=HW3.out
       go_simp;exact kk _ _ (by simp) HJ trivial rfl
      ·intro a w1 vs K HJ HK HD HN kk
       have e94:=hdE (HD 6 _ 94 rfl rfl rfl)
       have e102:=hdE (HD 14 _ 102 rfl rfl rfl)
       have hb8:=HB8.out
       go_simp;exact kk _ _ (by simp) HJ trivial rfl
      ·intro a w1 vs K HJ HK HD HN kk
       have e103:=hdE (HD 15 _ 103 rfl rfl rfl)
       go_simp;exact kk _ _ (by simp) HJ trivial rfl
     ·intro vs W5 hw6 hrr
      have e16:vs 16=.bool b8:=hrr 16 _ rfl
      have HB5:Hid (Below W0.heap.size W0 W5):=Lib.hid (HBW.out.trans (Below.mono hw6 HBW.out.size))
      clear hrr hw6
      simp only [putAll,Act.put,List.setIfInBounds_toArray,List.set_cons_zero,List.set_cons_succ]
      rw [e16]
      have HF:=Lib.hid (HFIN.out _ _ HRT.out (HB0.out.trans (HB5.out.mono HSZ.out)))
      go_wp2_with fail
      first | exact HF.out | (go_ret;exact HF.out)
end Go.Proofs.YtcnjenlojnognaaGreat
