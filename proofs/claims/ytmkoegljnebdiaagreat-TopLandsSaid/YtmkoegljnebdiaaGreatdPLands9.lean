/- What is proved: the texts Gh Ha Hb Hc Hd He Hf Hg Hh, one behind the other; each says at its head what it proves, and under which conditions. -/
import Derived.ChangeKeysEq
import Derived.Test.YtmkoegljnebdiaaGreatdPLands8
namespace Go.Proofs.YtmkoegljnebdiaaGreat
open Go.RowKit
set_option maxRecDepth 100000
set_option maxHeartbeats 16000000

def stepB (f:Nat) (a b:SpanD):SpanD × Int:=match f with | 72=>squareB a | 73=>scaleB a 2 | 74=>mulB a b | 65=>addB a b | 75=>rootB a | 76=>forwB a b | _=>(zeroS,1)
def putS (s:Nat→SpanD) (i:Nat) (r:SpanD):Nat→SpanD:=fun j=>if j=i then r else s j
/-- The steps of a fall, up to the first error. -/
def runI:List (Nat × Nat × Nat × Nat)→(Nat→SpanD)→(Nat→SpanD) × Int
 | [],s=>(s,0)
 | (f,i,j,t) :: r,s=>if (stepB f (s i) (s j)).2 ≠ 0 then (putS s t (stepB f (s i) (s j)).1,(stepB f (s i) (s j)).2) else runI r (putS s t (stepB f (s i) (s j)).1)
def fallS (f:FallD):Nat→SpanD:=fun i=>match i with | 0=>f.x | 1=>f.y | 2=>f.h | 3=>f.vx | 4=>f.vy | 5=>f.vz | 6=>f.pull | 7=>f.wx | 8=>f.wy | _=>zeroS
def outR (x y:SpanD):RectD:=⟨⟨downI x.lo,downI y.lo⟩,⟨upI x.hi,upI y.hi⟩⟩
def zeroR:RectD:=⟨⟨0,0⟩,⟨0,0⟩⟩
def impactI (f:FallD):RectD × Int :=
 if fallB f=true then
  if (runI opsI (fallS f)).2 ≠ 0 then (zeroR,(runI opsI (fallS f)).2)
  else if rectB (outR ((runI opsI (fallS f)).1 14) ((runI opsI (fallS f)).1 15))=true then (outR ((runI opsI (fallS f)).1 14) ((runI opsI (fallS f)).1 15),0) else (zeroR,4)
 else (zeroR,2)
def fallCs (s:Nat→SpanD):Array Value:=iC [(s 0).lo,(s 0).hi,(s 1).lo,(s 1).hi,(s 2).lo,(s 2).hi,(s 3).lo,(s 3).hi,(s 4).lo,(s 4).hi,(s 5).lo,(s 5).hi,(s 6).lo,(s 6).hi,(s 7).lo,(s 7).hi,(s 8).lo,(s 8).hi,(s 9).lo,(s 9).hi,(s 10).lo,(s 10).hi,(s 11).lo,(s 11).hi,(s 12).lo,(s 12).hi,(s 13).lo,(s 13).hi,(s 14).lo,(s 14).hi,(s 15).lo,(s 15).hi]
theorem sixteen {i:Nat} (h:i<16):i=0 ∨ i=1 ∨ i=2 ∨ i=3 ∨ i=4 ∨ i=5 ∨ i=6 ∨ i=7 ∨ i=8 ∨ i=9 ∨ i=10 ∨ i=11 ∨ i=12 ∨ i=13 ∨ i=14 ∨ i=15:=by omega
theorem fall_seg (s:Nat→SpanD) {i:Nat} (h:i<16):((fallCs s).toList.drop (2 * i)).take 2=[.int .i64 (s i).lo,.int .i64 (s i).hi]:=by
 rcases sixteen h with rfl | rfl | rfl | rfl | rfl | rfl | rfl | rfl | rfl | rfl | rfl | rfl | rfl | rfl | rfl | rfl <;> rfl
theorem fall_set (s:Nat→SpanD) {i:Nat} (h:i<16) (r:SpanD):(fallCs s).toList.take (2 * i) ++ [.int .i64 r.lo,.int .i64 r.hi] ++ (fallCs s).toList.drop (2 * i+2)=(fallCs (putS s i r)).toList:=by
 rcases sixteen h with rfl | rfl | rfl | rfl | rfl | rfl | rfl | rfl | rfl | rfl | rfl | rfl | rfl | rfl | rfl | rfl <;> rfl
/-- Numbers, none of them the least. -/
def NmS (a:SpanD):Prop:=(-9223372036854775807≤a.lo∧a.lo≤9223372036854775807)∧(-9223372036854775807≤a.hi∧a.hi≤9223372036854775807)
theorem NmS.wd {a:SpanD} (h:NmS a):WdS a:=by unfold NmS at h;unfold WdS;omega
theorem nm_zero:NmS zeroS:=by unfold NmS zeroS;decide
theorem nm_fit (lo hi:Int):NmS (fitB lo hi).1:=by
 unfold fitB
 split
 ·rename_i h
  rw [Bool.and_eq_true] at h
  have h1:=big_iff.1 h.1
  have h2:=big_iff.1 h.2
  unfold NmS;dsimp only;omega
 ·exact nm_zero
theorem nm_mul (a b:SpanD):NmS (mulB a b).1:=by unfold mulB;split;exact nm_fit _ _;exact nm_zero
theorem nm_div (a b:SpanD):NmS (divB a b).1:=by
 unfold divB
 split
 ·split
  ·exact nm_zero
  ·exact nm_fit _ _
 ·exact nm_zero
theorem nm_root (a:SpanD) (ha:WdS a):NmS (rootB a).1:=by
 unfold rootB
 split
 ·split
  ·exact nm_zero
  ·have h1:=rootN_lt (n:=(max a.lo 0).toNat) (by unfold WdS at ha;omega)
   have h2:=rootN_lt (n:=a.hi.toNat) (by unfold WdS at ha;omega)
   unfold NmS;dsimp only
   split <;> omega
 ·exact nm_zero
theorem nm_step (f:Nat) (a b:SpanD) (ha:WdS a):NmS (stepB f a b).1:=by
 unfold stepB
 split
 ·unfold squareB;split;exact nm_mul _ _;exact nm_zero
 ·unfold scaleB;split;exact nm_fit _ _;exact nm_zero
 ·exact nm_mul _ _
 ·unfold addB;split;exact nm_fit _ _;exact nm_zero
 ·exact nm_root a ha
 ·have:=nm_div a b
  unfold forwB;unfold NmS at this ⊢;dsimp only;omega
 ·exact nm_zero
theorem nm_upd {s:Nat→SpanD} (hs:∀ i,NmS (s i)) (t:Nat) {r:SpanD} (hr:NmS r) (i:Nat):NmS (putS s t r i):=by
 unfold putS;split;exact hr;exact hs i
theorem ops_lt {k f i j t:Nat} (h:opsI[k]?=some (f,i,j,t)):i<16∧j<16∧t<16∧(f=72 ∨ f=73 ∨ f=74 ∨ f=65 ∨ f=75 ∨ f=76):=by
 have hm:=List.mem_of_getElem? h
 have:opsI.all (fun x=>decide (x.2.1<16∧x.2.2.1<16∧x.2.2.2<16∧(x.1=72 ∨ x.1=73 ∨ x.1=74 ∨ x.1=65 ∨ x.1=75 ∨ x.1=76)))=true:=by decide
 have:=List.all_eq_true.1 this _ hm
 simpa using this
theorem step_calls (f:Nat) (hf:f=72 ∨ f=73 ∨ f=74 ∨ f=65 ∨ f=75 ∨ f=76) (a b:SpanD) (ha:WdS a) (hb:WdS b) (w:World):Calls Tryz.prog f #[spanV a,spanV b] w (SpPost (stepB f a b) w.heap.size w):=by
 rcases hf with rfl | rfl | rfl | rfl | rfl | rfl
 ·exact sqr2_any a b ha w
 ·exact dbl2_any a b ha w
 ·exact mul_any a b ha hb w
 ·exact add_any a b ha hb w
 ·exact root2_any a b ha w
 ·exact forw_any a b ha hb w
theorem step_enter (f:Nat) (hf:f=72 ∨ f=73 ∨ f=74 ∨ f=65 ∨ f=75 ∨ f=76) (args:Array Value) (w:World):(callFunc f args).run Tryz.prog w=.ok (.enter f args) w:=by
 rcases hf with rfl | rfl | rfl | rfl | rfl | rfl <;> kernel_rfl
theorem impact_any (f:FallD) (wx:WdS f.x) (wy:WdS f.y) (wh:WdS f.h) (wvx:WdS f.vx) (wvy:WdS f.vy) (wvz:WdS f.vz) (wpull:WdS f.pull) (wwx:WdS f.wx) (wwy:WdS f.wy) (w:World):Calls Tryz.prog 9 #[fallV f] w fun e w'=>e=.returned (.tuple #[rectV (impactI f).1,.int .i64 (impactI f).2])∧Below w.heap.size w w':=by
 have HV:=Lib.hid (fun w=>fvalidF_any f w)
 have HNM:Hid (fallB f=true→∀ i,NmS (fallS f i)):=Lib.hid fun h i=>by
  unfold fallB at h
  simp only [Bool.and_eq_true] at h
  have key:∀ a:SpanD,chkB a=true→WdS a→NmS a:=fun a h1 h2=>by
   have:=chk_iff.1 h1
   unfold WdS at h2;unfold NmS;omega
  unfold fallS
  split
  ·exact key _ h.1 wx
  ·exact key _ h.2.1 wy
  ·exact key _ h.2.2.1 wh
  ·exact key _ h.2.2.2.1 wvx
  ·exact key _ h.2.2.2.2.1 wvy
  ·exact key _ h.2.2.2.2.2.1 wvz
  ·exact key _ h.2.2.2.2.2.2.1 wpull
  ·exact key _ h.2.2.2.2.2.2.2.1 wwx
  ·exact key _ h.2.2.2.2.2.2.2.2.1 wwy
  ·exact nm_zero
 obtain ⟨R,hR⟩:∃ R,runI opsI (fallS f)=R:=⟨_,rfl⟩
 obtain ⟨PQ,hPQ⟩:∃ Q:Ending→World→Prop,(fun e w'=>e=.returned (.tuple #[rectV (impactI f).1,.int .i64 (impactI f).2])∧Below w.heap.size w w')=Q:=⟨_,rfl⟩
 have HFIN:Hid (∀ w' r k,impactI f=(r,k)→Fr w [] [] w'→PQ (.returned (.tuple #[rectV r,.int .i64 k])) w'):=Lib.hid fun w' r k hr h=>by rw [← hPQ,hr];exact ⟨rfl,h.toBelow⟩
 rw [hPQ]
 unfold impactI at HFIN
 rw [hR] at HFIN
 obtain ⟨fb,hfb⟩:∃ b,fallB f=b:=⟨_,rfl⟩
 rw [hfb] at HV HFIN HNM
 have HR:=Lib.hid hR
 obtain ⟨s0,hs0⟩:∃ s,fallS f=s:=⟨_,rfl⟩
 rw [hs0] at HR HNM
 have HC0:Hid (fallCs s0=fallA f ++ iC [0,0,0,0,0,0,0,0,0,0,0,0,0,0]):=Lib.hid (by rw [← hs0];obtain ⟨⟨_,_⟩,⟨_,_⟩,⟨_,_⟩,⟨_,_⟩,⟨_,_⟩,⟨_,_⟩,⟨_,_⟩,⟨_,_⟩,⟨_,_⟩⟩:=f;rfl)
 clear hPQ hfb hR hs0 wx wy wh wvx wvy wvz wpull wwx wwy
 obtain ⟨⟨a0,b0⟩,⟨a1,b1⟩,⟨a2,b2⟩,⟨a3,b3⟩,⟨a4,b4⟩,⟨a5,b5⟩,⟨a6,b6⟩,⟨a7,b7⟩,⟨a8,b8⟩⟩:=f
 unfold fallA at HC0
 unfold rectV at HFIN
 unfold fallV fallA at HV ⊢
 dsimp only at HV HC0 HFIN ⊢
 obtain ⟨qb,hqb⟩:∃ qb,w.heap.size=qb:=⟨_,rfl⟩
 obtain ⟨W0,hW0⟩:∃ W0,(w.alloc (.cells #[.int .i64 a0,.int .i64 b0,.int .i64 a1,.int .i64 b1,.int .i64 a2,.int .i64 b2,.int .i64 a3,.int .i64 b3,.int .i64 a4,.int .i64 b4,.int .i64 a5,.int .i64 b5,.int .i64 a6,.int .i64 b6,.int .i64 a7,.int .i64 b7,.int .i64 a8,.int .i64 b8] 60)).alloc (.cells #[.int .i64 0,.int .i64 0,.int .i64 0,.int .i64 0] 62)=W0:=⟨_,rfl⟩
 have HF0:Hid (Fr w [] [(qb,60,iC [a0,b0,a1,b1,a2,b2,a3,b3,a4,b4,a5,b5,a6,b6,a7,b7,a8,b8]),(qb+1,62,iC [0,0,0,0])] W0):=Lib.hid (by rw [← hW0];exact ((Fr.start w).alloc (by simp [← hqb]) 60 #[.int .i64 a0,.int .i64 b0,.int .i64 a1,.int .i64 b1,.int .i64 a2,.int .i64 b2,.int .i64 a3,.int .i64 b3,.int .i64 a4,.int .i64 b4,.int .i64 a5,.int .i64 b5,.int .i64 a6,.int .i64 b6,.int .i64 a7,.int .i64 b7,.int .i64 a8,.int .i64 b8]).alloc (by simp [← hqb]) 62 #[.int .i64 0,.int .i64 0,.int .i64 0,.int .i64 0])
 go_enter Tryz.func9,Tryz.ntmps9
 go_upto_region 1 with (fail)
 clear hW0 hqb
 go_step3
 cases fb with
 | false =>
  go_wp2_with (refine wpLoadF rfl 60 _ rfl qb 0 rfl _ _ (HF0.out.get 0 rfl) #[.int .i64 a0,.int .i64 b0,.int .i64 a1,.int .i64 b1,.int .i64 a2,.int .i64 b2,.int .i64 a3,.int .i64 b3,.int .i64 a4,.int .i64 b4,.int .i64 a5,.int .i64 b5,.int .i64 a6,.int .i64 b6,.int .i64 a7,.int .i64 b7,.int .i64 a8,.int .i64 b8] rfl _ und_60 rfl info_60 ?_)
  refine (HV.out _).mono ?_
  rintro e w1 ⟨rfl,hw⟩
  have HF2:=Lib.hid (HF0.out.below hw)
  clear hw
  go_wp2_with (refine wpStoreF rfl rfl 62 _ _ rfl (qb+1) 0 rfl #[.int .i64 0,.int .i64 0,.int .i64 0,.int .i64 0] rfl _ _ (iC [0,0,0,0]) (HF2.out.get 1 rfl) rfl (by show 0+4≤4;omega) (one_all rfl) info_62 ?_;intro w3 hk ho;have HF4:=Lib.hid (HF2.out.only 1 rfl ho hk);clear ho hk)
  try rw [Exit.noGoto_ret]
  refine ret_agg2 rfl rfl rfl (HF4.out.get 1 rfl) rfl und_62 rfl info_62 ?_
  exact HFIN.out _ ⟨⟨0,0⟩,⟨0,0⟩⟩ _ (by rw [if_neg (by simp)];rfl) HF4.out.drop
 | true =>
  replace HNM:=Lib.hid (HNM.out rfl)
  go_wp2_with (refine wpLoadF rfl 60 _ rfl qb 0 rfl _ _ (HF0.out.get 0 rfl) #[.int .i64 a0,.int .i64 b0,.int .i64 a1,.int .i64 b1,.int .i64 a2,.int .i64 b2,.int .i64 a3,.int .i64 b3,.int .i64 a4,.int .i64 b4,.int .i64 a5,.int .i64 b5,.int .i64 a6,.int .i64 b6,.int .i64 a7,.int .i64 b7,.int .i64 a8,.int .i64 b8] rfl _ und_60 rfl info_60 ?_)
  refine (HV.out _).mono ?_
  rintro e w1 ⟨rfl,hw⟩
  have HF2:=Lib.hid (HF0.out.below hw)
  clear hw
  obtain ⟨g3,hg3⟩:∃ g,w1.heap.size=g:=⟨_,rfl⟩
  obtain ⟨w3,hw3⟩:∃ u,w1.alloc (.cells #[.int .i64 a0,.int .i64 b0,.int .i64 a1,.int .i64 b1,.int .i64 a2,.int .i64 b2,.int .i64 a3,.int .i64 b3,.int .i64 a4,.int .i64 b4,.int .i64 a5,.int .i64 b5,.int .i64 a6,.int .i64 b6,.int .i64 a7,.int .i64 b7,.int .i64 a8,.int .i64 b8,.int .i64 0,.int .i64 0,.int .i64 0,.int .i64 0,.int .i64 0,.int .i64 0,.int .i64 0,.int .i64 0,.int .i64 0,.int .i64 0,.int .i64 0,.int .i64 0,.int .i64 0,.int .i64 0] 111)=u:=⟨_,rfl⟩
  have HF4:=Lib.hid (frE hw3 (HF2.out.alloc hg3.symm 111 #[.int .i64 a0,.int .i64 b0,.int .i64 a1,.int .i64 b1,.int .i64 a2,.int .i64 b2,.int .i64 a3,.int .i64 b3,.int .i64 a4,.int .i64 b4,.int .i64 a5,.int .i64 b5,.int .i64 a6,.int .i64 b6,.int .i64 a7,.int .i64 b7,.int .i64 a8,.int .i64 b8,.int .i64 0,.int .i64 0,.int .i64 0,.int .i64 0,.int .i64 0,.int .i64 0,.int .i64 0,.int .i64 0,.int .i64 0,.int .i64 0,.int .i64 0,.int .i64 0,.int .i64 0,.int .i64 0]))
  go_wp2_with (refine wpLoadF rfl 60 _ rfl qb 0 rfl _ _ (HF2.out.get 0 rfl) #[.int .i64 a0,.int .i64 b0,.int .i64 a1,.int .i64 b1,.int .i64 a2,.int .i64 b2,.int .i64 a3,.int .i64 b3,.int .i64 a4,.int .i64 b4,.int .i64 a5,.int .i64 b5,.int .i64 a6,.int .i64 b6,.int .i64 a7,.int .i64 b7,.int .i64 a8,.int .i64 b8] rfl _ und_60 rfl info_60 ?_)
  clear hw3 hg3
  go_step3
  go_wp2_with fail
  refine (steps28_any g3 _).mono ?_
  rintro e w5 ⟨rfl,hw⟩
  have HF6:=Lib.hid (HF4.out.below hw)
  clear hw
  go_wp2_with fail
  have HREL:Hid (∃ s,(∀ i,NmS (s i))∧runI (opsI.drop 0) s=R∧Hid (Fr w [] [(qb,60,iC [a0,b0,a1,b1,a2,b2,a3,b3,a4,b4,a5,b5,a6,b6,a7,b7,a8,b8]),(qb+1,62,iC [0,0,0,0]),(g3,111,fallCs s)] w5)):=Lib.hid ⟨s0,HNM.out,HR.out,Lib.hid (by have h:=HF6.out;rw [HC0.out];exact h)⟩
  clear HNM HR HC0
  skip
  go_wp2_with fail
  go_loopw [18,5] (fun iv ev wr=>ev=.int .i64 0∧∃ i:Nat,i≤15∧iv=.int .i64 i∧Hid (∃ s,(∀ i,NmS (s i))∧runI (opsI.drop i) s=R∧Hid (Fr w [] [(qb,60,iC [a0,b0,a1,b1,a2,b2,a3,b3,a4,b4,a5,b5,a6,b6,a7,b7,a8,b8]),(qb+1,62,iC [0,0,0,0]),(g3,111,fallCs s)] wr))) (fun iv _ _=>15 - (intOf iv).toNat)
  case atStart=>exact ⟨rfl,0,Nat.zero_le _,rfl,HREL⟩
  case round =>
   obtain ⟨wo,rfl⟩:∃ wo:World,wo=wr:=⟨_,rfl⟩
   obtain ⟨rfl,i,hi,rfl,hs⟩:=hrel
   obtain ⟨s,hnm,hrun,hfr⟩:=hs.out
   have HNM:=Lib.hid hnm
   have HRUN:=Lib.hid hrun
   have HFR:=Lib.hid hfr.out
   clear hnm hrun hfr hs
   have h0i:(0:Int)≤(i:Int):=by omega
   by_cases hlt:i<15
   ·have hki:(i:Int)<15:=by omega
    obtain ⟨fid,ia,ib,it,hop,_⟩:=index116 (g3) i hlt wo
    have HIX:∀ w,(Instr.index 116 (.agg (stepsA (g3))) (.int .i64 (i:Int))).run Tryz.prog w=.ok (.agg (stepA (g3) fid ia ib it).toArray) w:=fun w=>by
     obtain ⟨f2,i2,j2,t2,h1,h2⟩:=index116 (g3) i hlt w
     rw [hop] at h1
     cases h1
     exact h2
    obtain ⟨la,lb,lt,hfid⟩:=ops_lt hop
    have hdr:opsI.drop i=(fid,ia,ib,it) :: opsI.drop (i+1):=by
     obtain ⟨hl,he⟩:=List.getElem?_eq_some_iff.1 hop
     rw [List.drop_eq_getElem_cons hl,he]
    have hrun:=HRUN.out
    rw [hdr,runI] at hrun
    have HC:=Lib.hid (fun w=>step_calls fid hfid (s ia) (s ib) (HNM.out ia).wd (HNM.out ib).wd w)
    have hen:=fun args w=>step_enter fid hfid args w
    have hnr:=nm_step fid (s ia) (s ib) (HNM.out ia).wd
    have hsa:=fall_seg s la
    have hsb:=fall_seg s lb
    have hst:=fall_set s lt (stepB fid (s ia) (s ib)).1
    have hnu:=nm_upd HNM.out it hnr
    obtain ⟨⟨⟨rl,rh⟩,re⟩,hr⟩:∃ z,stepB fid (s ia) (s ib)=z:=⟨_,rfl⟩
    rw [hr] at hrun HC hst hnu
    obtain ⟨⟨al,ah⟩,hA⟩:∃ z,s ia=z:=⟨_,rfl⟩
    obtain ⟨⟨bl,bh⟩,hB⟩:∃ z,s ib=z:=⟨_,rfl⟩
    rw [hA] at HC hsa
    rw [hB] at HC hsb
    unfold SpPost spanV at HC
    unfold stepA at HIX
    dsimp only at HC hsa hsb hst hrun hnu HIX
    have HSA:=Lib.hid hsa
    have HSB:=Lib.hid hsb
    have HST:=Lib.hid hst
    obtain ⟨s2,hs2⟩:∃ z,putS s it ⟨rl,rh⟩=z:=⟨_,rfl⟩
    rw [hs2] at hst hrun hnu HST
    have HRUN2:=Lib.hid hrun
    have HNU:=Lib.hid hnu
    have HLT:=Lib.hid lt
    have HHI:=Lib.hid hlt
    have HEN:=Lib.hid hen
    clear hop hfid hdr hrun hnr hsa hsb hst hnu hr hA hB hs2 la lb lt HNM HRUN hen
    go_upto_region 7 with (fail)
    obtain ⟨g7,hg7⟩:∃ g,wo.heap.size=g:=⟨_,rfl⟩
    obtain ⟨w7,hw7⟩:∃ u,wo.alloc (.cells #[.nilFunc,.pointer none,.pointer none,.pointer none] 115)=u:=⟨_,rfl⟩
    have HF8:=Lib.hid (frE hw7 (HFR.out.alloc hg7.symm 115 #[.nilFunc,.pointer none,.pointer none,.pointer none]))
    go_upto_region 8 with (refine wpStoreF rfl rfl 115 _ _ rfl g7 0 rfl #[.func (.func fid) #[] #[],.pointer (some ⟨g3,2 * ia,none⟩),.pointer (some ⟨g3,2 * ib,none⟩),.pointer (some ⟨g3,2 * it,none⟩)] rfl _ _ #[.func (.func fid) #[] #[],.pointer (some ⟨g3,2 * ia,none⟩),.pointer (some ⟨g3,2 * ib,none⟩),.pointer (some ⟨g3,2 * it,none⟩)] (HF8.out.get 3 rfl) rfl (by show 0+4≤4;omega) (one_all rfl) info_115 ?_;intro w9 hk ho;clear hw7 hg7;have HF10:=Lib.hid (HF8.out.only 3 rfl ho hk);clear ho hk)
    clear HIX
    have hen:=HEN.out
    refine wp_region_fr [Kind.p,Kind.p,Kind.p,Kind.p,Kind.p,Kind.p,Kind.p,Kind.p,Kind.p,Kind.p,Kind.p,Kind.p,Kind.p,Kind.p,Kind.p,Kind.p,Kind.p,Kind.c 0,Kind.p] [17] [] w (fun _=>[]) (fun k=>[(qb,60,iC [a0,b0,a1,b1,a2,b2,a3,b3,a4,b4,a5,b5,a6,b6,a7,b7,a8,b8]),(qb+1,62,iC [0,0,0,0]),(g3,111,(if k≤0 then fallCs s else fallCs s2)),(g7,115,#[.func (.func fid) #[] #[],.pointer (some ⟨g3,2 * ia,none⟩),.pointer (some ⟨g3,2 * ib,none⟩),.pointer (some ⟨g3,2 * it,none⟩)])])
       (fun ix u _=>match ix with
        | 0=>u=.pointer (some ⟨g7,3,none⟩)
        | 1=>u=.pointer (some ⟨g3,2 * it,none⟩)
        | 2=>u=.pointer (some ⟨g7,0,none⟩)
        | 3=>u=.func (.func fid) #[] #[]
        | 4=>u=.pointer (some ⟨g7,1,none⟩)
        | 5=>u=.pointer (some ⟨g3,2 * ia,none⟩)
        | 6=>u=.pointer (some ⟨g3,2 * ia,none⟩)
        | 7=>u=.agg #[.int .i64 al,.int .i64 ah]
        | 8=>u=.pointer (some ⟨g7,2,none⟩)
        | 9=>u=.pointer (some ⟨g3,2 * ib,none⟩)
        | 10=>u=.pointer (some ⟨g3,2 * ib,none⟩)
        | 11=>u=.agg #[.int .i64 bl,.int .i64 bh]
        | 12=>u=.tuple #[.agg #[.int .i64 rl,.int .i64 rh],.int .i64 re]
        | 13=>u=.tuple #[.agg #[.int .i64 rl,.int .i64 rh],.int .i64 re]
        | 14=>u=.agg #[.int .i64 rl,.int .i64 rh]
        | 15=>u=.int .i64 re
        | 16=>u=.pointer (some ⟨g3,2 * it,none⟩)
        | 18=>u=.int .i64 re
        | _=>True)
       (by kernel_rfl) (by kernel_rfl) (by kernel_rfl) [] rfl (by decide) (by kernel_rfl) (by kernel_rfl) HF10.out ?_ ?_
    ·refine ⟨?_,?_,?_,?_,?_,?_,?_,?_,?_,?_,?_,?_,?_,?_,?_,?_,?_,?_,?_,trivial⟩
     all_goals intro a w1 vs dn k K S hpre KE DE kk
     ·have e7:=KE 7 (by decide)
      go_simp;exact kk _ _ (by simp) bR rfl
     ·have e22:=dep (DE 0 _ 22 rfl rfl rfl)
      have ca:w1.cell? ⟨g7,3,none⟩=some (.pointer (some ⟨g3,2 * it,none⟩)):=(S.fr.left.get 3 rfl).cell 3
      go_simp;exact kk _ _ (by simp) bR rfl
     ·have e7:=KE 7 (by decide)
      go_simp;exact kk _ _ (by simp) bR rfl
     ·have e24:=dep (DE 2 _ 24 rfl rfl rfl)
      have ca:w1.cell? ⟨g7,0,none⟩=some (.func (.func fid) #[] #[]):=(S.fr.left.get 3 rfl).cell 0
      go_simp;exact kk _ _ (by simp) bR rfl
     ·have e7:=KE 7 (by decide)
      go_simp;exact kk _ _ (by simp) bR rfl
     ·have e26:=dep (DE 4 _ 26 rfl rfl rfl)
      have ca:w1.cell? ⟨g7,1,none⟩=some (.pointer (some ⟨g3,2 * ia,none⟩)):=(S.fr.left.get 3 rfl).cell 1
      go_simp;exact kk _ _ (by simp) bR rfl
     ·have e27:=dep (DE 5 _ 27 rfl rfl rfl)
      go_simp;exact kk _ _ (by simp) bR rfl
     ·have e28:=dep (DE 6 _ 28 rfl rfl rfl)
      exact wpo_loadF 31 (.tmp 28) rfl g3 (2 * ia) (by simpa [Act.eval] using e28) _ _ (by have:=S.fr.left.get 2 rfl;rw [if_pos (S.hi 0 17 rfl rfl)] at this;exact this) #[.int .i64 al,.int .i64 ah] (HSA.out) _ und_span rfl info_span (kk _ _ (by simp) bR rfl)
     ·have e7:=KE 7 (by decide)
      go_simp;exact kk _ _ (by simp) bR rfl
     ·have e30:=dep (DE 8 _ 30 rfl rfl rfl)
      have ca:w1.cell? ⟨g7,2,none⟩=some (.pointer (some ⟨g3,2 * ib,none⟩)):=(S.fr.left.get 3 rfl).cell 2
      go_simp;exact kk _ _ (by simp) bR rfl
     ·have e31:=dep (DE 9 _ 31 rfl rfl rfl)
      go_simp;exact kk _ _ (by simp) bR rfl
     ·have e32:=dep (DE 10 _ 32 rfl rfl rfl)
      exact wpo_loadF 31 (.tmp 32) rfl g3 (2 * ib) (by simpa [Act.eval] using e32) _ _ (by have:=S.fr.left.get 2 rfl;rw [if_pos (S.hi 0 17 rfl rfl)] at this;exact this) #[.int .i64 bl,.int .i64 bh] (HSB.out) _ und_span rfl info_span (kk _ _ (by simp) bR rfl)
     ·have e25:=dep (DE 3 _ 25 rfl rfl rfl)
      have e29:=dep (DE 7 _ 29 rfl rfl rfl)
      have e33:=dep (DE 11 _ 33 rfl rfl rfl)
      exact wpo_callV fid (.tmp 25) _ _ rfl (by simpa [Act.eval] using e25) #[.agg #[.int .i64 al,.int .i64 ah],.agg #[.int .i64 bl,.int .i64 bh]] (by simp [Act.eval,e29,e33]) hen
       ((HC.out w1).mono fun e w' ⟨he,hb⟩=>⟨_,he,kk _ _ (by simp) hb rfl⟩)
     ·have e34:=dep (DE 12 _ 34 rfl rfl rfl)
      go_simp;exact kk _ _ (by simp) bR rfl
     ·have e21:=dep (DE 13 _ 21 rfl rfl rfl)
      go_simp;exact kk _ _ (by simp) bR rfl
     ·have e21:=dep (DE 13 _ 21 rfl rfl rfl)
      go_simp;exact kk _ _ (by simp) bR rfl
     ·have e23:=dep (DE 1 _ 23 rfl rfl rfl)
      go_simp;exact kk _ _ (by simp) bR rfl
     ·subst hpre
      have e37:=dep (DE 16 _ 37 rfl rfl rfl)
      have e35:=dep (DE 14 _ 35 rfl rfl rfl)
      exact wpo_storeF 31 (.tmp 37) (.tmp 35) rfl rfl g3 (2 * it) (by simpa [Act.eval] using e37) #[.int .i64 rl,.int .i64 rh] (by simpa [Act.eval] using e35) _ _ (fallCs s2) (by have:=S.fr.left.get 2 rfl;rw [if_pos (S.hi 0 17 rfl rfl)] at this;exact this) (HST.out) (by have:=HLT.out;show 2 * it+2≤32;omega) (one_all rfl) info_span fun w' hk ho=>kk _ _ (by simp) (Fr.stage (S.fr.only 2 rfl ho hk) (by exact trivial)) trivial
     ·have e36:=dep (DE 15 _ 36 rfl rfl rfl)
      go_simp;exact kk _ _ (by simp) bR rfl
    ·intro vs wf HFr HR
     have HFr':Fr w [] [(qb,60,iC [a0,b0,a1,b1,a2,b2,a3,b3,a4,b4,a5,b5,a6,b6,a7,b7,a8,b8]),(qb+1,62,iC [0,0,0,0]),(g3,111,fallCs s2),(g7,115,#[.func (.func fid) #[] #[],.pointer (some ⟨g3,2 * ia,none⟩),.pointer (some ⟨g3,2 * ib,none⟩),.pointer (some ⟨g3,2 * it,none⟩)])] wf:=HFr
     have v18:vs 18=.int .i64 re:=HR 18 _ rfl
     clear HFr HR
     have HF11:=Lib.hid HFr'
     clear HFr'
     simp only [putAll,Act.put,List.setIfInBounds_toArray,List.set_cons_zero,List.set_cons_succ]
     simp only [v18]
     clear v18
     obtain ⟨w11,rfl⟩:∃ u:World,u=wf:=⟨_,rfl⟩
     clear hen
     by_cases he:re=0
     ·subst he
      rw [if_neg (by simp)] at HRUN2
      have HR3:=Lib.hid HRUN2.out
      clear HRUN2
      go_wp2_with fail
      go_roundw
      case rel=>exact ⟨rfl,i+1,by have:=HHI.out;omega,by go_num,Lib.hid ⟨s2,HNU.out,HR3.out,Lib.hid (HF11.out.sub (List.sublist_append_left [_,_,_] _))⟩⟩
      case measure=>simp [intOf];omega
     ·have hb2:(re != 0)=true:=by simpa using he
      rw [if_pos he] at HRUN2
      go_wp2_with (refine wpStoreF rfl rfl 62 _ _ rfl (qb+1) 0 rfl #[.int .i64 0,.int .i64 0,.int .i64 0,.int .i64 0] rfl _ _ (iC [0,0,0,0]) (HF11.out.get 1 rfl) rfl (by show 0+4≤4;omega) (one_all rfl) info_62 ?_;intro w12 hk ho;have HF13:=Lib.hid (HF11.out.only 1 rfl ho hk);clear ho hk)
      try rw [Exit.noGoto_ret]
      refine ret_agg2 rfl rfl rfl (HF13.out.get 1 rfl) rfl und_62 rfl info_62 ?_
      exact HFIN.out _ ⟨⟨0,0⟩,⟨0,0⟩⟩ _ (by rw [if_pos (by trivial),← HRUN2.out,if_pos he];rfl) HF13.out.drop
   ·obtain rfl:i=15:=by omega
    have hki:¬ (15:Int)<15:=by decide
    have hrun:=HRUN.out
    rw [show opsI.drop 15=[] from rfl,runI] at hrun
    have hux:=(HNM.out 14).2
    have huy:=(HNM.out 15).2
    obtain ⟨d1,hd1⟩:∃ d,downI (s 14).lo=d:=⟨_,rfl⟩
    obtain ⟨d2,hd2⟩:∃ d,downI (s 15).lo=d:=⟨_,rfl⟩
    obtain ⟨u1,hu1⟩:∃ d,upI (s 14).hi=d:=⟨_,rfl⟩
    obtain ⟨u2,hu2⟩:∃ d,upI (s 15).hi=d:=⟨_,rfl⟩
    have HD1:=Lib.hid (fun w=>down_any (s 14).lo w)
    have HD2:=Lib.hid (fun w=>down_any (s 15).lo w)
    have HU1:=Lib.hid (fun w=>up_any (s 14).hi hux w)
    have HU2:=Lib.hid (fun w=>up_any (s 15).hi huy w)
    rw [hd1] at HD1
    rw [hd2] at HD2
    rw [hu1] at HU1
    rw [hu2] at HU2
    have hO:outR (s 14) (s 15)=⟨⟨d1,d2⟩,⟨u1,u2⟩⟩:=by unfold outR;rw [hd1,hd2,hu1,hu2]
    have HCR:=Lib.hid (fun w=>checkRect_any ⟨⟨d1,d2⟩,⟨u1,u2⟩⟩ w)
    obtain ⟨q,hq⟩:∃ q,rectB ⟨⟨d1,d2⟩,⟨u1,u2⟩⟩=q:=⟨_,rfl⟩
    rw [hq] at HCR
    unfold rectV at HCR
    dsimp only at HCR
    have HFIN2:Hid (∀ w' r k,(if q=true then ((⟨⟨d1,d2⟩,⟨u1,u2⟩⟩:RectD),(0:Int)) else (zeroR,4))=(r,k)→Fr w [] [] w'→PQ (.returned (.tuple #[.agg #[.int .i64 r.a.x,.int .i64 r.a.y,.int .i64 r.b.x,.int .i64 r.b.y],.int .i64 k])) w'):=Lib.hid fun w' r k h hf=>HFIN.out w' r k (by
     rw [if_pos (by trivial),← hrun]
     dsimp only
     rw [if_neg (by simp),hO,hq]
     exact h) hf
    clear HFIN hrun hux huy hd1 hd2 hu1 hu2 hO hq HNM HRUN
    obtain ⟨p0,q0,hp0⟩:∃ a b,s 0=⟨a,b⟩:=⟨_,_,rfl⟩
    obtain ⟨p1,q1,hp1⟩:∃ a b,s 1=⟨a,b⟩:=⟨_,_,rfl⟩
    obtain ⟨p2,q2,hp2⟩:∃ a b,s 2=⟨a,b⟩:=⟨_,_,rfl⟩
    obtain ⟨p3,q3,hp3⟩:∃ a b,s 3=⟨a,b⟩:=⟨_,_,rfl⟩
    obtain ⟨p4,q4,hp4⟩:∃ a b,s 4=⟨a,b⟩:=⟨_,_,rfl⟩
    obtain ⟨p5,q5,hp5⟩:∃ a b,s 5=⟨a,b⟩:=⟨_,_,rfl⟩
    obtain ⟨p6,q6,hp6⟩:∃ a b,s 6=⟨a,b⟩:=⟨_,_,rfl⟩
    obtain ⟨p7,q7,hp7⟩:∃ a b,s 7=⟨a,b⟩:=⟨_,_,rfl⟩
    obtain ⟨p8,q8,hp8⟩:∃ a b,s 8=⟨a,b⟩:=⟨_,_,rfl⟩
    obtain ⟨p9,q9,hp9⟩:∃ a b,s 9=⟨a,b⟩:=⟨_,_,rfl⟩
    obtain ⟨p10,q10,hp10⟩:∃ a b,s 10=⟨a,b⟩:=⟨_,_,rfl⟩
    obtain ⟨p11,q11,hp11⟩:∃ a b,s 11=⟨a,b⟩:=⟨_,_,rfl⟩
    obtain ⟨p12,q12,hp12⟩:∃ a b,s 12=⟨a,b⟩:=⟨_,_,rfl⟩
    obtain ⟨p13,q13,hp13⟩:∃ a b,s 13=⟨a,b⟩:=⟨_,_,rfl⟩
    obtain ⟨p14,q14,hp14⟩:∃ a b,s 14=⟨a,b⟩:=⟨_,_,rfl⟩
    obtain ⟨p15,q15,hp15⟩:∃ a b,s 15=⟨a,b⟩:=⟨_,_,rfl⟩
    unfold fallCs at HFR
    simp only [hp0,hp1,hp2,hp3,hp4,hp5,hp6,hp7,hp8,hp9,hp10,hp11,hp12,hp13,hp14,hp15] at HFR HD1 HD2 HU1 HU2
    clear hp0 hp1 hp2 hp3 hp4 hp5 hp6 hp7 hp8 hp9 hp10 hp11 hp12 hp13 hp14 hp15
    go_upto_region 11 with (fail)
    go_upto_region 13 with (fail)
    refine wp_region_fr [Kind.p,Kind.p,Kind.p,Kind.p,Kind.p,Kind.p,Kind.p,Kind.p,Kind.p,Kind.p,Kind.p,Kind.p,Kind.p,Kind.p,Kind.p,Kind.p,Kind.p,Kind.p,Kind.p,Kind.p,Kind.p,Kind.p,Kind.p,Kind.p,Kind.p,Kind.p,Kind.p,Kind.a 0,Kind.c 0] [28] [(27,62,fun k=>(if k≤0 then iC [0,0,0,0] else iC [d1,d2,u1,u2]))] w (fun _=>[]) (fun _=>_)
       (fun ix u _=>match ix with
        | 0=>u=.pointer (some ⟨g3,0,none⟩)
        | 1=>u=.pointer (some ⟨g3,0,none⟩)
        | 2=>u=.pointer (some ⟨g3,28,none⟩)
        | 3=>u=.pointer (some ⟨g3,28,none⟩)
        | 4=>u=.int .i64 p14
        | 5=>u=.int .i64 d1
        | 6=>u=.pointer (some ⟨g3,0,none⟩)
        | 7=>u=.pointer (some ⟨g3,0,none⟩)
        | 8=>u=.pointer (some ⟨g3,30,none⟩)
        | 9=>u=.pointer (some ⟨g3,30,none⟩)
        | 10=>u=.int .i64 p15
        | 11=>u=.int .i64 d2
        | 12=>u=.agg #[.int .i64 d1,.int .i64 d2]
        | 13=>u=.pointer (some ⟨g3,0,none⟩)
        | 14=>u=.pointer (some ⟨g3,0,none⟩)
        | 15=>u=.pointer (some ⟨g3,28,none⟩)
        | 16=>u=.pointer (some ⟨g3,29,none⟩)
        | 17=>u=.int .i64 q14
        | 18=>u=.int .i64 u1
        | 19=>u=.pointer (some ⟨g3,0,none⟩)
        | 20=>u=.pointer (some ⟨g3,0,none⟩)
        | 21=>u=.pointer (some ⟨g3,30,none⟩)
        | 22=>u=.pointer (some ⟨g3,31,none⟩)
        | 23=>u=.int .i64 q15
        | 24=>u=.int .i64 u2
        | 25=>u=.agg #[.int .i64 u1,.int .i64 u2]
        | 26=>u=.agg #[.int .i64 d1,.int .i64 d2,.int .i64 u1,.int .i64 u2]
        | 27=>u=.pointer (some ⟨gOf u,0,none⟩)
        | _=>True)
       (by kernel_rfl) (by kernel_rfl) (by kernel_rfl) [27] rfl (by decide) (by kernel_rfl) (by kernel_rfl) HFR.out ?_ ?_
    ·refine ⟨?_,?_,?_,?_,?_,?_,?_,?_,?_,?_,?_,?_,?_,?_,?_,?_,?_,?_,?_,?_,?_,?_,?_,?_,?_,?_,?_,?_,?_,trivial⟩
     all_goals intro a w1 vs dn k K S hpre KE DE kk
     ·have e4:=KE 4 (by decide)
      go_simp;exact kk _ _ (by simp) bR rfl
     ·have e45:=dep (DE 0 _ 45 rfl rfl rfl)
      go_simp;exact kk _ _ (by simp) bR rfl
     ·have e46:=dep (DE 1 _ 46 rfl rfl rfl)
      go_simp;exact kk _ _ (by simp) bR rfl
     ·have e47:=dep (DE 2 _ 47 rfl rfl rfl)
      go_simp;exact kk _ _ (by simp) bR rfl
     ·have e48:=dep (DE 3 _ 48 rfl rfl rfl)
      have ca:w1.cell? ⟨g3,28,none⟩=some (.int .i64 p14):=(S.fr.left.get 2 rfl).cell 28
      go_simp;exact kk _ _ (by simp) bR rfl
     ·have e49:=dep (DE 4 _ 49 rfl rfl rfl)
      exact wpo_call 29 _ _ rfl #[.int .i64 p14] (by simp [Act.eval,e49]) (fun args w=>by kernel_rfl)
       ((HD1.out w1).mono fun e w' ⟨he,hb⟩=>⟨_,he,kk _ _ (by simp) (by subst hb;exact Below.refl _ _) rfl⟩)
     ·have e4:=KE 4 (by decide)
      go_simp;exact kk _ _ (by simp) bR rfl
     ·have e51:=dep (DE 6 _ 51 rfl rfl rfl)
      go_simp;exact kk _ _ (by simp) bR rfl
     ·have e52:=dep (DE 7 _ 52 rfl rfl rfl)
      go_simp;exact kk _ _ (by simp) bR rfl
     ·have e53:=dep (DE 8 _ 53 rfl rfl rfl)
      go_simp;exact kk _ _ (by simp) bR rfl
     ·have e54:=dep (DE 9 _ 54 rfl rfl rfl)
      have ca:w1.cell? ⟨g3,30,none⟩=some (.int .i64 p15):=(S.fr.left.get 2 rfl).cell 30
      go_simp;exact kk _ _ (by simp) bR rfl
     ·have e55:=dep (DE 10 _ 55 rfl rfl rfl)
      exact wpo_call 29 _ _ rfl #[.int .i64 p15] (by simp [Act.eval,e55]) (fun args w=>by kernel_rfl)
       ((HD2.out w1).mono fun e w' ⟨he,hb⟩=>⟨_,he,kk _ _ (by simp) (by subst hb;exact Below.refl _ _) rfl⟩)
     ·have e50:=dep (DE 5 _ 50 rfl rfl rfl)
      have e56:=dep (DE 11 _ 56 rfl rfl rfl)
      go_simp;exact kk _ _ (by simp) bR rfl
     ·have e4:=KE 4 (by decide)
      go_simp;exact kk _ _ (by simp) bR rfl
     ·have e58:=dep (DE 13 _ 58 rfl rfl rfl)
      go_simp;exact kk _ _ (by simp) bR rfl
     ·have e59:=dep (DE 14 _ 59 rfl rfl rfl)
      go_simp;exact kk _ _ (by simp) bR rfl
     ·have e60:=dep (DE 15 _ 60 rfl rfl rfl)
      go_simp;exact kk _ _ (by simp) bR rfl
     ·have e61:=dep (DE 16 _ 61 rfl rfl rfl)
      have ca:w1.cell? ⟨g3,29,none⟩=some (.int .i64 q14):=(S.fr.left.get 2 rfl).cell 29
      go_simp;exact kk _ _ (by simp) bR rfl
     ·have e62:=dep (DE 17 _ 62 rfl rfl rfl)
      exact wpo_call 30 _ _ rfl #[.int .i64 q14] (by simp [Act.eval,e62]) (fun args w=>by kernel_rfl)
       ((HU1.out w1).mono fun e w' ⟨he,hb⟩=>⟨_,he,kk _ _ (by simp) (by subst hb;exact Below.refl _ _) rfl⟩)
     ·have e4:=KE 4 (by decide)
      go_simp;exact kk _ _ (by simp) bR rfl
     ·have e64:=dep (DE 19 _ 64 rfl rfl rfl)
      go_simp;exact kk _ _ (by simp) bR rfl
     ·have e65:=dep (DE 20 _ 65 rfl rfl rfl)
      go_simp;exact kk _ _ (by simp) bR rfl
     ·have e66:=dep (DE 21 _ 66 rfl rfl rfl)
      go_simp;exact kk _ _ (by simp) bR rfl
     ·have e67:=dep (DE 22 _ 67 rfl rfl rfl)
      have ca:w1.cell? ⟨g3,31,none⟩=some (.int .i64 q15):=(S.fr.left.get 2 rfl).cell 31
      go_simp;exact kk _ _ (by simp) bR rfl
     ·have e68:=dep (DE 23 _ 68 rfl rfl rfl)
      exact wpo_call 30 _ _ rfl #[.int .i64 q15] (by simp [Act.eval,e68]) (fun args w=>by kernel_rfl)
       ((HU2.out w1).mono fun e w' ⟨he,hb⟩=>⟨_,he,kk _ _ (by simp) (by subst hb;exact Below.refl _ _) rfl⟩)
     ·have e63:=dep (DE 18 _ 63 rfl rfl rfl)
      have e69:=dep (DE 24 _ 69 rfl rfl rfl)
      go_simp;exact kk _ _ (by simp) bR rfl
     ·have e57:=dep (DE 12 _ 57 rfl rfl rfl)
      have e70:=dep (DE 25 _ 70 rfl rfl rfl)
      go_simp;exact kk _ _ (by simp) bR rfl
     ·go_simp;exact kk _ _ (by simp) (by have h:=S.fr.alloc rfl 62 #[.int .i64 0,.int .i64 0,.int .i64 0,.int .i64 0];show Fr _ _ (_ ++ [(_,62,if k≤0 then _ else _)]) _;rw [if_pos (S.hi 0 28 rfl rfl)];exact h) rfl
     ·subst hpre
      have e8:=dep (DE 27 _ 8 rfl rfl rfl)
      have e71:=dep (DE 26 _ 71 rfl rfl rfl)
      have HS:=Fr.done S.fr (by exact ⟨S.done 27 rfl,trivial⟩)
      exact wpo_storeF 62 (.tmp 8) (.tmp 71) rfl rfl ((gOf (vs 27))) 0 (by simpa [Act.eval] using e8) #[.int .i64 d1,.int .i64 d2,.int .i64 u1,.int .i64 u2] (by simpa [Act.eval] using e71) _ _ (iC [d1,d2,u1,u2]) (HS.get 3 rfl) rfl (by show 0+4≤4;omega) (one_all rfl) info_62 fun w' hk ho=>kk _ _ (by simp) (Fr.undone (HS.only 3 rfl ho hk) (by exact ⟨S.done 27 rfl,trivial⟩)) trivial
    ·intro vs wf HFr HR
     have HFr':Fr w [] [(qb,60,iC [a0,b0,a1,b1,a2,b2,a3,b3,a4,b4,a5,b5,a6,b6,a7,b7,a8,b8]),(qb+1,62,iC [0,0,0,0]),(g3,111,iC [p0,q0,p1,q1,p2,q2,p3,q3,p4,q4,p5,q5,p6,q6,p7,q7,p8,q8,p9,q9,p10,q10,p11,q11,p12,q12,p13,q13,p14,q14,p15,q15]),((gOf (vs 27)),62,iC [d1,d2,u1,u2])] wf:=HFr
     have v27:vs 27=.pointer (some ⟨(gOf (vs 27)),0,none⟩):=HR 27 _ rfl
     clear HFr HR
     obtain ⟨g7_27,hg7_27⟩:∃ g,gOf (vs 27)=g:=⟨_,rfl⟩
     rw [hg7_27] at HFr'
     rw [hg7_27] at v27
     clear hg7_27
     have HF7:=Lib.hid HFr'
     clear HFr'
     simp only [putAll,Act.put,List.setIfInBounds_toArray,List.set_cons_zero,List.set_cons_succ]
     simp only [v27]
     clear v27
     obtain ⟨w7,rfl⟩:∃ u:World,u=wf:=⟨_,rfl⟩
     cases q with
     | false =>
      go_wp2_with (refine wpLoadF rfl 62 _ rfl g7_27 0 rfl _ _ (HF7.out.get 3 rfl) #[.int .i64 d1,.int .i64 d2,.int .i64 u1,.int .i64 u2] rfl _ und_62 rfl info_62 ?_)
      refine (HCR.out _).mono ?_
      rintro e w8 ⟨rfl,hw⟩
      have HF9:=Lib.hid (HF7.out.below hw)
      clear hw
      go_wp2_with (refine wpStoreF rfl rfl 62 _ _ rfl (qb+1) 0 rfl #[.int .i64 0,.int .i64 0,.int .i64 0,.int .i64 0] rfl _ _ (iC [0,0,0,0]) (HF9.out.get 1 rfl) rfl (by show 0+4≤4;omega) (one_all rfl) info_62 ?_;intro w10 hk ho;have HF11:=Lib.hid (HF9.out.only 1 rfl ho hk);clear ho hk)
      try rw [Exit.noGoto_ret]
      refine ret_agg2 rfl rfl rfl (HF11.out.get 1 rfl) rfl und_62 rfl info_62 ?_
      exact HFIN2.out _ ⟨⟨0,0⟩,⟨0,0⟩⟩ _ (by rw [if_neg (by simp)];rfl) HF11.out.drop
     | true =>
      go_wp2_with (refine wpLoadF rfl 62 _ rfl g7_27 0 rfl _ _ (HF7.out.get 3 rfl) #[.int .i64 d1,.int .i64 d2,.int .i64 u1,.int .i64 u2] rfl _ und_62 rfl info_62 ?_)
      refine (HCR.out _).mono ?_
      rintro e w8 ⟨rfl,hw⟩
      have HF9:=Lib.hid (HF7.out.below hw)
      clear hw
      go_wp2_with (first
        | (refine wpLoadF rfl 62 _ rfl g7_27 0 rfl _ _ (HF9.out.get 3 rfl) #[.int .i64 d1,.int .i64 d2,.int .i64 u1,.int .i64 u2] rfl _ und_62 rfl info_62 ?_)
        | (refine wpStoreF rfl rfl 62 _ _ rfl (qb+1) 0 rfl #[.int .i64 d1,.int .i64 d2,.int .i64 u1,.int .i64 u2] rfl _ _ (iC [d1,d2,u1,u2]) (HF9.out.get 1 rfl) rfl (by show 0+4≤4;omega) (one_all rfl) info_62 ?_;intro w10 hk ho;have HF11:=Lib.hid (HF9.out.only 1 rfl ho hk);clear ho hk))
      try rw [Exit.noGoto_ret]
      refine ret_agg2 rfl rfl rfl (HF11.out.get 1 rfl) rfl und_62 rfl info_62 ?_
      exact HFIN2.out _ ⟨⟨d1,d2⟩,⟨u1,u2⟩⟩ _ (by rw [if_pos (by trivial)]) HF11.out.drop
end Go.Proofs.YtmkoegljnebdiaaGreat
namespace Go.Proofs.YtmkoegljnebdiaaGreat
open Go.RowKit Go.Shelf
set_option maxRecDepth 100000
set_option maxHeartbeats 16000000

theorem Oper.wpIn_wide {P:Program} {Q Q1:Exit→Act→World→Prop} {K K':Act→World→Prop} {o:Oper} {a:Act} {w:World} (n:Nat) (hQ:∀ e a w,e ≠ .normal→Q1 e a w→Q e a w) (hK:∀ a w,K a w→K' a w) (h:o.wp P a w K Q1):o.wpIn Fence.wide n P a w K' Q:=by
 unfold Oper.wp at h
 unfold Oper.wpIn
 refine ⟨fun _ _=>trivial,?_⟩
 rw [show Fence.wide.round=none from rfl,Oper.semAt_none]
 generalize (execOp a.eval o).run P w=r at *
 cases r with
 | ok x w' =>
  cases x <;> simp only [Oper.upon] at h <;> simp only [Oper.uponIn]
  case value u=>exact hK _ _ h
  case skip=>exact hK _ _ h
  case defer d=>exact hK _ _ h
  case enter f args =>
   refine ⟨fun hs=>by simp [Fence.wide] at hs,(callsIn_wide.2 h).mono fun e w'' he=>?_⟩
   cases e with
   | returned v=>exact hK _ _ he
   | panicked c=>exact hQ _ _ _ (by simp) he
   | outgrown=>obtain ⟨a,w,h⟩:=he;exact ⟨a,w,hQ _ _ _ (by simp) h⟩
  case row r args=>exact ⟨fun hs=>by simp [Fence.wide] at hs,fun c cs _=>let ⟨v,w',q,s⟩:=h c cs;⟨v,w',hK _ _ q,stepsIn_wide.2 s⟩⟩
  all_goals exact absurd h (by simp)
 | halt x w' =>
  cases x <;> simp only [Oper.upon] at h <;> simp only [Oper.uponIn]
  case panic v=>exact hQ _ _ _ (by simp) h
  all_goals exact h
theorem filt_nil:∀ (b:List Bool),(∀ i,i<b.length→b.getD i false=true)→(b.filter (!·)).length=0∧b=List.replicate b.length true
 | [],_=>⟨rfl,rfl⟩
 | x :: b,h=>by
  have h0:=h 0 (by simp)
  simp at h0
  subst h0
  obtain ⟨h1,h2⟩:=filt_nil b fun i hi=>by have:=h (i+1) (by simp;omega);simpa using this
  refine ⟨by simpa using h1,?_⟩
  rw [List.length_cons,List.replicate_succ,← h2]
theorem filt_zero:∀ (b:List Bool),(b.filter (!·)).length=0→b=List.replicate b.length true
 | [],_=>rfl
 | false :: b,h=>by simp at h
 | true :: b,h=>by
  have:=filt_zero b (by simpa using h)
  rw [List.length_cons,List.replicate_succ,← this]
theorem filt_set:∀ (L:List Bool) (i:Nat),L[i]?=some false→(L.filter (!·)).length=((L.set i true).filter (!·)).length+1
 | [],_,h=>by simp at h
 | b :: L,0,h=>by simp at h;subst h;simp
 | b :: L,i+1,h=>by
  simp at h
  have:=filt_set L i h
  cases b <;> simp_all
section
variable {P:Program} {l1 l2:List Oper} {Q Q1:Exit→Act→World→Prop} {m:Nat}
theorem lb_lt {b:List Bool} {k i:Nat} (d:Bool) (h:i<b.length):(b ++ List.replicate k false).toArray.getD i d=b.getD i d:=by
 simp [List.getElem?_append_left h]
theorem any_tail (n:Nat) (hQ:∀ e a w,e ≠ .normal→Q1 e a w→Q e a w) (hB:regB (l1 ++ l2) m=true) (hg:(l1 ++ l2).all (fun o=>o.guard.isNone)=true)
  (hanc:((List.range l2.length).all fun i=>(List.range l1.length).all fun j=>ancB (l1 ++ l2) (l1 ++ l2).length (l1.length+i) j)=true)
  (hT:∀ a w,Q1 .normal a w→wpAnyIn Fence.wide n P .any (l1 ++ l2).toArray Q l2.length (List.replicate l1.length true ++ List.replicate l2.length false).toArray a w) :
  ∀ (fuel:Nat) (b:List Bool) (a:Act) (w:World),b.length=l1.length→(b.filter (!·)).length=fuel →
   (∀ (i:Nat) (o:Oper),(l1 ++ l2)[i]?=some o→(b ++ List.replicate l2.length false).toArray.getD i false=true→∀ j,afterB o j=true→(b ++ List.replicate l2.length false).toArray.getD j false=true) →
   anyW P l1.toArray Q1 fuel b.toArray a w→wpAnyIn Fence.wide n P .any (l1 ++ l2).toArray Q (fuel+l2.length) (b ++ List.replicate l2.length false).toArray a w:=by
 have hgo:∀ (i:Nat) (o:Oper),(l1 ++ l2)[i]?=some o→o.guard=none:=fun i o h=>by
  have:=List.all_eq_true.1 hg o (List.mem_of_getElem? h)
  simpa using this
 have hwn:∀ (i:Nat) (o:Oper) (a:Act) (ops:Array Oper),(l1 ++ l2)[i]?=some o→Region.wanted o (yielded ops a.tmps)=true:=fun i o a ops h=>by
  unfold Region.wanted;rw [hgo i o h]
 have haf:∀ {o:Oper} {e:Edge},e ∈ o.after→Region.binds .any e=true→afterB o e.on=true:=fun {o e} he hb=>by
  unfold afterB
  rw [List.any_eq_true]
  exact ⟨e,Array.mem_toList_iff.2 he,by simp [hb]⟩
 intro fuel
 induction fuel with
 | zero =>
  intro b a w hl hf hcl h
  have hb:=filt_zero b hf
  rw [hl] at hb
  rw [hb,Nat.zero_add]
  exact hT a w h.2
 | succ fuel ih =>
  intro b a w hl hf hcl h
  rw [show fuel+1+l2.length=(fuel+l2.length)+1 from by omega]
  refine ⟨fun hr=>?_,fun i hi=>?_⟩
  ·exfalso
   have hall:∀ M i,i<M→i<l1.length→b.getD i false=true:=by
    intro M
    induction M with
    | zero=>intro i h;omega
    | succ M ih =>
     intro i him hil
     cases hli:b.getD i false with
     | true=>rfl
     | false =>
      exfalso
      have hmem:i ∈ Region.ready .any (l1 ++ l2).toArray (b ++ List.replicate l2.length false).toArray:=by
       rw [mem_ready]
       refine ⟨?_,l1[i],by simp [List.getElem?_append_left hil],fun e he hb=>?_⟩
       ·rw [lb_lt true (by omega)]
        have hib:i<b.length:=by omega
        simp [hib] at hli ⊢;exact hli
       ·have:=regB_after hB (i:=i) (o:=l1[i]) (by simp [List.getElem?_append_left hil]) he hb
        rw [lb_lt false (by omega)]
        exact ih e.on (by omega) (by omega)
      rw [hr] at hmem;cases hmem
   have:=(filt_nil b fun i hi=>hall (i+1) i (by omega) (by omega)).1
   omega
  ·obtain ⟨h0,o,ho,hpre⟩:=mem_ready.1 hi
   have hoL:(l1 ++ l2)[i]?=some o:=by simpa using ho
   rcases Nat.lt_or_ge i l1.length with hil | hil
   ·have hib:i<b.length:=by omega
    have hb0:b[i]?=some false:=by
     rw [lb_lt true hib] at h0
     simp [hib] at h0 ⊢;exact h0
    have hol:l1[i]?=some o:=by rw [← hoL,List.getElem?_append_left hil]
    have h2:=h.2 i (mem_ready.2 ⟨by simp [hb0],o,by simpa using hol,fun e he hb=>by
     have h3:=hpre e he hb
     have h4:=regB_after hB hoL he hb
     rw [lb_lt false (by omega)] at h3
     simpa using h3⟩)
    unfold opW at h2
    rw [show l1.toArray[i]?=some o from by simpa using hol] at h2
    dsimp only at h2
    rw [if_pos (hwn i o a _ hoL)] at h2
    unfold wpOpIn
    rw [show (l1 ++ l2).toArray[i]?=some o from by simpa using hoL]
    dsimp only
    rw [if_pos (hwn i o a _ hoL)]
    refine Oper.wpIn_wide n hQ (fun a' w' hk=>?_) h2
    have hset:(b ++ List.replicate l2.length false).toArray.setIfInBounds i true=(b.set i true ++ List.replicate l2.length false).toArray:=by
     rw [List.setIfInBounds_toArray,List.set_append_left _ _ hib]
    rw [hset]
    refine ih (b.set i true) a' w' (by simpa using hl) (by have:=filt_set b i hb0;omega) ?_ (by rw [List.setIfInBounds_toArray] at hk;exact hk)
    have hnew:∀ k,(b.set i true ++ List.replicate l2.length false).toArray.getD k false=true ↔ (k=i ∨ (b ++ List.replicate l2.length false).toArray.getD k false=true):=by
     intro k
     by_cases hki:k=i
     ·subst hki;rw [lb_lt false (by simpa using hib)];simp [hib]
     ·rw [← hset,getD_set_ne false (Ne.symm hki)];simp [hki]
    intro k ok hok hlk j hj
    rw [hnew] at hlk ⊢
    rcases hlk with rfl | hlk
    ·rw [hoL] at hok
     obtain rfl:=Option.some.inj hok
     right
     unfold afterB at hj
     rw [List.any_eq_true] at hj
     obtain ⟨e,he,hh⟩:=hj
     simp only [Bool.and_eq_true,beq_iff_eq] at hh
     rw [← hh.2]
     exact hpre e (Array.mem_toList_iff.1 he) hh.1
    ·exact .inr (hcl k ok hok hlk j hj)
   ·exfalso
    have hiL:=(List.getElem?_eq_some_iff.1 hoL).1
    rw [List.length_append] at hiL
    have hall:∀ j,j<l1.length→(b ++ List.replicate l2.length false).toArray.getD j false=true:=by
     intro j hj
     have h1:=List.all_eq_true.1 hanc (i - l1.length) (List.mem_range.2 (by omega))
     have h2:=List.all_eq_true.1 h1 j (List.mem_range.2 hj)
     rw [show l1.length+(i - l1.length)=i from by omega] at h2
     obtain ⟨q,hq⟩:∃ q,(l1 ++ l2).length=q+1:=⟨(l1 ++ l2).length - 1,by rw [List.length_append];omega⟩
     rw [hq,ancB,List.any_eq_true] at h2
     obtain ⟨k,_,hk⟩:=h2
     simp only [Bool.and_eq_true,Bool.or_eq_true,beq_iff_eq] at hk
     have hlk:(b ++ List.replicate l2.length false).toArray.getD k false=true:=by
      have h3:=hk.1
      unfold afterI at h3
      rw [hoL] at h3
      dsimp only at h3
      unfold afterB at h3
      rw [List.any_eq_true] at h3
      obtain ⟨e,he,hh⟩:=h3
      simp only [Bool.and_eq_true,beq_iff_eq] at hh
      rw [← hh.2]
      exact hpre e (Array.mem_toList_iff.1 he) hh.1
     rcases hk.2 with rfl | h4
     ·exact hlk
     ·exact anc_listed (listed:=fun i=>(b ++ List.replicate l2.length false).toArray.getD i false) hcl q k j hlk h4
    have:=(filt_nil b fun i hi=>by have:=hall i (by omega);rwa [lb_lt false hi] at this).1
    omega
/-- **A drawn region in a wide fence.** -/
theorem wpIn_region_tail {id n:Nat} {a0:Act} {w0:World} (hm:P.follows .mixedOrders=true) (l1 l2:List Oper) (hQ:∀ e a w,e ≠ .normal→Q1 e a w→Q e a w) (hB:regB (l1 ++ l2) m=true) (hg:(l1 ++ l2).all (fun o=>o.guard.isNone)=true)
  (hanc:((List.range l2.length).all fun i=>(List.range l1.length).all fun j=>ancB (l1 ++ l2) (l1 ++ l2).length (l1.length+i) j)=true)
  (h:anyW P l1.toArray Q1 l1.toArray.size (Array.replicate l1.toArray.size false) a0 w0.drew)
  (hT:∀ a w,Q1 .normal a w→wpAnyIn Fence.wide n P .any (l1 ++ l2).toArray Q l2.length (List.replicate l1.length true ++ List.replicate l2.length false).toArray a w) :
  (Code.region id (l1 ++ l2).toArray true).wpIn Fence.wide n P Q a0 w0:=by
 refine wpIn_region_any hm ?_
 have hf:∀ k,((List.replicate k false).filter (!·)).length=k:=fun k=>by
  rw [List.filter_eq_self.2 (by simp),List.length_replicate]
 have:=any_tail (P:=P) n hQ hB hg hanc hT l1.length (List.replicate l1.length false) a0 w0.drew (by simp) (hf _) (fun i o _ hl=>by
  exfalso
  rw [List.replicate_append_replicate] at hl
  simp only [Array.getD_eq_getD_getElem?,List.getElem?_toArray,List.getElem?_replicate] at hl
  split at hl <;> cases hl) (by simpa using h)
 rw [List.replicate_append_replicate] at this
 simpa using this
end

theorem wpIn_yield {P:Program} {n l:Nat} {o:Oper} {a:Act} {w:World} {K:Act→World→Prop} {Q:Exit→Act→World→Prop} (x:Operand) (xs:Array Operand) (ts:Array TypeId) (ho:o.op=.call { callee:=.value x,args:=xs,argTypes:=ts }) (hv:a.eval x=.func (.yield l) #[] #[]) (vs:Array Value) (hx:xs.map a.eval=vs)
  {fn:FuncId} {tmps:Array Value} {assign body:Code} (hy:(Instr.yield l vs).run P w=.ok (.round l fn tmps assign body) w) (hR:RoundIn Fence.wide (n - 1) P l fn tmps assign body w fun e w'=>∃ v,e=.returned v∧K (a.put o.dst v) w'):o.wpIn Fence.wide n P a w K Q:=by
 unfold Oper.wpIn
 refine ⟨fun _ _=>trivial,?_⟩
 rw [show Fence.wide.round=none from rfl,Oper.semAt_none]
 unfold execOp
 simp only [ho,resolve,hx,hv,Deferred.ofValue,Sem.run_bind,Sem.run_pure,Result.andThen_ok,invoke]
 simp [hy,Oper.uponIn]
 refine ⟨fun hs=>by simp [Fence.wide] at hs,hR.mono ?_⟩
 rintro e w' ⟨v,rfl,hk⟩
 exact hk
theorem wpAnyIn_one {F:Fence} {n:Nat} {P:Program} {md:Region.Mode} {ops:Array Oper} {Q:Exit→Act→World→Prop} {fuel:Nat} {li:Array Bool} {a:Act} {w:World} {i:Nat} {o:Oper} (hr:Region.ready md ops li=[i]) (ho:ops[i]?=some o) (hg:o.guard=none)
  (h:o.wpIn F n P a w (wpAnyIn F n P md ops Q fuel (li.setIfInBounds i true)) Q):wpAnyIn F n P md ops Q (fuel+1) li a w:=by
 refine ⟨fun h=>(by rw [hr] at h;cases h),fun j hj=>?_⟩
 rw [hr,List.mem_singleton] at hj
 subst hj
 unfold wpOpIn
 rw [ho]
 dsimp only
 rw [if_pos (by unfold Region.wanted;rw [hg])]
 exact h
theorem wpListInW_of_wp {n:Nat} {P:Program} {ops:Array Oper} {rest:List Oper} {o:Oper} {a:Act} {w:World} {Q:Exit→Act→World→Prop} (hgd:o.guard=none) (h:∀ K:Act→World→Prop,(∀ a' w',wpListIn Fence.wide n P ops Q rest a' w'→K a' w')→o.wp P a w K Q):wpListIn Fence.wide n P ops Q (o :: rest) a w :=
 wpListIn_plain hgd fun K hK=>Oper.wpIn_wide n (fun _ _ _ _ h=>h) (fun _ _ h=>h) (h K hK)
theorem wpStoreFW {n:Nat} {P:Program} {ops:Array Oper} {rest:List Oper} {o:Oper} {a:Act} {w:World} {Q:Exit→Act→World→Prop} (hgd:o.guard=none) (hdst:o.dst=none) (ty:TypeId) (x y:Operand) (ho:o.op=.store ty x y)
  (g off:Nat) (hx:a.eval x=.pointer (some ⟨g,off,none⟩)) (S:Array Value) (hy:a.eval y=.agg S) (t:TypeId) (cs R:Array Value) (hb:Bk w g t cs) (hR:cs.toList.take off ++ S.toList ++ cs.toList.drop (off+S.size)=R.toList)
  (hl:off+S.size≤cs.size) (h1:∀ u ∈ S.toList,u.oneCell'=true) (hi:(P.info? ty).map (·.size)=some S.size)
  (h:∀ w',Bk w' g t R→Only g w w'→wpListIn Fence.wide n P ops Q rest a w'):wpListIn Fence.wide n P ops Q (o :: rest) a w :=
 wpListInW_of_wp hgd fun _ hK=>wpo_storeF ty x y ho hdst g off hx S hy t cs R hb hR hl h1 hi fun w' h2 h3=>by
  have:=hK _ _ (h w' h2 h3)
  simpa [hdst,Act.put] using this
theorem wpIn_region_tailN {P:Program} {Q Q1:Exit→Act→World→Prop} {m id n:Nat} {a0:Act} {w0:World} {l:List Oper} (p:Nat) (hm:P.follows .mixedOrders=true) (hQ:∀ e a w,e ≠ .normal→Q1 e a w→Q e a w) (hB:regB l m=true) (hg:l.all (fun o=>o.guard.isNone)=true)
  (hanc:((List.range (l.drop p).length).all fun i=>(List.range (l.take p).length).all fun j=>ancB l l.length ((l.take p).length+i) j)=true)
  (h:anyW P (l.take p).toArray Q1 (l.take p).toArray.size (Array.replicate (l.take p).toArray.size false) a0 w0.drew)
  (hT:∀ a w,Q1 .normal a w→wpAnyIn Fence.wide n P .any l.toArray Q (l.drop p).length (List.replicate (l.take p).length true ++ List.replicate (l.drop p).length false).toArray a w) :
  (Code.region id l.toArray true).wpIn Fence.wide n P Q a0 w0:=by
 have:=wpIn_region_tail (P:=P) (Q:=Q) (Q1:=Q1) (m:=m) (id:=id) (n:=n) (a0:=a0) (w0:=w0) hm (l.take p) (l.drop p) hQ (by rwa [List.take_append_drop]) (by rwa [List.take_append_drop]) (by rwa [List.take_append_drop]) h (by rwa [List.take_append_drop])
 rwa [List.take_append_drop] at this
theorem putAll_congr:∀ (l:List Oper) (vs us:Nat→Value) (i:Nat) (a:Act),(∀ j o,l[j]?=some o→vs (i+j)=us (i+j))→putAll l vs i a=putAll l us i a
 | [],_,_,_,_,_=>rfl
 | o :: l,vs,us,i,a,h=>by
  rw [putAll,putAll,show vs i=us i from h 0 o rfl]
  exact putAll_congr l vs us (i+1) _ fun j o' hj=>by have:=h (j+1) o' (by simpa using hj);rwa [show i+(j+1)=i+1+j from by omega] at this
/-- **A drawn region in a wide fence whose first operations leave values that are known and the world as it is.** -/
theorem wpIn_region_const {P:Program} {Q:Exit→Act→World→Prop} {m id n:Nat} {a0:Act} {w0:World} {l:List Oper} (p:Nat) (VS:Nat→Value) (hm:P.follows .mixedOrders=true) (hB:regB l m=true) (hg:l.all (fun o=>o.guard.isNone)=true)
  (hanc:((List.range (l.drop p).length).all fun i=>(List.range (l.take p).length).all fun j=>ancB l l.length ((l.take p).length+i) j)=true) (hBp:regB (l.take p) a0.tmps.size=true)
  (hs:StepsOkJ P (l.take p) (fun e a w=>e=.normal∧a=putAll (l.take p) VS 0 a0∧w=w0.drew) a0 (fun _ _ w=>w=w0.drew) (fun _ _ _=>True) (fun i v _ _=>v=VS i) (l.take p) 0)
  (hT:wpAnyIn Fence.wide n P .any l.toArray Q (l.drop p).length (List.replicate (l.take p).length true ++ List.replicate (l.drop p).length false).toArray (putAll (l.take p) VS 0 a0) w0.drew) :
  (Code.region id l.toArray true).wpIn Fence.wide n P Q a0 w0:=by
 refine wpIn_region_tailN p hm (fun e a w h h'=>absurd h'.1 h) hB hg hanc (any_stepsJ hBp _ _ _ (fun _=>rfl) (fun _ _ _ _ _ _ _ _ h _=>h) hs fun vs dn w _ hw hr=>⟨rfl,?_,hw⟩) fun a w h=>?_
 ·exact putAll_congr _ _ _ 0 _ fun j o hj=>by have:=hr j o hj;rwa [Nat.zero_add]
 ·obtain ⟨_,rfl,rfl⟩:=h
  exact hT
theorem Fr.grownBy {W w:World} {N:List Ent} (h:Fr W [] N w):W.grownBy w none :=
 ⟨h.os,h.tape,h.output,h.size,fun i hi _=>h.far i hi (by simp)⟩
theorem edges_in (l Bs g off n c:Nat) (v:Nat→SpotD) (hn:n≤4096) (hb:Bs ≠ g) (J Jx:List (Fin n)→World→Prop) (W:World) (hJ:AbidesFrom W.heap.size J)
  (hY:∀ pre x W,J pre W→pre.length<n→YieldAt Fence.wide 4 Tryz.prog l #[spotV (v x.val),spotV (v ((x.val+1) % n))] W fun e W' =>
   (e=.returned (.bool true)∧J (pre ++ [x]) W'∧KeepL [Bs,g] W W') ∨ (e=.returned (.bool false)∧Jx (pre ++ [x]) W'))
  (hbs:Bk W Bs 25 #[.slice (some ⟨g,off,none⟩) n c]) (hg:g<W.heap.size) (hc:∀ i,i<n→W.cell? ⟨g,off+i * 2,none⟩=some (.int .i64 (v i).x)∧W.cell? ⟨g,off+i * 2+1,none⟩=some (.int .i64 (v i).y)) (h0:J [] W) :
  CallsIn Fence.wide 5 Tryz.prog 147 #[.func (.yield l) #[] #[],.pointer (some ⟨Bs,0,none⟩)] W fun e W'=>(∃ v,e=.returned v) ∧
   ((∃ ys,Fin.vals ys=List.range n∧J ys W') ∨ (∃ pre,Fin.vals pre <+: List.range n∧pre ≠ []∧Jx pre W')):=by
 refine callsIn_of_wp Tryz.func147 rfl trivial ?_ rfl
 simp only [Tryz.ntmps147,List.size_toArray,List.length_cons,List.length_nil,Nat.reduceAdd,Nat.reduceSub,Array.replicate_succ,Array.replicate_zero,List.push_toArray,List.append_toArray,List.nil_append,List.cons_append]
 have HC:=Lib.hid hc
 have HBS:=Lib.hid hbs
 have HJ:=Lib.hid hJ
 have HG:=Lib.hid hg
 have hbc:=hbs.cell 0
 clear hc hbs hJ hg
 gi_wp2
 clear hbc
 gi_loopw [7] (fun p wr=>∃ (k:Nat) (ys:List (Fin n)),k≤n∧p=.int .i64 (k:Int)∧Hid (Fin.vals ys=List.range k∧J ys wr∧KeepL [Bs,g] W wr))
  (fun p _=>n - (intOf p).toNat)
 case atStart=>exact ⟨0,[],Nat.zero_le _,rfl,Lib.hid ⟨rfl,h0,KeepL.refl _ _⟩⟩
 case round =>
  obtain ⟨k,ys,hk,rfl,hs'⟩:=hrel
  have HK1:Hid (Bk wr Bs 25 #[.slice (some ⟨g,off,none⟩) n c]):=Lib.hid ((hs'.out.2.2 Bs (by simp)).trans HBS.out)
  by_cases hlt:k<n
  ·have hki:(k:Int)<(n:Int):=by omega
   have h0k:(0:Int)≤(k:Int):=by omega
   obtain ⟨q,hq⟩:∃ q,(k+1) % n=q:=⟨_,rfl⟩
   have hqn:q<n:=by rw [← hq];exact Nat.mod_lt _ (by omega)
   have HKL:=Lib.hid hs'.out.2.2
   have hcc:∀ i,i<n→∀ j u,(#[Value.int .i64 (v i).x,.int .i64 (v i).y])[j]?=some u→wr.cell? ⟨g,off+i * 2+j,none⟩=some u:=fun i hi j u hj=>by
    match j,hj with
    | 0,hj=>simp at hj;subst hj;exact (HKL.out.cell (p:=⟨g,off+i * 2,none⟩) (by simp)).trans (HC.out i hi).1
    | 1,hj=>simp at hj;subst hj;exact (HKL.out.cell (p:=⟨g,off+i * 2+1,none⟩) (by simp)).trans (HC.out i hi).2
    | j+2,hj=>simp at hj
   have HCK:=Lib.hid (hcc k hlt)
   have HCQ:=Lib.hid (hcc q hqn)
   have HGW:Hid (g<wr.heap.size):=Lib.hid (by
    have h1:=HKL.out g (by simp)
    rw [Array.getElem?_eq_getElem HG.out] at h1
    exact (Array.getElem?_eq_some_iff.1 h1).1)
   have HBW0:Hid (Bs<wr.heap.size):=Lib.hid HK1.out.lt
   have hyy:=fun W1 (h:J ys W1)=>hY ys ⟨k,hlt⟩ W1 h (by
    have h3:=congrArg List.length hs'.out.1
    rw [List.length_range] at h3
    unfold Fin.vals at h3
    rw [List.length_map] at h3
    omega)
   dsimp only at hyy
   rw [hq] at hyy
   have HTK:Hid (Fin.vals (ys ++ [⟨k,hlt⟩])=List.range (k+1)):=Lib.hid (by
    rw [List.range_succ,← hs'.out.1];simp [Fin.vals])
   have HYY:=Lib.hid hyy
   have HJW:Hid (∀ W1,Fr wr [] [] W1→J ys W1):=Lib.hid fun W1 h=>HJ.out _ _ _ none hs'.out.2.1 (Fr.grownBy h) (fun r e=>by cases e)
   have HLT:=Lib.hid hlt
   have w1:IntKind.i64.wrap ((k:Int)+1)=(k:Int)+1:=IntWalk.i64_in _ (by omega)
   have w2:wrap64 ((k:Int)+1)=(k:Int)+1:=w64_in (by omega) (by omega)
   have w3:((k:Int)+1).tmod (n:Int)=(q:Int):=by rw [Int.tmod_eq_emod_of_nonneg (by omega),← hq,Int.natCast_emod];rfl
   have w4:((n:Int) == 0)=false:=by simp;omega
   have w5:¬ (n:Int)=0:=by omega
   have w8:¬ n=0:=by omega
   have w6:IntKind.i64.wrap (q:Int)=(q:Int):=IntWalk.i64_in _ (by omega)
   have w7:wrap64 (q:Int)=(q:Int):=w64_in (by omega) (by omega)
   have h0q:(0:Int)≤(q:Int):=by omega
   have hqi:(q:Int)<(n:Int):=by omega
   clear hyy hY hs' hcc hq
   obtain ⟨⟨x,y⟩,hv⟩:∃ z,v k=z:=⟨_,rfl⟩
   obtain ⟨⟨x',y'⟩,hv'⟩:∃ z,v q=z:=⟨_,rfl⟩
   rw [hv] at HCK HYY
   rw [hv'] at HCQ HYY
   unfold spotV at HYY
   dsimp only at HCK HCQ HYY
   clear hv hv'
   obtain ⟨g1,hg1⟩:∃ g,wr.heap.size=g:=⟨_,rfl⟩
   obtain ⟨V1,hV1⟩:∃ u,wr.alloc (.cells #[.int .i64 0,.int .i64 0] 56)=u:=⟨_,rfl⟩
   have HF1:Hid (Fr wr [] [(g1,56,iC [0,0])] V1):=Lib.hid (by rw [← hV1];exact (Fr.start wr).alloc hg1.symm 56 #[.int .i64 0,.int .i64 0])
   clear HC
   gi_wp2_with (first
    | (refine wpLoadFW rfl 56 _ rfl g (off+k * 2) rfl #[.int .i64 x,.int .i64 y] _ HCK.out und_56 rfl info_56 ?_)
    | (refine wpStoreFW rfl rfl 56 _ _ rfl g1 0 rfl #[.int .i64 x,.int .i64 y] rfl _ _ (iC [x,y]) (HF1.out.get 0 rfl) rfl (by show 0+2≤2;omega) (one_all rfl) info_56 ?_;intro V2 hk ho;clear hV1 hg1;have HF2:=Lib.hid (HF1.out.only 0 rfl ho hk);clear ho hk))
   have HS2:Hid (∀ j u,(#[Value.int .i64 x',.int .i64 y'])[j]?=some u→V2.drew.cell? ⟨g,off+q * 2+j,none⟩=some u):=Lib.hid fun j u hj=>(HF2.out.toBelow.cell (p:=⟨g,off+q * 2+j,none⟩) HGW.out).trans (HCQ.out j u hj)
   have HB2:Hid (V2.drew.cell? ⟨Bs,0,none⟩=some (.slice (some ⟨g,off,none⟩) n c)):=Lib.hid ((HF2.out.toBelow.cell (p:=⟨Bs,0,none⟩) HBW0.out).trans (HK1.out.cell 0))
   have HP2:Hid (Bk V2.drew g1 56 (iC [x,y])):=Lib.hid (HF2.out.get 0 rfl)
   refine wpIn_region_const (m:=25) 10 (fun i=>match i with | 0=>.func (.yield l) #[] #[] | 1=>.agg #[.int .i64 x,.int .i64 y] | 2=>.slice (some ⟨g,off,none⟩) n c | 3=>.int .i64 (k:Int) | 4=>.int .i64 ((k:Int)+1) | 5=>.slice (some ⟨g,off,none⟩) n c | 6=>.int .i64 (n:Int) | 7=>.int .i64 (q:Int) | 8=>.pointer (some ⟨g,off+q * 2,none⟩) | _=>.agg #[.int .i64 x',.int .i64 y'])
    (by kernel_rfl) (by kernel_rfl) (by kernel_rfl) (by kernel_rfl) (by kernel_rfl) ?_ ?_
   ·refine ⟨?_,?_,?_,?_,?_,?_,?_,?_,?_,?_,trivial⟩
    ·intro a u vs K dn hb hb2 hj KE DE _ kk
     have e0:=KE 0 (by decide)
     subst hj
     go_simp;exact kk _ _ (by simp) rfl trivial rfl
    ·intro a u vs K dn hb hb2 hj KE DE _ kk
     subst hj
     have e4:=KE 4 (by decide)
     exact wpo_loadF 56 (.tmp 4) rfl g1 0 (by simpa [Act.eval] using e4) _ _ HP2.out #[.int .i64 x,.int .i64 y] rfl _ und_56 rfl info_56 (kk _ _ (by simp) rfl trivial rfl)
    ·intro a u vs K dn hb hb2 hj KE DE _ kk
     subst hj
     have e1:=KE 1 (by decide)
     have cb:=HB2.out
     go_simp;exact kk _ _ (by simp) rfl trivial rfl
    ·intro a u vs K dn hb hb2 hj KE DE _ kk
     have e3:=KE 3 (by decide)
     subst hj
     go_simp;exact kk _ _ (by simp) rfl trivial rfl
    ·intro a u vs K dn hb hb2 hj KE DE _ kk
     have e15:=dep (DE 3 _ 15 rfl rfl rfl)
     subst hj
     go_simp;exact kk _ _ (by simp) rfl trivial rfl
    ·intro a u vs K dn hb hb2 hj KE DE _ kk
     subst hj
     have e1:=KE 1 (by decide)
     have cb:=HB2.out
     go_simp;exact kk _ _ (by simp) rfl trivial rfl
    ·intro a u vs K dn hb hb2 hj KE DE _ kk
     have e17:=dep (DE 5 _ 17 rfl rfl rfl)
     subst hj
     go_simp;exact kk _ _ (by simp) rfl trivial rfl
    ·intro a u vs K dn hb hb2 hj KE DE _ kk
     have e16:=dep (DE 4 _ 16 rfl rfl rfl)
     have e18:=dep (DE 6 _ 18 rfl rfl rfl)
     subst hj
     go_simp
     exact kk _ _ (by simp) rfl trivial rfl
    ·intro a u vs K dn hb hb2 hj KE DE _ kk
     have e14:=dep (DE 2 _ 14 rfl rfl rfl)
     have e19:=dep (DE 7 _ 19 rfl rfl rfl)
     subst hj
     go_simp;exact kk _ _ (by simp) rfl trivial rfl
    ·intro a u vs K dn hb hb2 hj KE DE _ kk
     subst hj
     have e20:=dep (DE 8 _ 20 rfl rfl rfl)
     exact wpo_loadS 56 (.tmp 20) rfl g (off+q * 2) (by simpa [Act.eval] using e20) #[.int .i64 x',.int .i64 y'] _ HS2.out und_56 rfl info_56 (kk _ _ (by simp) rfl trivial rfl)
   ·obtain ⟨fn,tmps,assign,body,hy,hR⟩:=HYY.out V2.drew (HJW.out _ HF2.out.drop.drew)
    have hk2:KeepL [Bs,g] W V2.drew:=fun b hb=>by
     have h1:=HKL.out b hb
     refine (HF2.out.drop.toBelow.block b ?_).trans h1
     simp only [List.mem_cons,List.not_mem_nil,or_false] at hb
     rcases hb with rfl | rfl
     ·exact HBW0.out
     ·exact HGW.out
    have HK2:=Lib.hid hk2
    clear hk2 HS2 HB2 HP2
    change wpAnyIn Fence.wide 5 Tryz.prog .any _ _ (0+1+1) _ _ _
    refine wpAnyIn_one (i:=10) (by kernel_rfl) rfl rfl ?_
    refine wpIn_yield (.tmp 12) #[.tmp 13,.tmp 21] #[56,56] rfl (by kernel_rfl) #[.agg #[.int .i64 x,.int .i64 y],.agg #[.int .i64 x',.int .i64 y']] (by kernel_rfl) hy ?_
    refine hR.mono ?_
    clear hy hR
    rintro e W3 hb3
    have hb4:∃ b,e=.returned (.bool b)∧Hid ((b=true∧J (ys ++ [⟨k,hlt⟩]) W3∧KeepL [Bs,g] W W3) ∨ (b=false∧Jx (ys ++ [⟨k,hlt⟩]) W3)):=by
     rcases hb3 with ⟨h1,h2,h3⟩ | ⟨h1,h2⟩
     ·exact ⟨true,h1,Lib.hid (.inl ⟨rfl,h2,HK2.out.trans h3⟩)⟩
     ·exact ⟨false,h1,Lib.hid (.inr ⟨rfl,h2⟩)⟩
    obtain ⟨b,rfl,hb5⟩:=hb4
    clear hb3 HK2 HKL
    refine ⟨_,rfl,?_⟩
    refine wpAnyIn_one (i:=11) (by kernel_rfl) rfl rfl ?_
    refine Oper.wpIn_wide (Q1:=fun _ _ _=>False) 5 (fun _ _ _ _ h=>h.elim) (fun _ _ h=>h) ?_
    simp only [List.take_succ_cons,List.take_zero,putAll,Act.put,List.setIfInBounds_toArray,List.set_cons_zero,List.set_cons_succ,Nat.reduceAdd,Nat.zero_add]
    go_simp
    refine ⟨by kernel_rfl,?_⟩
    cases b with
    | true =>
     have hb4:J (ys ++ [⟨k,hlt⟩]) W3∧KeepL [Bs,g] W W3:=by
      rcases hb5.out with ⟨_,h3,h4⟩ | ⟨h3,_⟩
      ·exact ⟨h3,h4⟩
      ·cases h3
     have HB4:=Lib.hid hb4
     clear hb4
     gi_wp2
     go_roundw
     case rel=>exact ⟨k+1,_,by have:=HLT.out;omega,by go_num,Lib.hid ⟨HTK.out,HB4.out.1,HB4.out.2⟩⟩
     case measure=>simp [intOf];omega
    | false =>
     gi_wp2
     refine bodyPost_ret (results_none rfl _ _ _) rfl ⟨⟨_,rfl⟩,.inr ⟨ys ++ [⟨k,hlt⟩],?_,?_,?_⟩⟩
     ·rw [HTK.out]
      have:List.range (k+1)=(List.range n).take (k+1):=by rw [List.take_range];congr 1;have:=HLT.out;omega
      rw [this];exact List.take_prefix _ _
     ·simp
     ·rcases hb5.out with ⟨h3,_⟩ | ⟨_,h3⟩
      ·cases h3
      ·exact h3
  ·obtain rfl:k=n:=by omega
   have hneg:¬ (k:Int)<(k:Int):=by omega
   gi_wp2
   go_end0
   exact ⟨⟨_,rfl⟩,.inl ⟨ys,hs'.out.1,hs'.out.2.1⟩⟩
theorem edges_stops (Bs g off n c:Nat) (v:Nat→SpotD) (hn:n≤4096) (hb:Bs ≠ g) (w:World) (hbs:Bk w Bs 25 #[.slice (some ⟨g,off,none⟩) n c]) (hg:g<w.heap.size) (hc:∀ i,i<n→w.cell? ⟨g,off+i * 2,none⟩=some (.int .i64 (v i).x)∧w.cell? ⟨g,off+i * 2+1,none⟩=some (.int .i64 (v i).y)) :
  SeqStopsK Fence.wide 5 Tryz.prog 147 #[.pointer (some ⟨Bs,0,none⟩)] (fun x:Fin n=>#[spotV (v x.val),spotV (v ((x.val+1) % n))]) (KeepL [Bs,g])
   (fun ys=>Fin.vals ys=List.range n) (fun pre=>Fin.vals pre <+: List.range n∧pre ≠ []) n w:=fun l J Jx W hW hJ _ hY h0=>by
 have hk:KeepL [Bs,g] w W:=KeepL.below hW (by have:=hbs.lt;simp;exact ⟨this,hg⟩)
 refine (edges_in l Bs g off n c v hn hb J Jx W hJ hY ((hk Bs (by simp)).trans hbs) (Nat.lt_of_lt_of_le hg hW.size) (fun i hi=>⟨(hk.cell (p:=⟨g,off+i * 2,none⟩) (by simp)).trans (hc i hi).1,(hk.cell (p:=⟨g,off+i * 2+1,none⟩) (by simp)).trans (hc i hi).2⟩) h0).mono ?_
 rintro e W' ⟨he,⟨ys,h1,h2⟩ | ⟨pre,h1,h2,h3⟩⟩
 ·exact ⟨he,.inl ⟨ys,h1,h2⟩⟩
 ·exact ⟨he,.inr ⟨pre,⟨h1,h2⟩,h3⟩⟩
theorem edges_any (A:Option Addr) (n c:Nat) (w:World) :
  Calls Tryz.prog 85 #[.slice A n c] w fun e w'=>e=.returned (.func (.func 147) #[] #[.pointer (some ⟨w.heap.size,0,none⟩)])∧w'=w.alloc (.cells #[.slice A n c] 25):=by
 go_enter Tryz.func85,Tryz.ntmps85
 go_wp2_with fail
 go_ret
 exact ⟨by simp,rfl⟩

theorem wpo_callC {P:Program} {o:Oper} {a:Act} {w:World} {K:Act→World→Prop} {Q:Exit→Act→World→Prop} (f:Nat) (caps:Array Value) (x:Operand) (xs:Array Operand) (ts:Array TypeId) (ho:o.op=.call { callee:=.value x,args:=xs,argTypes:=ts }) (hv:a.eval x=.func (.func f) #[] caps) (vs:Array Value) (hx:xs.map a.eval=vs)
  (eg:∀ args w,(callFunc f args).run P w=.ok (.enter f args) w) (h:Calls P f (vs ++ caps) w fun e w'=>∃ v,e=.returned v∧K (a.put o.dst v) w'):o.wp P a w K Q:=by
 unfold Oper.wp execOp
 simp only [ho,resolve,hx,hv,Deferred.ofValue,Sem.run_bind,Sem.run_pure,Result.andThen_ok,invoke]
 simp [eg,Oper.upon]
 refine h.mono ?_
 rintro e w' ⟨v,rfl,hk⟩
 exact hk
theorem wpLoadC {P:Program} {ops:Array Oper} {rest:List Oper} {o:Oper} {a:Act} {w:World} {Q:Exit→Act→World→Prop} (hgd:o.guard=none) (ty:TypeId) (x:Operand) (ho:o.op=.load ty x)
  (g off:Nat) (hx:a.eval x=.pointer (some ⟨g,off,none⟩)) (S:Array Value) (d:TypeDesc) (hc:∀ j u,S[j]?=some u→w.cell? ⟨g,off+j,none⟩=some u)
  (hu:P.underlying ty=some d) (hd:(match d with | .struct _ | .array _ _=>true | _=>false)=true) (hi:(P.info? ty).map (·.size)=some S.size)
  (h:wpList P ops Q rest (a.put o.dst (.agg S)) w):wpList P ops Q (o :: rest) a w :=
 wpList_plain hgd fun _ hK=>wpo_loadS ty x ho g off hx S d hc hu hd hi (hK _ _ h)
/-- Places in memory. -/
def SpAt (w:World) (g off n:Nat) (v:Nat→SpotD):Prop:=g<w.heap.size∧∀ i,i<n→w.cell? ⟨g,off+i * 2,none⟩=some (.int .i64 (v i).x)∧w.cell? ⟨g,off+i * 2+1,none⟩=some (.int .i64 (v i).y)
theorem SpAt.below {w w':World} {g off n:Nat} {v:Nat→SpotD} (h:SpAt w g off n v) (hb:Below w.heap.size w w'):SpAt w' g off n v :=
 ⟨Nat.lt_of_lt_of_le h.1 hb.size,fun i hi=>⟨(hb.cell (p:=⟨g,off+i * 2,none⟩) h.1).trans (h.2 i hi).1,(hb.cell (p:=⟨g,off+i * 2+1,none⟩) h.1).trans (h.2 i hi).2⟩⟩
theorem SpAt.keep {w w':World} {g off n:Nat} {v:Nat→SpotD} {Ks:List Nat} (h:SpAt w g off n v) (hk:KeepL Ks w w') (hg:g ∈ Ks):SpAt w' g off n v:=by
 refine ⟨?_,fun i hi=>⟨(hk.cell (p:=⟨g,off+i * 2,none⟩) hg).trans (h.2 i hi).1,(hk.cell (p:=⟨g,off+i * 2+1,none⟩) hg).trans (h.2 i hi).2⟩⟩
 have h1:=hk g hg
 rw [Array.getElem?_eq_getElem h.1] at h1
 exact (Array.getElem?_eq_some_iff.1 h1).1
theorem SpAt.cells {w:World} {g off n:Nat} {v:Nat→SpotD} (h:SpAt w g off n v) {i:Nat} (hi:i<n):∀ j u,(#[Value.int .i64 (v i).x,.int .i64 (v i).y])[j]?=some u→w.cell? ⟨g,off+i * 2+j,none⟩=some u:=fun j u hj=>by
 match j,hj with
 | 0,hj=>simp at hj;subst hj;exact (h.2 i hi).1
 | 1,hj=>simp at hj;subst hj;exact (h.2 i hi).2
 | j+2,hj=>simp at hj
theorem index142_any (fid:Nat) (caps:Array Value) (g off n c:Nat) (v:Nat→SpotD) (H:Nat→Prop) (hn:n≤4096) (eg:∀ args w,(callFunc fid args).run Tryz.prog w=.ok (.enter fid args) w) (w:World) (hs:SpAt w g off n v)
  (hC:∀ k,k<n→∀ w',Below w.heap.size w w'→Calls Tryz.prog fid (#[spotV (v k)] ++ caps) w' fun e w''=>(∃ b,e=.returned (.bool b)∧(b=false→H k))∧Below w'.heap.size w' w'') :
  Calls Tryz.prog 142 #[.slice (some ⟨g,off,none⟩) n c,.func (.func fid) #[] caps] w fun e w'=>(∃ r:Int,e=.returned (.int .i64 r)∧(r<0→∀ k,k<n→H k))∧Below w.heap.size w w':=by
 obtain ⟨PQ,hPQ⟩:∃ Q:Ending→World→Prop,(fun e w'=>(∃ r:Int,e=.returned (.int .i64 r)∧(r<0→∀ k,k<n→H k))∧Below w.heap.size w w')=Q:=⟨_,rfl⟩
 have HFIN:Hid (∀ w' (r:Int),(r<0→∀ k,k<n→H k)→Below w.heap.size w w'→PQ (.returned (.int .i64 r)) w'):=Lib.hid fun w' r h hb=>by rw [← hPQ];exact ⟨⟨r,rfl,h⟩,hb⟩
 rw [hPQ]
 have HC:=Lib.hid hC
 have HS:=Lib.hid hs
 have HEG:=Lib.hid eg
 clear hPQ hC hs eg
 go_enter Tryz.func142,Tryz.ntmps142
 go_wp2_with fail
 go_loopw [8] (fun p wr=>∃ k:Nat,k≤n∧p=.int .i64 (k:Int)∧Hid (Below w.heap.size w wr∧∀ j,j<k→H j)) (fun p _=>n - (intOf p).toNat)
 case atStart=>exact ⟨0,Nat.zero_le _,rfl,Lib.hid ⟨Below.refl _ _,fun j h=>absurd h (by omega)⟩⟩
 case round =>
  obtain ⟨k,hk,rfl,hs⟩:=hrel
  by_cases hlt:k<n
  ·have hki:(k:Int)<(n:Int):=by omega
   have h0k:(0:Int)≤(k:Int):=by omega
   have HSC:=Lib.hid ((HS.out.below hs.out.1).cells hlt)
   have HCK:=Lib.hid (HC.out k hlt wr hs.out.1)
   obtain ⟨⟨x,y⟩,hv⟩:∃ z,v k=z:=⟨_,rfl⟩
   rw [hv] at HSC HCK
   unfold spotV at HCK
   dsimp only at HSC HCK
   have HLT:=Lib.hid hlt
   have heg:=HEG.out
   go_wp2_with (refine wpLoadC rfl 56 _ rfl g (off+k * 2) rfl #[.int .i64 x,.int .i64 y] _ HSC.out und_56 rfl info_56 ?_)
   clear heg
   refine HCK.out.mono ?_
   rintro e w2 ⟨⟨b,rfl,hb⟩,hw⟩
   have HB2:=Lib.hid (hs.out.1.trans (hw.mono hs.out.1.size))
   cases b with
   | true =>
    go_wp2_with fail
    exact HFIN.out _ _ (fun h=>absurd h (by omega)) HB2.out
   | false =>
    have HH:Hid (∀ j,j<k+1→H j):=Lib.hid fun j hj=>by
     rcases Nat.lt_or_ge j k with h | h
     ·exact hs.out.2 j h
     ·rw [show j=k by omega];exact hb rfl
    clear hb hw
    go_wp2_with fail
    go_roundw
    case rel=>exact ⟨k+1,by have:=HLT.out;omega,by go_num,Lib.hid ⟨HB2.out,HH.out⟩⟩
    case measure=>simp [intOf];omega
  ·obtain rfl:k=n:=by omega
   have hneg:¬ (k:Int)<(k:Int):=by omega
   go_wp2_with fail
   exact HFIN.out _ _ (fun _=>hs.out.2) hs.out.1
theorem cont79_any (fid:Nat) (caps:Array Value) (g off n c:Nat) (v:Nat→SpotD) (H:Nat→Prop) (hn:n≤4096) (eg:∀ args w,(callFunc fid args).run Tryz.prog w=.ok (.enter fid args) w) (w:World) (hs:SpAt w g off n v)
  (hC:∀ k,k<n→∀ w',Below w.heap.size w w'→Calls Tryz.prog fid (#[spotV (v k)] ++ caps) w' fun e w''=>(∃ b,e=.returned (.bool b)∧(b=false→H k))∧Below w'.heap.size w' w'') :
  Calls Tryz.prog 79 #[.slice (some ⟨g,off,none⟩) n c,.func (.func fid) #[] caps] w fun e w'=>(∃ b,e=.returned (.bool b)∧(b=false→∀ k,k<n→H k))∧Below w.heap.size w w':=by
 have H1:=Lib.hid (index142_any fid caps g off n c v H hn eg w hs hC)
 obtain ⟨PQ,hPQ⟩:∃ Q:Ending→World→Prop,(fun e w'=>(∃ b,e=.returned (.bool b)∧(b=false→∀ k,k<n→H k))∧Below w.heap.size w w')=Q:=⟨_,rfl⟩
 have HFIN:Hid (∀ w' b,(b=false→∀ k,k<n→H k)→Below w.heap.size w w'→PQ (.returned (.bool b)) w'):=Lib.hid fun w' b h hb=>by rw [← hPQ];exact ⟨⟨b,rfl,h⟩,hb⟩
 rw [hPQ]
 clear hPQ hC hs eg hn
 go_enter Tryz.func79,Tryz.ntmps79
 go_wp2_with fail
 refine H1.out.mono ?_
 rintro e w2 ⟨⟨r,rfl,hr⟩,hw⟩
 have HR:=Lib.hid hr
 have HW:=Lib.hid hw
 clear hr hw
 by_cases h0:0≤r
 ·go_wp2_with fail
  exact HFIN.out _ _ (fun h=>by cases h) HW.out
 ·go_wp2_with fail
  exact HFIN.out _ _ (fun _=>HR.out (by omega)) HW.out
end Go.Proofs.YtmkoegljnebdiaaGreat
namespace Go.Proofs.YtmkoegljnebdiaaGreat
open Go.RowKit Go.Shelf
set_option maxRecDepth 100000
set_option maxHeartbeats 16000000
attribute [local go_sem] Oper.semAt_some

theorem und_27:Tryz.prog.underlying 27=some (.struct (match Tryz.prog.underlying 27 with | some (.struct f)=>f | _=>#[])):=by kernel_rfl
theorem info_27:(Tryz.prog.info? 27).map (·.size)=some 2:=by kernel_rfl
theorem und_4:Tryz.prog.underlying 4=some (match Tryz.prog.underlying 4 with | some d=>d | none=>.string):=by kernel_rfl
theorem results_c1 {P:Program} {fn:Func} {q:Tmp} {ty2:TypeId} (h:fn.results=#[.cell q ty2]) (tmps:Array Value) (w:World) (k:Nat) (t':TypeId) (u:Value) (d2:TypeDesc)
  (hq:tmps.getD q undef=.pointer (some ⟨k,0,none⟩)) (hk2:Bk w k t' #[u])
  (hu2:P.underlying ty2=some d2) (hd2:(match d2 with | .struct _ | .array _ _=>true | _=>false)=false) :
  (results fn tmps).run P w=.ok u w:=by
 have hq':tmps[q]?.getD undef=.pointer (some ⟨k,0,none⟩):=by simpa using hq
 have hc:w.cell? ⟨k,0,none⟩=some u:=hk2.cell 0
 have hagg:(isAgg ty2).run P w=.ok false w:=by
  unfold isAgg
  rw [Sem.run_bind,run_underlying hu2 w]
  cases d2 <;> simp_all
 have hl2:(loadVar ty2 ⟨k,0,none⟩).run P w=.ok u w:=by
  simp [loadVar,Sem.run_bind,hagg,go_sem,hc]
 simp [results,h,hq',asAddr,hl2]
theorem edges_fr (A:Option Addr) (n c:Nat) (w:World):Calls Tryz.prog 85 #[.slice A n c] w fun e w'=>∃ B,e=.returned (.func (.func 147) #[] #[.pointer (some ⟨B,0,none⟩)])∧Fr w [] [(B,25,#[.slice A n c])] w' :=
 (edges_any A n c w).mono fun e w' h=>⟨_,h.1,by rw [h.2];exact (Fr.start w).alloc rfl 25 #[.slice A n c]⟩
theorem contains_any (N0:Value) (g off n c:Nat) (v:Nat→SpotD) (s:SpotD) (hn:n≤4096) (hv:∀ i,i<n→spotOk (v i)) (hs:spotOk s) (w:World) (hsp:SpAt w g off n v) :
  Calls Tryz.prog 38 #[.agg #[N0,.slice (some ⟨g,off,none⟩) n c],spotV s] w fun e w'=>(∃ b,e=.returned (.bool b)∧(b=true→∀ k,k<n→0≤leftI (v k) (v ((k+1) % n)) s))∧Below w.heap.size w w':=by
 obtain ⟨PQ,hPQ⟩:∃ Q:Ending→World→Prop,(fun e w'=>(∃ b,e=.returned (.bool b)∧(b=true→∀ k,k<n→0≤leftI (v k) (v ((k+1) % n)) s))∧Below w.heap.size w w')=Q:=⟨_,rfl⟩
 have HFIN:Hid (∀ w' b,(b=true→∀ k,k<n→0≤leftI (v k) (v ((k+1) % n)) s)→Fr w [] [] w'→PQ (.returned (.bool b)) w'):=Lib.hid fun w' b h hb=>by rw [← hPQ];exact ⟨⟨b,rfl,h⟩,hb.toBelow⟩
 rw [hPQ]
 have HSP:=Lib.hid hsp
 have HV:=Lib.hid hv
 have HS:=Lib.hid hs
 have HN:=Lib.hid hn
 obtain ⟨F,hF⟩:∃ F:SpotD→SpotD→Int,(fun a b=>leftI a b s)=F:=⟨_,rfl⟩
 have HF:Hid (∀ a b,leftI a b s=F a b):=Lib.hid fun a b=>by rw [← hF]
 have HLF:=Lib.hid (fun a b ha hb w=>left_any a b s ha hb HS.out w)
 simp only [HF.out] at HFIN HLF
 obtain ⟨sx,sy⟩:=s
 unfold spotV at HLF ⊢
 dsimp only at HLF ⊢
 clear hPQ hsp hv hs hn hF
 refine (callsIn_wide (n:=6)).1 ?_
 refine callsIn_of_wp_marks Tryz.func38 rfl trivial ?_ rfl
 simp only [Tryz.ntmps38,List.size_toArray,List.length_cons,List.length_nil,Nat.reduceAdd,Nat.reduceSub,Array.replicate_succ,Array.replicate_zero,List.push_toArray,List.append_toArray,List.nil_append,List.cons_append]
 refine wpIn_wide.2 ?_
 obtain ⟨qb,hqb⟩:∃ qb,w.heap.size=qb:=⟨_,rfl⟩
 obtain ⟨W0,hW0⟩:∃ W0,((w.alloc (.cells #[N0,.slice (some ⟨g,off,none⟩) n c] 27)).alloc (.cells #[.int .i64 sx,.int .i64 sy] 56)).alloc (.cells #[.bool false] 4)=W0:=⟨_,rfl⟩
 have HF0:Hid (Fr w [] [(qb,27,#[N0,.slice (some ⟨g,off,none⟩) n c]),(qb+1,56,iC [sx,sy]),(qb+1+1,4,#[.bool false])] W0):=Lib.hid (by rw [← hW0];exact (((Fr.start w).alloc (by simp [← hqb]) 27 #[N0,.slice (some ⟨g,off,none⟩) n c]).alloc (by simp [← hqb]) 56 #[.int .i64 sx,.int .i64 sy]).alloc (by simp [← hqb]) 4 #[.bool false])
 go_upto_region 1 with (fail)
 clear hW0 hqb
 have c1:W0.cell? ⟨qb,1,none⟩=some (.slice (some ⟨g,off,none⟩) n c):=(HF0.out.get 0 rfl).cell 1
 go_wp2_with fail
 clear c1
 refine (edges_fr _ _ _ _).mono ?_
 rintro e w2 ⟨Bs,rfl,hw⟩
 have HF3:=Lib.hid (HF0.out.more hw)
 clear hw
 have hws:w.heap.size≤w2.heap.size:=HF3.out.size
 have HS0:=Lib.hid (HSP.out.below HF3.out.toBelow)
 have HKB:Hid (∀ x,x ∈ [Bs,g]→x<w2.heap.size):=Lib.hid fun x hx=>by
  simp only [List.mem_cons,List.not_mem_nil,or_false] at hx
  rcases hx with rfl | rfl
  ·exact (HF3.out.get 3 rfl).lt
  ·exact HS0.out.1
 have HBG:Bs ≠ g:=fun e=>by
  have h1:=HF3.out.ge 3 rfl
  have h2:=HSP.out.1
  omega
 have HSTOP:=Lib.hid (edges_stops Bs g off n c v HN.out HBG w2 (HF3.out.get 3 rfl) HS0.out.1 HS0.out.2)
 obtain ⟨IB,hIB⟩:∃ I:List (Fin n)→World→Prop,(fun pre W=>(∀ z ∈ pre,0≤F (v z.val) (v ((z.val+1) % n)))∧Fr w [] [(qb,27,#[N0,.slice (some ⟨g,off,none⟩) n c]),(qb+1,56,#[.int .i64 sx,.int .i64 sy]),(qb+1+1,4,#[.bool false]),(Bs,25,#[.slice (some ⟨g,off,none⟩) n c])] W)=I:=⟨_,rfl⟩
 have HI:Hid (∀ pre W,IB pre W ↔ ((∀ z ∈ pre,0≤F (v z.val) (v ((z.val+1) % n)))∧Fr w [] [(qb,27,#[N0,.slice (some ⟨g,off,none⟩) n c]),(qb+1,56,#[.int .i64 sx,.int .i64 sy]),(qb+1+1,4,#[.bool false]),(Bs,25,#[.slice (some ⟨g,off,none⟩) n c])] W)):=Lib.hid fun pre W=>by rw [← hIB]
 have HOI:Hid (OwnFrom w2.heap.size IB):=Lib.hid (by
  rw [← hIB]
  rintro pre A B row ⟨h1,h2⟩ hgr hr
  exact ⟨h1,h2.turned hws hgr hr⟩)
 obtain ⟨Ix,hIx⟩:∃ Ix:Code→List (Fin n)→World→Prop,(fun cd pre W=>cd=.ret∧(True)∧Fr w [] [(qb,27,#[N0,.slice (some ⟨g,off,none⟩) n c]),(qb+1,56,#[.int .i64 sx,.int .i64 sy]),(qb+1+1,4,#[.bool false]),(Bs,25,#[.slice (some ⟨g,off,none⟩) n c])] W)=Ix:=⟨_,rfl⟩
 have HIX:Hid (∀ cd pre W,Ix cd pre W ↔ (cd=.ret∧(True)∧Fr w [] [(qb,27,#[N0,.slice (some ⟨g,off,none⟩) n c]),(qb+1,56,#[.int .i64 sx,.int .i64 sy]),(qb+1+1,4,#[.bool false]),(Bs,25,#[.slice (some ⟨g,off,none⟩) n c])] W)):=Lib.hid fun cd pre W=>by rw [← hIx]
 have HOX:Hid (∀ cd,OwnFrom w2.heap.size (Ix cd)):=Lib.hid fun cd=>by
  rw [← hIx]
  rintro pre A B row ⟨h0,h1,h2⟩ hgr hr
  exact ⟨h0,h1,h2.turned hws hgr hr⟩
 have HKW:Hid (∀ b ∈ [Bs,g],∀ {W:World} {N:List Ent},Fr w [] N W→(∃ cs,(Bs,25,cs) ∈ N)→b<W.heap.size):=Lib.hid fun b hb W N hf hm=>by
  simp only [List.mem_cons,List.not_mem_nil,or_false] at hb
  rcases hb with rfl | rfl
  ·obtain ⟨cs,hm⟩:=hm;exact (hf.new _ hm).2.lt
  ·exact Nat.lt_of_lt_of_le HSP.out.1 hf.size
 obtain ⟨Ax,hAx⟩:∃ Ax:Fin n→Act→World→Prop,(fun x a' W=>∃ gx gy,a'=⟨#[.agg #[N0,.slice (some ⟨g,off,none⟩) n c],.agg #[.int .i64 sx,.int .i64 sy],.pointer (some ⟨qb,0,none⟩),.pointer (some ⟨qb+1,0,none⟩),.pointer (some ⟨qb+1+1,0,none⟩),.pointer (some ⟨gx,0,none⟩),.pointer (some ⟨gy,0,none⟩),.pointer (some ⟨qb,1,none⟩),.slice (some ⟨g,off,none⟩) n c,.func (.func 147) #[] #[.pointer (some ⟨Bs,0,none⟩)],spotV (v x.val),spotV (v ((x.val+1) % n)),undef,undef,undef,undef,undef],[]⟩∧Bk W gx 56 #[.int .i64 (v x.val).x,.int .i64 (v x.val).y]∧Bk W gy 56 #[.int .i64 (v ((x.val+1) % n)).x,.int .i64 (v ((x.val+1) % n)).y]∧gx ∉ [qb+1+1]∧gy ∉ [qb+1+1])=Ax:=⟨_,rfl⟩
 have HAX:Hid (∀ x a' W,Ax x a' W ↔ (∃ gx gy,a'=⟨#[.agg #[N0,.slice (some ⟨g,off,none⟩) n c],.agg #[.int .i64 sx,.int .i64 sy],.pointer (some ⟨qb,0,none⟩),.pointer (some ⟨qb+1,0,none⟩),.pointer (some ⟨qb+1+1,0,none⟩),.pointer (some ⟨gx,0,none⟩),.pointer (some ⟨gy,0,none⟩),.pointer (some ⟨qb,1,none⟩),.slice (some ⟨g,off,none⟩) n c,.func (.func 147) #[] #[.pointer (some ⟨Bs,0,none⟩)],spotV (v x.val),spotV (v ((x.val+1) % n)),undef,undef,undef,undef,undef],[]⟩∧Bk W gx 56 #[.int .i64 (v x.val).x,.int .i64 (v x.val).y]∧Bk W gy 56 #[.int .i64 (v ((x.val+1) % n)).x,.int .i64 (v ((x.val+1) % n)).y]∧gx ∉ [qb+1+1]∧gy ∉ [qb+1+1])):=Lib.hid fun x a' W=>by rw [← hAx]
 have HOA:Hid (∀ x a',OwnFrom w2.heap.size (fun (_:Unit) W=>Ax x a' W)):=Lib.hid fun x a'=>by
  rw [← hAx]
  rintro _ A B row ⟨gx,gy,h1,h2,h3,h4⟩ hgr hr
  exact ⟨gx,gy,h1,h2.turned hgr fun r e=>(hr r e).2,h3.turned hgr fun r e=>(hr r e).2,h4⟩
 clear hIB hIx hAx
 have H0I:Hid (IB [] w2):=Lib.hid ((HI.out _ _).2 ⟨fun x hx=>absurd hx (by simp),HF3.out⟩)
 go_wp2_with fail
 refine (wpIn_wide (n:=6)).1 ?_
 refine wpIn_rangeFunc_ownH (n:=6) rfl (by decide) (gf:=147) rfl trivial (enters_of Tryz.func147 (by kernel_rfl) rfl) HSTOP.out KeepL.trans (keepL_b HKB.out) (Below.refl _ _) (fun _=>rfl)
  IB Ix HOI.out HOX.out H0I.out Ax HOA.out ?assign ?body ?done ?stop
 case assign =>
  intro l pre x W K hIW hK
  have HFW:Hid (Fr W [] [] W):=Lib.hid (Fr.start W)
  have HIW:=Lib.hid hIW
  have HK:=Lib.hid hK
  unfold spotV at HAX ⊢
  dsimp only at HAX ⊢
  have hax:=HAX.out x
  obtain ⟨px,hpx⟩:∃ z,(v x.val).x=z:=⟨_,rfl⟩
  obtain ⟨py,hpy⟩:∃ z,(v x.val).y=z:=⟨_,rfl⟩
  obtain ⟨qx,hqx⟩:∃ z,(v ((x.val+1) % n)).x=z:=⟨_,rfl⟩
  obtain ⟨qy,hqy⟩:∃ z,(v ((x.val+1) % n)).y=z:=⟨_,rfl⟩
  rw [hpx,hpy,hqx,hqy] at hax ⊢
  have HAY:=Lib.hid hax
  clear hIW hK hax hpx hpy hqx hqy HAX
  obtain ⟨g201,hg201⟩:∃ g,W.heap.size=g:=⟨_,rfl⟩
  obtain ⟨w201,hw201⟩:∃ u,W.alloc (.cells #[.int .i64 0,.int .i64 0] 56)=u:=⟨_,rfl⟩
  have HF202:=Lib.hid (frE hw201 (HFW.out.alloc hg201.symm 56 #[.int .i64 0,.int .i64 0]))
  gi_wp2_with (first
    | (refine wpStoreFI rfl rfl 56 _ _ rfl g201 0 rfl #[.int .i64 px,.int .i64 py] rfl _ _ (iC [px,py]) (HF202.out.get 0 rfl) rfl (by show 0+2≤2;omega) (one_all rfl) info_56 ?_;intro w203 hk ho;clear hw201 hg201;have HF204:=Lib.hid (HF202.out.only 0 rfl ho hk);clear ho hk;obtain ⟨g205,hg205⟩:∃ g,w203.heap.size=g:=⟨_,rfl⟩;obtain ⟨w205,hw205⟩:∃ u,w203.alloc (.cells #[.int .i64 0,.int .i64 0] 56)=u:=⟨_,rfl⟩;have HF206:=Lib.hid (frE hw205 (HF204.out.alloc hg205.symm 56 #[.int .i64 0,.int .i64 0])))
    | (refine wpStoreFI rfl rfl 56 _ _ rfl g205 0 rfl #[.int .i64 qx,.int .i64 qy] rfl _ _ (iC [qx,qy]) (HF206.out.get 1 rfl) rfl (by show 0+2≤2;omega) (one_all rfl) info_56 ?_;intro w207 hk ho;clear hw205 hg205;have HF208:=Lib.hid (HF206.out.only 1 rfl ho hk);clear ho hk))
  have hb:=HF208.out.toBelow
  obtain ⟨hi1,hi2⟩:=(HI.out _ _).1 HIW.out
  have hno:∀ q,W.heap.size≤q→q ∉ [qb+1+1]:=fun q hq hm=>by
   simp only [List.mem_cons,List.not_mem_nil,or_false] at hm
   have e2:=(hi2.get 2 rfl).lt
   omega
  exact HK.out _ _ ((HF208.out.keepsOthers (by simp)).from _) (HF208.out.keepL fun b hb=>⟨HKW.out b hb hi2 ⟨_,List.mem_of_getElem? (i:=3) rfl⟩,by simp⟩) ((HI.out _ _).2 ⟨hi1,hi2.below hb⟩) ((HAY.out _ _).2 ⟨g201,g205,rfl,(HF208.out.get 0 rfl),(HF208.out.get 1 rfl),hno _ (HF208.out.ge 0 rfl),hno _ (HF208.out.ge 1 rfl)⟩)
 case body =>
  intro l pre x a' W hDl hrec hIW hAx hpl
  obtain ⟨gx,gy,rfl,hgx,hgy,hxo,hyo⟩:=(HAX.out _ _ _).1 hAx
  obtain ⟨h1,h2⟩:=(HI.out _ _).1 hIW
  obtain ⟨PB,hPB⟩:∃ Q,ownPostG w2.heap.size (KeepL [Bs,g]) IB Ix (pre ++ [x]) W=Q:=⟨_,rfl⟩
  have hkeys:∀ b ∈ [Bs,g],b<W.heap.size∧b ∉ [qb+1+1]:=fun b hb=>by
   have e2:=h2.ge 2 rfl
   have hnd:=h2.ndN
   simp only [List.map_cons,List.map_nil,List.nodup_cons,List.mem_cons,List.not_mem_nil,or_false,not_or] at hnd
   simp only [List.mem_cons,List.not_mem_nil,or_false] at hb ⊢
   have hG:=HSP.out.1
   have hB:=(h2.get 3 rfl).lt
   have hs:=h2.size
   rcases hb with rfl | rfl <;> (refine ⟨by omega,?_⟩;omega)
  have hoth:∀ {O':List Ent},O'.map (·.1)=[qb+1+1]→∀ y ∈ O',∃ t cs,Bk W y.1 t cs:=fun {O'} ho y hy=>by
   have hm:y.1 ∈ O'.map (·.1):=List.mem_map.2 ⟨y,hy,rfl⟩
   rw [ho] at hm
   generalize y.1=b at hm
   simp only [List.mem_cons,List.not_mem_nil,or_false] at hm
   rcases hm with rfl
   exact ⟨_,_,h2.get 2 rfl⟩
  have HEN:Hid (∀ a W',(∀ z ∈ (pre ++ [x]),0≤F (v z.val) (v ((z.val+1) % n)))→Fr W [(qb+1+1,4,#[.bool false])] [] W'→PB .normal a W'):=Lib.hid fun a W' hc hf=>by
   rw [← hPB]
   exact ⟨(hf.keepsOthers (hoth rfl)).from _,hf.keepL hkeys,(HI.out _ _).2 ⟨hc,h2.turns [false,false,true,false] hf ⟨rfl,trivial⟩⟩⟩
  have HER:Hid (∀ a W',(True)→Fr W [(qb+1+1,4,#[.bool false])] [] W'→PB .ret a W'):=Lib.hid fun a W' hc hf=>by
   rw [← hPB]
   exact ⟨(hf.keepsOthers (hoth rfl)).from _,(HIX.out _ _ _).2 ⟨rfl,hc,h2.turns [false,false,true,false] hf ⟨rfl,trivial⟩⟩⟩
  have HC:=Lib.hid h1
  have HSW:=Lib.hid (HSP.out.below h2.toBelow)
  have HXL:=Lib.hid x.isLt
  have HPL:=Lib.hid hpl
  rw [hPB]
  have HFB:Hid (Fr W [(qb+1+1,4,#[.bool false])] [] W):=Lib.hid (Fr.startL (fun y hy=>by
   simp only [List.mem_cons,List.not_mem_nil,or_false] at hy
   rcases hy with rfl
   ·exact h2.get 2 rfl) (by have hnd:=h2.ndN;simp only [List.map_cons,List.map_nil,List.nodup_cons,List.mem_cons,List.not_mem_nil,or_false,not_or] at hnd;simp;try omega))
  have HGX:=Lib.hid hgx
  have HGY:=Lib.hid hgy
  have HXO:=Lib.hid hxo
  have HYO:=Lib.hid hyo
  clear hxo hyo
  have HT0:=Lib.hid (h2.get 0 rfl)
  have HT1:=Lib.hid (h2.get 1 rfl)
  have HT3:=Lib.hid (h2.get 3 rfl)
  have hva:=HV.out x.val HXL.out
  have hvb:=HV.out ((x.val+1) % n) (Nat.mod_lt _ (by have:=HXL.out;omega))
  have HLX:=Lib.hid (fun w=>HLF.out (v x.val) (v ((x.val+1) % n)) hva hvb w)
  have hen:0≤F (v x.val) (v ((x.val+1) % n))→∀ y ∈ pre ++ [x],0≤F (v y.val) (v ((y.val+1) % n)):=fun h y hy=>by
   rcases List.mem_append.1 hy with hy | hy
   ·exact HC.out y hy
   ·rw [List.mem_singleton] at hy;rw [hy];exact h
  have HEN2:=Lib.hid hen
  obtain ⟨fv,hfv⟩:∃ z,F (v x.val) (v ((x.val+1) % n))=z:=⟨_,rfl⟩
  rw [hfv] at HLX HEN2
  obtain ⟨⟨px,py⟩,hpx⟩:∃ z,v x.val=z:=⟨_,rfl⟩
  obtain ⟨⟨qx,qy⟩,hqx⟩:∃ z,v ((x.val+1) % n)=z:=⟨_,rfl⟩
  unfold spotV
  rw [hpx] at HLX HGX ⊢
  rw [hqx] at HLX HGY ⊢
  dsimp only at HLX HGX HGY ⊢
  clear hPB hkeys hoth hgx hgy h1 h2 hIW hAx hpl hrec hDl hva hvb hen hfv hpx hqx
  gi_wp2_with (first
    | (refine wpLoadFI rfl 56 _ rfl gx 0 rfl _ _ (show Bk _ gx 56 _ from (HFB.out.far _ HGX.out.lt HXO.out).trans HGX.out) #[.int .i64 px,.int .i64 py] rfl _ und_56 rfl info_56 ?_)
    | (refine wpLoadFI rfl 56 _ rfl gy 0 rfl _ _ (show Bk _ gy 56 _ from (HFB.out.far _ HGY.out.lt HYO.out).trans HGY.out) #[.int .i64 qx,.int .i64 qy] rfl _ und_56 rfl info_56 ?_)
    | (refine wpLoadFI rfl 56 _ rfl (qb+1) 0 rfl _ _ HT1.out #[.int .i64 sx,.int .i64 sy] rfl _ und_56 rfl info_56 ?_))
  refine ⟨trivial,?_⟩
  refine (CallsIn.inRound l (callsIn_wide.2 (HLX.out _))).mono ?_
  rintro e w301 ⟨rfl,hw⟩
  have HF302:=Lib.hid (HFB.out.below hw)
  clear hw
  by_cases hneg:fv<0
  ·
   gi_wp2_with (refine wpStoreCellI rfl rfl 4 _ _ rfl (qb+1+1) 0 rfl (.bool false) rfl _ _ (HF302.out.getO 0 rfl) (by show 0<1;omega) rfl (by kernel_rfl) ?_;intro w303 hk ho;have HF304:=Lib.hid (HF302.out.onlyO 0 rfl ho hk);clear ho hk)
   exact HER.out _ _ trivial HF304.out.drop
  ·
   gi_wp2_with fail
   exact HEN.out _ _ (HEN2.out (by omega)) HF302.out.drop
 case done =>
  intro D ys W hD hys hIW hK
  obtain ⟨h1,h2⟩:=(HI.out _ _).1 hIW
  have HFB:Hid (Fr W [(qb+1+1,4,#[.bool false])] [] W):=Lib.hid (Fr.startL (fun y hy=>by
   simp only [List.mem_cons,List.not_mem_nil,or_false] at hy
   rcases hy with rfl
   ·exact h2.get 2 rfl) (by have hnd:=h2.ndN;simp only [List.map_cons,List.map_nil,List.nodup_cons,List.mem_cons,List.not_mem_nil,or_false,not_or] at hnd;simp;try omega))
  have HKD:=Lib.hid hK
  have H2:=Lib.hid h2
  have HC:=Lib.hid h1
  have HYS:=Lib.hid hys
  have HDD:=Lib.hid hD
  have HT0:=Lib.hid (h2.get 0 rfl)
  have HT1:=Lib.hid (h2.get 1 rfl)
  have HT3:=Lib.hid (h2.get 3 rfl)
  clear hD hys hIW hK h1 h2
  have HEND:Hid (∀ W',Fr W [(qb+1+1,4,#[.bool true])] [] W'→W'.heap[D]?=some (.deferred (some []))∧PQ (.returned (.bool true)) (W'.putObj D (.deferred none))∧Bk (W'.putObj D (.deferred none)) (qb+1+1) 4 #[.bool true]):=Lib.hid fun W' hf=>by
   have hDK:W'.heap[D]?=some (.deferred (some [])):=(hf.keepsOthers (fun y hy=>by
    simp only [List.mem_cons,List.not_mem_nil,or_false] at hy
    rcases hy with rfl
    exact ⟨_,_,H2.out.get 2 rfl⟩)).same D _ HKD.out rfl
   have h6:=(H2.out.turns [false,false,true,false] hf ⟨rfl,trivial⟩).putObj (.deferred none) (Nat.le_trans HF3.out.size HDD.out) hDK rfl
   refine ⟨hDK,HFIN.out _ _ (fun _ k hk=>?_) h6.drop,h6.get 2 rfl⟩
   have hm:(⟨k,hk⟩:Fin n) ∈ ys:=by
    have h7:k ∈ Fin.vals ys:=by rw [HYS.out];exact List.mem_range.2 hk
    unfold Fin.vals at h7
    obtain ⟨z,hz,hzk⟩:=List.mem_map.1 h7
    rw [show (⟨k,hk⟩:Fin n)=z from Fin.ext hzk.symm];exact hz
   exact HC.out _ hm
  go_wp2_with (refine wpStoreCell rfl rfl 4 _ _ rfl (qb+1+1) 0 rfl (.bool true) rfl _ _ (HFB.out.getO 0 rfl) (by show 0<1;omega) rfl (by kernel_rfl) ?_;intro w401 hk ho;have HF402:=Lib.hid (HFB.out.onlyO 0 rfl ho hk);clear ho hk)
  obtain ⟨hd1,hd2,hd3⟩:=HEND.out _ HF402.out.drop
  refine ⟨by simp,.inl ⟨_,_,rfl,run_takeDeferred hd1,?_⟩⟩
  exact ⟨_,results_c1 rfl _ _ (qb+1+1) 4 _ _ rfl hd3 und_4 rfl,hd2⟩
 case stop =>
  intro D cd pre W hD hSp hIx hK
  obtain ⟨rfl,h1,h2⟩:=(HIX.out _ _ _).1 hIx
  have h6:=h2.putObj (.deferred none) (Nat.le_trans HF3.out.size hD) hK rfl
  have HKD:=Lib.hid hK
  have HH:=Lib.hid (And.intro (HFIN.out _ false (fun h=>by cases h) h6.drop) (h6.get 2 rfl))
  clear hD hSp hIx hK h1 h2 h6
  refine wpIn_wide.2 ?_
  go_wp2_with fail
  refine ⟨by simp,.inl ⟨_,_,rfl,run_takeDeferred HKD.out,?_⟩⟩
  exact ⟨_,results_c1 rfl _ _ (qb+1+1) 4 _ _ rfl HH.out.2 und_4 rfl,HH.out.1⟩
end Go.Proofs.YtmkoegljnebdiaaGreat
namespace Go.Proofs.YtmkoegljnebdiaaGreat
open Go.RowKit Go.Shelf
set_option maxRecDepth 100000
set_option maxHeartbeats 16000000

def dirI (u v:Int) (s:SpotD):Int:=u * s.x+v * s.y
def dirOk (u:Int):Prop:=-1073741824≤u∧u≤1073741824
def farOk (d:Int):Prop:=-1152921504606846976≤d∧d≤1152921504606846976
theorem mul_bd2 {x y:Int} (hx:dirOk x) (hy:-536870912≤y∧y≤536870912):-576460752303423488≤x * y∧x * y≤576460752303423488:=by
 unfold dirOk at hx
 have h:=Nat.mul_le_mul (show x.natAbs≤1073741824 by omega) (show y.natAbs≤536870912 by omega)
 rw [← Int.natAbs_mul] at h
 omega
theorem dir_far {u v:Int} {s:SpotD} (hu:dirOk u) (hv:dirOk v) (hs:spotOk s):farOk (dirI u v s):=by
 have h1:=mul_bd2 hu hs.1
 have h2:=mul_bd2 hv hs.2
 unfold dirI farOk;omega
theorem absn_any (k:Int) (hk:dirOk k) (w:World):Calls Tryz.prog 146 #[.int .i64 k] w fun e w'=>e=.returned (.int .i64 (max k (-k)))∧w'=w:=by
 unfold dirOk at hk
 have m1:IntKind.i64.wrap (-k)=-k:=IntWalk.i64_in _ (by omega)
 have n1:wrap64 (-k)=-k:=w64_in (by omega) (by omega)
 clear hk
 go_enter Tryz.func146,Tryz.ntmps146
 go_wp2_with fail
 go_ret
 exact ⟨by simp,rfl⟩
theorem along144_any (U V:Nat) (u v:Int) (s:SpotD) (hu:dirOk u) (hv:dirOk v) (hs:spotOk s) (w:World) (hU:Bk w U 3 #[.int .i64 u]) (hV:Bk w V 3 #[.int .i64 v]) :
  Calls Tryz.prog 144 #[spotV s,.pointer (some ⟨U,0,none⟩),.pointer (some ⟨V,0,none⟩)] w fun e w'=>e=.returned (.int .i64 (dirI u v s))∧Below w.heap.size w w':=by
 obtain ⟨PQ,hPQ⟩:∃ Q:Ending→World→Prop,(fun e w'=>e=.returned (.int .i64 (dirI u v s))∧Below w.heap.size w w')=Q:=⟨_,rfl⟩
 have HFIN:Hid (∀ w' r,r=dirI u v s→Fr w [] [] w'→PQ (.returned (.int .i64 r)) w'):=Lib.hid fun w' r hr h=>by rw [← hPQ,hr];exact ⟨rfl,h.toBelow⟩
 rw [hPQ]
 obtain ⟨x,y⟩:=s
 have p1:=mul_bd2 hu hs.1
 have p2:=mul_bd2 hv hs.2
 unfold dirI at HFIN
 unfold spotV
 dsimp only at HFIN p1 p2 ⊢
 obtain ⟨q1,g1⟩:∃ d,u * x=d:=⟨_,rfl⟩
 obtain ⟨q2,g2⟩:∃ d,v * y=d:=⟨_,rfl⟩
 rw [g1,g2] at HFIN
 rw [g1] at p1
 rw [g2] at p2
 have m5:IntKind.i64.wrap (u * x)=q1:=by rw [g1];exact IntWalk.i64_in _ (by omega)
 have m6:IntKind.i64.wrap (v * y)=q2:=by rw [g2];exact IntWalk.i64_in _ (by omega)
 have m7:IntKind.i64.wrap (q1+q2)=q1+q2:=IntWalk.i64_in _ (by omega)
 have n5:wrap64 (u * x)=q1:=by rw [g1];exact w64_in (by omega) (by omega)
 have n6:wrap64 (v * y)=q2:=by rw [g2];exact w64_in (by omega) (by omega)
 have n7:wrap64 (q1+q2)=q1+q2:=w64_in (by omega) (by omega)
 have cu:=hU.cell 0
 have cv:=hV.cell 0
 have lu:=hU.lt
 have lv:=hV.lt
 clear hPQ hu hv hs g1 g2 p1 p2 hU hV
 obtain ⟨qb,hqb⟩:∃ qb,w.heap.size=qb:=⟨_,rfl⟩
 obtain ⟨W0,hW0⟩:∃ W0,w.alloc (.cells #[.int .i64 x,.int .i64 y] 56)=W0:=⟨_,rfl⟩
 have HF0:Hid (Fr w [] [(qb,56,iC [x,y])] W0):=Lib.hid (by rw [← hW0];exact (Fr.start w).alloc (by simp [← hqb]) 56 #[.int .i64 x,.int .i64 y])
 have cu0:W0.cell? ⟨U,0,none⟩=some (.int .i64 u):=(HF0.out.toBelow.cell (p:=⟨U,0,none⟩) lu).trans cu
 have cv0:W0.cell? ⟨V,0,none⟩=some (.int .i64 v):=(HF0.out.toBelow.cell (p:=⟨V,0,none⟩) lv).trans cv
 go_enter Tryz.func144,Tryz.ntmps144
 go_upto_region 1 with (fail)
 clear hW0 hqb
 have c1:W0.cell? ⟨qb,0,none⟩=some (.int .i64 x):=(HF0.out.get 0 rfl).cell 0
 have c2:W0.cell? ⟨qb,1,none⟩=some (.int .i64 y):=(HF0.out.get 0 rfl).cell 1
 go_wp2_with fail
 clear c1 c2
 exact HFIN.out _ _ rfl HF0.out.drop
theorem of145_any (F U V:Nat) (u v:Int) (g off n c:Nat) (p:Nat→SpotD) (hn:n≤4096) (h1:1≤n) (hu:dirOk u) (hv:dirOk v) (hp:∀ i,i<n→spotOk (p i)) (w:World) (hsp:SpAt w g off n p)
  (hU:Bk w U 3 #[.int .i64 u]) (hV:Bk w V 3 #[.int .i64 v]) (hF:Bk w F 230 #[.func (.func 144) #[] #[.pointer (some ⟨U,0,none⟩),.pointer (some ⟨V,0,none⟩)]]) :
  Calls Tryz.prog 145 #[.slice (some ⟨g,off,none⟩) n c,.pointer (some ⟨F,0,none⟩)] w fun e w'=>(∃ lo hi,e=.returned (.tuple #[.int .i64 lo,.int .i64 hi])∧farOk lo∧farOk hi∧∀ k,k<n→lo≤dirI u v (p k)∧dirI u v (p k)≤hi)∧Below w.heap.size w w':=by
 obtain ⟨PQ,hPQ⟩:∃ Q:Ending→World→Prop,(fun e w'=>(∃ lo hi,e=.returned (.tuple #[.int .i64 lo,.int .i64 hi])∧farOk lo∧farOk hi∧∀ k,k<n→lo≤dirI u v (p k)∧dirI u v (p k)≤hi)∧Below w.heap.size w w')=Q:=⟨_,rfl⟩
 have HFIN:Hid (∀ w' lo hi,farOk lo→farOk hi→(∀ k,k<n→lo≤dirI u v (p k)∧dirI u v (p k)≤hi)→Fr w [] [] w'→PQ (.returned (.tuple #[.int .i64 lo,.int .i64 hi])) w'):=Lib.hid fun w' lo hi a b d h=>by rw [← hPQ];exact ⟨⟨lo,hi,rfl,a,b,d⟩,h.toBelow⟩
 rw [hPQ]
 have HAL:Hid (∀ k,k<n→∀ w',Fr w [] [] w'→Calls Tryz.prog 144 (#[spotV (p k)] ++ #[.pointer (some ⟨U,0,none⟩),.pointer (some ⟨V,0,none⟩)]) w' fun e w''=>e=.returned (.int .i64 (dirI u v (p k)))∧Below w'.heap.size w' w''):=Lib.hid fun k hk w' hb=>along144_any U V u v (p k) hu hv (hp k hk) w' (hU.below hb.toBelow hU.lt) (hV.below hb.toBelow hV.lt)
 have HFA:Hid (∀ k,k<n→farOk (dirI u v (p k))):=Lib.hid fun k hk=>dir_far hu hv (hp k hk)
 obtain ⟨D,hD⟩:∃ D:Nat→Int,(fun k=>dirI u v (p k))=D:=⟨_,rfl⟩
 have HD:Hid (∀ k,dirI u v (p k)=D k):=Lib.hid fun k=>by rw [← hD]
 simp only [HD.out] at HFIN HAL HFA
 have HSP:=Lib.hid hsp
 have HBF:=Lib.hid hF
 have HN:=Lib.hid hn
 have H1:=Lib.hid h1
 clear hPQ hD HD hu hv hp hU hV hF hsp hn h1
 obtain ⟨W0,rfl⟩:∃ W0,W0=w:=⟨w,rfl⟩
 have HF0:Hid (Fr W0 [] [] W0):=Lib.hid (Fr.start W0)
 have h0n:(0:Int)<(n:Int):=by have:=H1.out;omega
 have h0:0<n:=H1.out
 have HA0:=HAL.out 0 h0
 have HSC0:∀ w',Fr W0 [] [] w'→∀ j u,(#[Value.int .i64 (p 0).x,.int .i64 (p 0).y])[j]?=some u→w'.cell? ⟨g,off+j,none⟩=some u:=fun w' hb j u hj=>by
  have:=(HSP.out.below hb.toBelow).cells h0 j u hj
  rwa [Nat.zero_mul,Nat.add_zero] at this
 have HCF:Hid (∀ w',Fr W0 [] [] w'→w'.cell? ⟨F,0,none⟩=some (.func (.func 144) #[] #[.pointer (some ⟨U,0,none⟩),.pointer (some ⟨V,0,none⟩)])):=Lib.hid fun w' hb=>(HBF.out.below hb.toBelow HBF.out.lt).cell 0
 have HI0:=HFA.out 0 h0
 obtain ⟨⟨x0,y0⟩,hp0⟩:∃ z,p 0=z:=⟨_,rfl⟩
 obtain ⟨d0,hd0⟩:∃ z,D 0=z:=⟨_,rfl⟩
 rw [hp0] at HA0 HSC0
 rw [hd0] at HA0 HI0
 unfold spotV at HA0
 dsimp only at HA0 HSC0
 replace HA0:=Lib.hid HA0
 replace HSC0:=Lib.hid HSC0
 have HI0:=Lib.hid HI0
 have HD0:=Lib.hid hd0
 clear hp0 hd0
 go_enter Tryz.func145,Tryz.ntmps145
 go_upto_region 1 with (fail)
 refine wp_region_fr [Kind.p,Kind.p,Kind.p,Kind.p,Kind.p,Kind.p,Kind.p,Kind.p,Kind.p,Kind.p,Kind.p,Kind.p] [] [] W0 (fun _=>[]) (fun _=>[])
    (fun ix u _=>match ix with
     | 0=>u=.func (.func 144) #[] #[.pointer (some ⟨U,0,none⟩),.pointer (some ⟨V,0,none⟩)]
     | 1=>u=.slice (some ⟨g,off,none⟩) n c
     | 2=>u=.pointer (some ⟨g,off,none⟩)
     | 3=>u=.agg #[.int .i64 x0,.int .i64 y0]
     | 4=>u=.int .i64 d0
     | 5=>u=.func (.func 144) #[] #[.pointer (some ⟨U,0,none⟩),.pointer (some ⟨V,0,none⟩)]
     | 6=>u=.slice (some ⟨g,off,none⟩) n c
     | 7=>u=.pointer (some ⟨g,off,none⟩)
     | 8=>u=.agg #[.int .i64 x0,.int .i64 y0]
     | 9=>u=.int .i64 d0
     | 10=>u=.int .i64 d0
     | 11=>u=.int .i64 d0
     | _=>True)
    (by kernel_rfl) (by kernel_rfl) (by kernel_rfl) [] rfl (by decide) (by kernel_rfl) (by kernel_rfl) HF0.out ?_ ?_
 ·refine ⟨?_,?_,?_,?_,?_,?_,?_,?_,?_,?_,?_,?_,trivial⟩
  all_goals intro a w1 vs dn k K S hpre KE DE kk
  ·have e1:=KE 1 (by decide)
   have hfr:Fr W0 [] [] w1:=Fr.drop S.fr
   have cf:=HCF.out w1 hfr
   go_simp;exact kk _ _ (by simp) bR rfl
  ·have e0:=KE 0 (by decide)
   go_simp;exact kk _ _ (by simp) bR rfl
  ·have e8:=dep (DE 1 _ 8 rfl rfl rfl)
   go_simp;exact kk _ _ (by simp) bR rfl
  ·have e9:=dep (DE 2 _ 9 rfl rfl rfl)
   have hfr:Fr W0 [] [] w1:=Fr.drop S.fr
   exact wpo_loadS 56 (.tmp 9) rfl g (off) (by simpa [Act.eval] using e9) #[.int .i64 x0,.int .i64 y0] _ (HSC0.out w1 hfr) und_56 rfl info_56 (kk _ _ (by simp) bR rfl)
  ·have e7:=dep (DE 0 _ 7 rfl rfl rfl)
   have e10:=dep (DE 3 _ 10 rfl rfl rfl)
   have hfr:Fr W0 [] [] w1:=Fr.drop S.fr
   exact wpo_callC 144 #[.pointer (some ⟨U,0,none⟩),.pointer (some ⟨V,0,none⟩)] (.tmp 7) _ _ rfl (by simpa [Act.eval] using e7) #[.agg #[.int .i64 x0,.int .i64 y0]] (by simp [Act.eval,e10]) (fun args w=>by kernel_rfl)
    ((HA0.out w1 hfr).mono fun e w' ⟨he,hb⟩=>⟨_,he,kk _ _ (by simp) hb rfl⟩)
  ·have e1:=KE 1 (by decide)
   have hfr:Fr W0 [] [] w1:=Fr.drop S.fr
   have cf:=HCF.out w1 hfr
   go_simp;exact kk _ _ (by simp) bR rfl
  ·have e0:=KE 0 (by decide)
   go_simp;exact kk _ _ (by simp) bR rfl
  ·have e13:=dep (DE 6 _ 13 rfl rfl rfl)
   go_simp;exact kk _ _ (by simp) bR rfl
  ·have e14:=dep (DE 7 _ 14 rfl rfl rfl)
   have hfr:Fr W0 [] [] w1:=Fr.drop S.fr
   exact wpo_loadS 56 (.tmp 14) rfl g (off) (by simpa [Act.eval] using e14) #[.int .i64 x0,.int .i64 y0] _ (HSC0.out w1 hfr) und_56 rfl info_56 (kk _ _ (by simp) bR rfl)
  ·have e12:=dep (DE 5 _ 12 rfl rfl rfl)
   have e15:=dep (DE 8 _ 15 rfl rfl rfl)
   have hfr:Fr W0 [] [] w1:=Fr.drop S.fr
   exact wpo_callC 144 #[.pointer (some ⟨U,0,none⟩),.pointer (some ⟨V,0,none⟩)] (.tmp 12) _ _ rfl (by simpa [Act.eval] using e12) #[.agg #[.int .i64 x0,.int .i64 y0]] (by simp [Act.eval,e15]) (fun args w=>by kernel_rfl)
    ((HA0.out w1 hfr).mono fun e w' ⟨he,hb⟩=>⟨_,he,kk _ _ (by simp) hb rfl⟩)
  ·have e11:=dep (DE 4 _ 11 rfl rfl rfl)
   go_simp;exact kk _ _ (by simp) bR rfl
  ·have e16:=dep (DE 9 _ 16 rfl rfl rfl)
   go_simp;exact kk _ _ (by simp) bR rfl
 ·intro vs wf HFr HR
  have HFr':Fr W0 [] [] wf:=HFr
  have v10:vs 10=.int .i64 d0:=HR 10 _ rfl
  have v11:vs 11=.int .i64 d0:=HR 11 _ rfl
  clear HFr HR
  have HF1:=Lib.hid HFr'
  clear HFr'
  simp only [putAll,Act.put,List.setIfInBounds_toArray,List.set_cons_zero,List.set_cons_succ]
  simp only [v10,v11]
  clear v10 v11
  obtain ⟨w1,rfl⟩:∃ u:World,u=wf:=⟨_,rfl⟩
  simp only [Nat.reduceAdd,Nat.zero_add]
  go_wp2_with fail
  go_loopw [19,3,4] (fun iv lv hv wr=>∃ (k:Nat) (lo hi:Int),k≤n∧iv=.int .i64 (k:Int)∧lv=.int .i64 lo∧hv=.int .i64 hi∧Hid (Fr W0 [] [] wr∧farOk lo∧farOk hi∧lo≤d0∧d0≤hi∧∀ j,j<k→lo≤D j∧D j≤hi)) (fun iv _ _ _=>n - (intOf iv).toNat)
  case atStart=>exact ⟨0,d0,d0,Nat.zero_le _,rfl,rfl,rfl,Lib.hid ⟨HF1.out,HI0.out,HI0.out,Int.le_refl _,Int.le_refl _,fun j h=>absurd h (by omega)⟩⟩
  case round =>
   obtain ⟨wo,rfl⟩:∃ wo:World,wo=wr:=⟨_,rfl⟩
   obtain ⟨k,lo,hi,hk,rfl,rfl,rfl,hs⟩:=hrel
   have HFR:=Lib.hid hs.out.1
   have hn4:=HN.out
   have h0i:(0:Int)≤(k:Int):=by omega
   by_cases hlt:k<n
   ·have hki:(k:Int)<(n:Int):=by omega
    have HSCK:∀ w',Fr W0 [] [] w'→∀ j u,(#[Value.int .i64 (p k).x,.int .i64 (p k).y])[j]?=some u→w'.cell? ⟨g,off+k * 2+j,none⟩=some u:=fun w' hb=>(HSP.out.below hb.toBelow).cells hlt
    have HAK:=HAL.out k hlt
    have HIK:=HFA.out k hlt
    obtain ⟨⟨x,y⟩,hpk⟩:∃ z,p k=z:=⟨_,rfl⟩
    obtain ⟨d,hd⟩:∃ z,D k=z:=⟨_,rfl⟩
    rw [hpk] at HAK HSCK
    rw [hd] at HAK HIK
    unfold spotV at HAK
    dsimp only at HAK HSCK
    replace HAK:=Lib.hid HAK
    replace HSCK:=Lib.hid HSCK
    have hall:farOk (min lo d)∧farOk (max hi d)∧min lo d≤d0∧d0≤max hi d∧∀ j,j<k+1→min lo d≤D j∧D j≤max hi d:=by
     obtain ⟨_,a1,a2,a3,a4,a5⟩:=hs.out
     unfold farOk at a1 a2 HIK ⊢
     refine ⟨by omega,by omega,by omega,by omega,fun j hj=>?_⟩
     rcases Nat.lt_or_ge j k with h | h
     ·have:=a5 j h;omega
     ·rw [show j=k by omega,hd];omega
    have HALL:=Lib.hid hall
    have HLT:=Lib.hid hlt
    clear hpk hd HIK hall hs hlt
    go_upto_region 4 with (fail)
    obtain ⟨g2,hg2⟩:∃ g,wo.heap.size=g:=⟨_,rfl⟩
    obtain ⟨w2,hw2⟩:∃ u,wo.alloc (.cells #[.int .i64 0,.int .i64 0] 56)=u:=⟨_,rfl⟩
    have HF3:=Lib.hid (frE hw2 (HFR.out.alloc hg2.symm 56 #[.int .i64 0,.int .i64 0]))
    go_upto_region 5 with (first
      | (refine wpLoadC rfl 56 _ rfl g (off+k * 2) rfl #[.int .i64 x,.int .i64 y] _ (HSCK.out _ HFR.out) und_56 rfl info_56 ?_)
      | (refine wpStoreF rfl rfl 56 _ _ rfl g2 0 rfl #[.int .i64 x,.int .i64 y] rfl _ _ (iC [x,y]) (HF3.out.get 0 rfl) rfl (by show 0+2≤2;omega) (one_all rfl) info_56 ?_;intro w4 hk ho;clear hw2 hg2;have HF5:=Lib.hid (HF3.out.only 0 rfl ho hk);clear ho hk))
    refine wp_region_fr [Kind.p,Kind.p,Kind.p,Kind.p,Kind.p,Kind.p,Kind.p,Kind.p,Kind.p,Kind.p,Kind.p,Kind.p] [] [] W0 (fun _=>[]) (fun _=>_)
       (fun ix u _=>match ix with
        | 0=>u=.int .i64 lo
        | 1=>u=.func (.func 144) #[] #[.pointer (some ⟨U,0,none⟩),.pointer (some ⟨V,0,none⟩)]
        | 2=>u=.agg #[.int .i64 x,.int .i64 y]
        | 3=>u=.int .i64 d
        | 4=>u=.int .i64 (min lo d)
        | 5=>u=.int .i64 hi
        | 6=>u=.func (.func 144) #[] #[.pointer (some ⟨U,0,none⟩),.pointer (some ⟨V,0,none⟩)]
        | 7=>u=.agg #[.int .i64 x,.int .i64 y]
        | 8=>u=.int .i64 d
        | 9=>u=.int .i64 (max hi d)
        | 10=>u=.int .i64 (min lo d)
        | 11=>u=.int .i64 (max hi d)
        | _=>True)
       (by kernel_rfl) (by kernel_rfl) (by kernel_rfl) [] rfl (by decide) (by kernel_rfl) (by kernel_rfl) HF5.out ?_ ?_
    ·refine ⟨?_,?_,?_,?_,?_,?_,?_,?_,?_,?_,?_,?_,trivial⟩
     all_goals intro a w1 vs dn k K S hpre KE DE kk
     ·have e3:=KE 3 (by decide)
      go_simp;exact kk _ _ (by simp) bR rfl
     ·have e1:=KE 1 (by decide)
      have hfr:Fr W0 [] [] w1:=Fr.drop S.fr
      have cf:=HCF.out w1 hfr
      go_simp;exact kk _ _ (by simp) bR rfl
     ·have e6:=KE 6 (by decide)
      exact wpo_loadF 56 (.tmp 6) rfl g2 0 (by simpa [Act.eval] using e6) _ _ (S.fr.left.get 0 rfl) #[.int .i64 x,.int .i64 y] rfl _ und_56 rfl info_56 (kk _ _ (by simp) bR rfl)
     ·have e24:=dep (DE 1 _ 24 rfl rfl rfl)
      have e25:=dep (DE 2 _ 25 rfl rfl rfl)
      have hfr:Fr W0 [] [] w1:=Fr.drop S.fr
      exact wpo_callC 144 #[.pointer (some ⟨U,0,none⟩),.pointer (some ⟨V,0,none⟩)] (.tmp 24) _ _ rfl (by simpa [Act.eval] using e24) #[.agg #[.int .i64 x,.int .i64 y]] (by simp [Act.eval,e25]) (fun args w=>by kernel_rfl)
       ((HAK.out w1 hfr).mono fun e w' ⟨he,hb⟩=>⟨_,he,kk _ _ (by simp) hb rfl⟩)
     ·have e23:=dep (DE 0 _ 23 rfl rfl rfl)
      have e26:=dep (DE 3 _ 26 rfl rfl rfl)
      go_simp;exact kk _ _ (by simp) bR rfl
     ·have e4:=KE 4 (by decide)
      go_simp;exact kk _ _ (by simp) bR rfl
     ·have e1:=KE 1 (by decide)
      have hfr:Fr W0 [] [] w1:=Fr.drop S.fr
      have cf:=HCF.out w1 hfr
      go_simp;exact kk _ _ (by simp) bR rfl
     ·have e6:=KE 6 (by decide)
      exact wpo_loadF 56 (.tmp 6) rfl g2 0 (by simpa [Act.eval] using e6) _ _ (S.fr.left.get 0 rfl) #[.int .i64 x,.int .i64 y] rfl _ und_56 rfl info_56 (kk _ _ (by simp) bR rfl)
     ·have e29:=dep (DE 6 _ 29 rfl rfl rfl)
      have e30:=dep (DE 7 _ 30 rfl rfl rfl)
      have hfr:Fr W0 [] [] w1:=Fr.drop S.fr
      exact wpo_callC 144 #[.pointer (some ⟨U,0,none⟩),.pointer (some ⟨V,0,none⟩)] (.tmp 29) _ _ rfl (by simpa [Act.eval] using e29) #[.agg #[.int .i64 x,.int .i64 y]] (by simp [Act.eval,e30]) (fun args w=>by kernel_rfl)
       ((HAK.out w1 hfr).mono fun e w' ⟨he,hb⟩=>⟨_,he,kk _ _ (by simp) hb rfl⟩)
     ·have e28:=dep (DE 5 _ 28 rfl rfl rfl)
      have e31:=dep (DE 8 _ 31 rfl rfl rfl)
      go_simp;exact kk _ _ (by simp) bR rfl
     ·have e27:=dep (DE 4 _ 27 rfl rfl rfl)
      go_simp;exact kk _ _ (by simp) bR rfl
     ·have e32:=dep (DE 9 _ 32 rfl rfl rfl)
      go_simp;exact kk _ _ (by simp) bR rfl
    ·intro vs wf HFr HR
     have HFr':Fr W0 [] [(g2,56,iC [x,y])] wf:=HFr
     have v10:vs 10=.int .i64 (min lo d):=HR 10 _ rfl
     have v11:vs 11=.int .i64 (max hi d):=HR 11 _ rfl
     clear HFr HR
     have HF6:=Lib.hid HFr'
     clear HFr'
     simp only [putAll,Act.put,List.setIfInBounds_toArray,List.set_cons_zero,List.set_cons_succ]
     simp only [v10,v11]
     clear v10 v11
     obtain ⟨w6,rfl⟩:∃ u:World,u=wf:=⟨_,rfl⟩
     go_wp2_with fail
     go_roundw
     case rel=>exact ⟨k+1,min lo d,max hi d,by have:=HLT.out;omega,by go_num,rfl,rfl,Lib.hid ⟨HF6.out.drop,HALL.out⟩⟩
     case measure=>simp [intOf];omega
   ·obtain rfl:k=n:=by omega
    have hneg:¬ (k:Int)<(k:Int):=by omega
    go_wp2_with fail
    exact HFIN.out _ _ _ hs.out.2.1 hs.out.2.2.1 hs.out.2.2.2.2.2 hs.out.1

/-- Seen in this direction, one list lies behind the other. -/
def SepUV (du dv:Int) (na:Nat) (pa:Nat→SpotD) (nb:Nat) (pb:Nat→SpotD):Prop :=
 (∀ i,i<na→∀ j,j<nb→dirI du dv (pa i)<dirI du dv (pb j)) ∨ (∀ i,i<na→∀ j,j<nb→dirI du dv (pb j)<dirI du dv (pa i))
theorem sep143_any (A B R:Nat) (ga oa na ca:Nat) (pa:Nat→SpotD) (gb ob nb cb:Nat) (pb:Nat→SpotD) (du dv:Int) (hu:dirOk du) (hv:dirOk dv) (hna:na≤4096) (h1a:1≤na) (hnb:nb≤4096) (h1b:1≤nb) (hpa:∀ i,i<na→spotOk (pa i)) (hpb:∀ i,i<nb→spotOk (pb i))
  (w:World) (hsa:SpAt w ga oa na pa) (hsb:SpAt w gb ob nb pb) (hA:Bk w A 25 #[.slice (some ⟨ga,oa,none⟩) na ca]) (hB:Bk w B 25 #[.slice (some ⟨gb,ob,none⟩) nb cb]) (hR:Bk w R 3 #[.int .i64 0]) :
  Calls Tryz.prog 143 #[.int .i64 du,.int .i64 dv,.pointer (some ⟨A,0,none⟩),.pointer (some ⟨B,0,none⟩),.pointer (some ⟨R,0,none⟩)] w fun e w'=>(∃ b,e=.returned (.bool b)∧(b=true→SepUV du dv na pa nb pb))∧Below w.heap.size w w':=by
 obtain ⟨PQ,hPQ⟩:∃ Q:Ending→World→Prop,(fun e w'=>(∃ b,e=.returned (.bool b)∧(b=true→SepUV du dv na pa nb pb))∧Below w.heap.size w w')=Q:=⟨_,rfl⟩
 have HFIN:Hid (∀ w' b,(b=true→SepUV du dv na pa nb pb)→Fr w [] [] w'→PQ (.returned (.bool b)) w'):=Lib.hid fun w' b hb h=>by rw [← hPQ];exact ⟨⟨b,rfl,hb⟩,h.toBelow⟩
 rw [hPQ]
 have HBA:Hid (∀ {N:List Ent} {w':World},Fr w [] N w'→Bk w' A 25 #[.slice (some ⟨ga,oa,none⟩) na ca]):=Lib.hid fun h=>hA.below h.toBelow hA.lt
 have HBB:Hid (∀ {N:List Ent} {w':World},Fr w [] N w'→Bk w' B 25 #[.slice (some ⟨gb,ob,none⟩) nb cb]):=Lib.hid fun h=>hB.below h.toBelow hB.lt
 have HBR:Hid (∀ {N:List Ent} {w':World},Fr w [] N w'→Bk w' R 3 #[.int .i64 0]):=Lib.hid fun h=>hR.below h.toBelow hR.lt
 have HOA:Hid (∀ (F U V:Nat) {N:List Ent} {w':World},Fr w [] N w'→Bk w' U 3 #[.int .i64 du]→Bk w' V 3 #[.int .i64 dv]→Bk w' F 230 #[.func (.func 144) #[] #[.pointer (some ⟨U,0,none⟩),.pointer (some ⟨V,0,none⟩)]]→_):=Lib.hid fun F U V N w' h b1 b2 b3=>of145_any F U V du dv ga oa na ca pa hna h1a hu hv hpa w' (hsa.below h.toBelow) b1 b2 b3
 have HOB:Hid (∀ (F U V:Nat) {N:List Ent} {w':World},Fr w [] N w'→Bk w' U 3 #[.int .i64 du]→Bk w' V 3 #[.int .i64 dv]→Bk w' F 230 #[.func (.func 144) #[] #[.pointer (some ⟨U,0,none⟩),.pointer (some ⟨V,0,none⟩)]]→_):=Lib.hid fun F U V N w' h b1 b2 b3=>of145_any F U V du dv gb ob nb cb pb hnb h1b hu hv hpb w' (hsb.below h.toBelow) b1 b2 b3
 have HSU:=Lib.hid (fun w=>absn_any du hu w)
 have HSV:=Lib.hid (fun w=>absn_any dv hv w)
 unfold dirOk at hu hv
 have m1:IntKind.i64.wrap (max du (-du)+max dv (-dv))=max du (-du)+max dv (-dv):=IntWalk.i64_in _ (by omega)
 have n1:wrap64 (max du (-du)+max dv (-dv))=max du (-du)+max dv (-dv):=w64_in (by omega) (by omega)
 have m2:IntKind.i64.wrap 0=0:=IntWalk.i64_in _ (by omega)
 have n2:wrap64 0=0:=w64_in (by omega) (by omega)
 clear hPQ hu hv hna h1a hnb h1b hpa hpb hsa hsb hA hB hR
 obtain ⟨qb,hqb⟩:∃ qb,w.heap.size=qb:=⟨_,rfl⟩
 obtain ⟨W0,hW0⟩:∃ W0,(w.alloc (.cells #[.int .i64 du] 3)).alloc (.cells #[.int .i64 dv] 3)=W0:=⟨_,rfl⟩
 have HF0:Hid (Fr w [] [(qb,3,iC [du]),(qb+1,3,iC [dv])] W0):=Lib.hid (by rw [← hW0];exact ((Fr.start w).alloc (by simp [← hqb]) 3 #[.int .i64 du]).alloc (by simp [← hqb]) 3 #[.int .i64 dv])
 go_enter Tryz.func143,Tryz.ntmps143
 go_upto_region 1 with (fail)
 clear hW0 hqb
 obtain ⟨g1,hg1⟩:∃ g,W0.heap.size=g:=⟨_,rfl⟩
 obtain ⟨w1,hw1⟩:∃ u,W0.alloc (.cells #[.nilFunc] 230)=u:=⟨_,rfl⟩
 have HF2:=Lib.hid (frE hw1 (HF0.out.alloc hg1.symm 230 #[.nilFunc]))
 go_wp2_with (refine wpStoreCell rfl rfl 230 _ _ rfl g1 0 rfl (.func (.func 144) #[] #[.pointer (some ⟨qb,0,none⟩),.pointer (some ⟨qb+1,0,none⟩)]) rfl _ _ (HF2.out.get 2 rfl) (by show 0<1;omega) rfl (by kernel_rfl) ?_;intro w3 hk ho;clear hw1 hg1;have HF4:=Lib.hid (HF2.out.only 2 rfl ho hk);clear ho hk;have c5:w3.cell? ⟨A,0,none⟩=some (.slice (some ⟨ga,oa,none⟩) na ca):=(HBA.out HF4.out).cell 0)
 clear c5
 refine (HOA.out g1 _ _ HF4.out (HF4.out.get 0 rfl) (HF4.out.get 1 rfl) (HF4.out.get 2 rfl)).mono ?_
 rintro e w6 ⟨⟨lo,hi,rfl,hl1,hl2,hl3⟩,hw⟩
 have HF7:=Lib.hid (HF4.out.below hw)
 clear hw
 go_upto_region 4 with (fail)
 have HL:=Lib.hid hl3
 have HLA:=Lib.hid (And.intro hl1 hl2)
 clear hl1 hl2 hl3
 have c8:w6.cell? ⟨B,0,none⟩=some (.slice (some ⟨gb,ob,none⟩) nb cb):=(HBB.out HF7.out).cell 0
 go_wp2_with fail
 clear c8
 refine (HOB.out g1 _ _ HF7.out (HF7.out.get 0 rfl) (HF7.out.get 1 rfl) (HF7.out.get 2 rfl)).mono ?_
 rintro e w9 ⟨⟨lo2,hi2,rfl,hr1,hr2,hr3⟩,hw⟩
 have HF10:=Lib.hid (HF7.out.below hw)
 clear hw
 go_upto_region 5 with (fail)
 have HL2:=Lib.hid hr3
 obtain ⟨hl1,hl2⟩:=HLA.out
 unfold farOk at hl1 hl2 hr1 hr2
 have m3:IntKind.i64.wrap (lo2 - hi)=lo2 - hi:=IntWalk.i64_in _ (by omega)
 have n3:wrap64 (lo2 - hi)=lo2 - hi:=w64_in (by omega) (by omega)
 have m4:IntKind.i64.wrap (lo - hi2)=lo - hi2:=IntWalk.i64_in _ (by omega)
 have n4:wrap64 (lo - hi2)=lo - hi2:=w64_in (by omega) (by omega)
 clear hl1 hl2 hr1 hr2 hr3 HLA
 refine wp_region_fr [Kind.p,Kind.p,Kind.p,Kind.p,Kind.p,Kind.p,Kind.p,Kind.p] [] [] w (fun _=>[]) (fun _=>_)
    (fun ix u _=>match ix with
     | 0=>u=.int .i64 0
     | 1=>u=.int .i64 du
     | 2=>u=.int .i64 (max du (-du))
     | 3=>u=.int .i64 dv
     | 4=>u=.int .i64 (max dv (-dv))
     | 5=>u=.int .i64 (max du (-du)+max dv (-dv))
     | 6=>u=.int .i64 0
     | 7=>u=.int .i64 0
     | _=>True)
    (by kernel_rfl) (by kernel_rfl) (by kernel_rfl) [] rfl (by decide) (by kernel_rfl) (by kernel_rfl) HF10.out ?_ ?_
 ·refine ⟨?_,?_,?_,?_,?_,?_,?_,?_,trivial⟩
  all_goals intro a w1 vs dn k K S hpre KE DE kk
  ·have e4:=KE 4 (by decide)
   have cr:w1.cell? ⟨R,0,none⟩=some (.int .i64 0):=(HBR.out S.fr).cell 0
   go_simp;exact kk _ _ (by simp) bR rfl
  ·have e5:=KE 5 (by decide)
   have ca:w1.cell? ⟨qb,0,none⟩=some (.int .i64 du):=(S.fr.left.get 0 rfl).cell 0
   go_simp;exact kk _ _ (by simp) bR rfl
  ·have e30:=dep (DE 1 _ 30 rfl rfl rfl)
   exact wpo_call 146 _ _ rfl #[.int .i64 du] (by simp [Act.eval,e30]) (fun args w=>by kernel_rfl)
    ((HSU.out w1).mono fun e w' ⟨he,hb⟩=>⟨_,he,kk _ _ (by simp) (by subst hb;exact Below.refl _ _) rfl⟩)
  ·have e6:=KE 6 (by decide)
   have ca:w1.cell? ⟨qb+1,0,none⟩=some (.int .i64 dv):=(S.fr.left.get 1 rfl).cell 0
   go_simp;exact kk _ _ (by simp) bR rfl
  ·have e32:=dep (DE 3 _ 32 rfl rfl rfl)
   exact wpo_call 146 _ _ rfl #[.int .i64 dv] (by simp [Act.eval,e32]) (fun args w=>by kernel_rfl)
    ((HSV.out w1).mono fun e w' ⟨he,hb⟩=>⟨_,he,kk _ _ (by simp) (by subst hb;exact Below.refl _ _) rfl⟩)
  ·have e31:=dep (DE 2 _ 31 rfl rfl rfl)
   have e33:=dep (DE 4 _ 33 rfl rfl rfl)
   go_simp;exact kk _ _ (by simp) bR rfl
  ·have e29:=dep (DE 0 _ 29 rfl rfl rfl)
   have e34:=dep (DE 5 _ 34 rfl rfl rfl)
   go_simp;exact kk _ _ (by simp) bR rfl
  ·have e35:=dep (DE 6 _ 35 rfl rfl rfl)
   go_simp;exact kk _ _ (by simp) bR rfl
 ·intro vs wf HFr HR
  have HFr':Fr w [] [(qb,3,iC [du]),(qb+1,3,iC [dv]),(g1,230,#[.func (.func 144) #[] #[.pointer (some ⟨qb,0,none⟩),.pointer (some ⟨qb+1,0,none⟩)]])] wf:=HFr
  have v7:vs 7=.int .i64 0:=HR 7 _ rfl
  clear HFr HR
  have HF11:=Lib.hid HFr'
  clear HFr'
  simp only [putAll,Act.put,List.setIfInBounds_toArray,List.set_cons_zero,List.set_cons_succ]
  simp only [v7]
  clear v7
  obtain ⟨w11,rfl⟩:∃ u:World,u=wf:=⟨_,rfl⟩
  by_cases ha:0<lo2 - hi
  ·have ha2:hi<lo2:=by omega
   go_wp2_with fail
   exact HFIN.out _ true (fun _=>.inl fun i hi1 j hj=>by have h1:=(HL.out i hi1).2;have h2:=(HL2.out j hj).1;omega) HF11.out.drop
  ·have ha2:¬ hi<lo2:=by omega
   by_cases hb:0<lo - hi2
   ·have hb2:hi2<lo:=by omega
    go_wp2_with fail
    exact HFIN.out _ true (fun _=>.inr fun i hi1 j hj=>by have h1:=(HL.out i hi1).1;have h2:=(HL2.out j hj).2;omega) HF11.out.drop
   ·have hb2:¬ hi2<lo:=by omega
    go_wp2_with fail
    exact HFIN.out _ false (fun h=>by cases h) HF11.out.drop
end Go.Proofs.YtmkoegljnebdiaaGreat
namespace Go.Proofs.YtmkoegljnebdiaaGreat
open Go.RowKit Go.Shelf
set_option maxRecDepth 100000
set_option maxHeartbeats 16000000
attribute [local go_sem] Oper.semAt_some

theorem mark_lt {W:World} {D:Nat} {o:Obj} (h:W.heap[D]?=some o):D<W.heap.size:=(Array.getElem?_eq_some_iff.1 h).1
theorem mark_own {B D:Nat} {A A':World} {row:Option Nat} {o:Obj} (h:A.heap[D]?=some o) (hD:D<B) (hg:A.grownBy A' row) (hr:∀ r,row=some r→B≤r∧∃ o:Obj,A.heap[r]?=some o∧o.isCells=false):A'.heap[D]?=some o :=
 (hg.block D (mark_lt h) fun e=>by have:=(hr D e.symm).1;omega).trans h
theorem mark_below {W W':World} {D:Nat} {o:Obj} (h:W.heap[D]?=some o) (hb:Below W.heap.size W W'):W'.heap[D]?=some o:=(hb.block D (mark_lt h)).trans h
theorem mark_put {W:World} {D E:Nat} {o o':Obj} (h:W.heap[D]?=some o) (hne:D ≠ E):(W.putObj E o').heap[D]?=some o:=(World.putObj_heap_other hne).trans h
theorem dir_sub {a b:SpotD} (ha:spotOk a) (hb:spotOk b):dirOk (a.y - b.y)∧dirOk (b.x - a.x):=by
 unfold spotOk at ha hb;unfold dirOk;omega
theorem und232a:Tryz.prog.underlying 232=some (.array 2 25):=by kernel_rfl
theorem info_25c:(Tryz.prog.info? 25).map (·.size)=some 1:=by kernel_rfl
theorem und_25c:Tryz.prog.underlying 25=some (.slice 56):=by kernel_rfl
theorem index232 (a b:Value) (w:World):(Instr.index 232 (.agg #[a,b]) (.int .i64 0)).run Tryz.prog w=.ok a w∧(Instr.index 232 (.agg #[a,b]) (.int .i64 1)).run Tryz.prog w=.ok b w:=by
 obtain ⟨i,hi,hs⟩:=Option.map_eq_some_iff.1 info_25c
 refine ⟨?_,?_⟩ <;> simp [Instr.index,run_underlying und232a,run_underlying und_25c,asIntOf,sizeOf,typeInfo,hi,hs,part,isAgg]
theorem apart_any (ga oa na ca:Nat) (pa:Nat→SpotD) (gb ob nb cb:Nat) (pb:Nat→SpotD) (hna:na≤4096) (h1a:1≤na) (hnb:nb≤4096) (h1b:1≤nb) (hpa:∀ i,i<na→spotOk (pa i)) (hpb:∀ i,i<nb→spotOk (pb i))
  (w:World) (hsa:SpAt w ga oa na pa) (hsb:SpAt w gb ob nb pb) :
  Calls Tryz.prog 81 #[.slice (some ⟨ga,oa,none⟩) na ca,.slice (some ⟨gb,ob,none⟩) nb cb,.int .i64 0] w fun e w'=>(∃ b,e=.returned (.bool b)∧(b=true→∃ du dv,SepUV du dv na pa nb pb))∧Below w.heap.size w w':=by
 obtain ⟨PQ,hPQ⟩:∃ Q:Ending→World→Prop,(fun e w'=>(∃ b,e=.returned (.bool b)∧(b=true→∃ du dv,SepUV du dv na pa nb pb))∧Below w.heap.size w w')=Q:=⟨_,rfl⟩
 have HFIN:Hid (∀ w' b,(b=true→∃ du dv,SepUV du dv na pa nb pb)→Fr w [] [] w'→PQ (.returned (.bool b)) w'):=Lib.hid fun w' b hb h=>by rw [← hPQ];exact ⟨⟨b,rfl,hb⟩,h.toBelow⟩
 rw [hPQ]
 have HSPa:=Lib.hid hsa
 have HSPb:=Lib.hid hsb
 have HNa:=Lib.hid hna
 have HNb:=Lib.hid hnb
 have HPa:=Lib.hid hpa
 have HPb:=Lib.hid hpb
 have HSE:Hid (∀ (A B R:Nat) (du dv:Int) (w':World),dirOk du→dirOk dv→Below w.heap.size w w'→Bk w' A 25 #[.slice (some ⟨ga,oa,none⟩) na ca]→Bk w' B 25 #[.slice (some ⟨gb,ob,none⟩) nb cb]→Bk w' R 3 #[.int .i64 0]→Calls Tryz.prog 143 #[.int .i64 du,.int .i64 dv,.pointer (some ⟨A,0,none⟩),.pointer (some ⟨B,0,none⟩),.pointer (some ⟨R,0,none⟩)] w' fun e w''=>(∃ b,e=.returned (.bool b)∧(b=true→SepUV du dv na pa nb pb))∧Below w'.heap.size w' w'') :=
  Lib.hid fun A B R du dv w' hu hv hb b1 b2 b3=>sep143_any A B R ga oa na ca pa gb ob nb cb pb du dv hu hv hna h1a hnb h1b hpa hpb w' (hsa.below hb) (hsb.below hb) b1 b2 b3
 have I0:=fun w=>(index232 (.slice (some ⟨ga,oa,none⟩) na ca) (.slice (some ⟨gb,ob,none⟩) nb cb) w).1
 have I1:=fun w=>(index232 (.slice (some ⟨ga,oa,none⟩) na ca) (.slice (some ⟨gb,ob,none⟩) nb cb) w).2
 clear hPQ hna h1a hnb h1b hpa hpb hsa hsb
 refine (callsIn_wide (n:=6)).1 ?_
 refine callsIn_of_wp_marks Tryz.func81 rfl trivial ?_ rfl
 simp only [Tryz.ntmps81,List.size_toArray,List.length_cons,List.length_nil,Nat.reduceAdd,Nat.reduceSub,Array.replicate_succ,Array.replicate_zero,List.push_toArray,List.append_toArray,List.nil_append,List.cons_append]
 refine wpIn_wide.2 ?_
 obtain ⟨qb,hqb⟩:∃ qb,w.heap.size=qb:=⟨_,rfl⟩
 obtain ⟨W0,hW0⟩:∃ W0,(((w.alloc (.cells #[.slice (some ⟨ga,oa,none⟩) na ca] 25)).alloc (.cells #[.slice (some ⟨gb,ob,none⟩) nb cb] 25)).alloc (.cells #[.int .i64 0] 3)).alloc (.cells #[.bool false] 4)=W0:=⟨_,rfl⟩
 have HF0:Hid (Fr w [] [(qb,25,#[.slice (some ⟨ga,oa,none⟩) na ca]),(qb+1,25,#[.slice (some ⟨gb,ob,none⟩) nb cb]),(qb+1+1,3,iC [0]),(qb+1+1+1,4,#[.bool false])] W0):=Lib.hid (by rw [← hW0];exact ((((Fr.start w).alloc (by simp [← hqb]) 25 #[.slice (some ⟨ga,oa,none⟩) na ca]).alloc (by simp [← hqb]) 25 #[.slice (some ⟨gb,ob,none⟩) nb cb]).alloc (by simp [← hqb]) 3 #[.int .i64 0]).alloc (by simp [← hqb]) 4 #[.bool false])
 go_upto_region 1 with (fail)
 clear hW0 hqb
 obtain ⟨g1,hg1⟩:∃ g,W0.heap.size=g:=⟨_,rfl⟩
 obtain ⟨w1,hw1⟩:∃ u,W0.alloc (.cells #[.nilFunc] 195)=u:=⟨_,rfl⟩
 have HF2:=Lib.hid (frE hw1 (HF0.out.alloc hg1.symm 195 #[.nilFunc]))
 go_wp2_with (refine wpStoreCell rfl rfl 195 _ _ rfl g1 0 rfl (.func (.func 143) #[] #[.pointer (some ⟨qb,0,none⟩),.pointer (some ⟨qb+1,0,none⟩),.pointer (some ⟨qb+1+1,0,none⟩)]) rfl _ _ (HF2.out.get 4 rfl) (by show 0<1;omega) rfl (by kernel_rfl) ?_;intro w3 hk ho;clear hw1 hg1;have HF4:=Lib.hid (HF2.out.only 4 rfl ho hk);clear ho hk;have c5:w3.cell? ⟨g1,0,none⟩=some (.func (.func 143) #[] #[.pointer (some ⟨qb,0,none⟩),.pointer (some ⟨qb+1,0,none⟩),.pointer (some ⟨qb+1+1,0,none⟩)]):=(HF4.out.get 4 rfl).cell 0)
 clear c5
 refine (HSE.out qb (qb+1) (qb+1+1) 1 0 _ (by unfold dirOk;decide) (by unfold dirOk;decide) HF4.out.toBelow (HF4.out.get 0 rfl) (HF4.out.get 1 rfl) (HF4.out.get 2 rfl)).mono ?_
 rintro e w6 ⟨⟨s1,rfl,hsp⟩,hw⟩
 have HF7:=Lib.hid (HF4.out.below hw)
 clear hw
 have HS1:=Lib.hid hsp
 clear hsp
 cases s1 with
 | true =>
  have HSPX:=Lib.hid (HS1.out rfl)
  go_wp2_with (refine wpStoreCell rfl rfl 4 _ _ rfl (qb+1+1+1) 0 rfl (.bool true) rfl _ _ (HF7.out.get 3 rfl) (by show 0<1;omega) rfl (by kernel_rfl) ?_;intro w8 hk ho;have HF9:=Lib.hid (HF7.out.only 3 rfl ho hk);clear ho hk)
  exact ⟨_,results_c1 rfl _ _ (qb+1+1+1) 4 _ _ rfl (HF9.out.get 3 rfl) und_4 rfl,HFIN.out _ _ (fun _=>⟨_,_,HSPX.out⟩) HF9.out.drop⟩
 | false =>
  have c8:w6.cell? ⟨g1,0,none⟩=some (.func (.func 143) #[] #[.pointer (some ⟨qb,0,none⟩),.pointer (some ⟨qb+1,0,none⟩),.pointer (some ⟨qb+1+1,0,none⟩)]):=(HF7.out.get 4 rfl).cell 0
  go_wp2_with fail
  clear c8
  refine (HSE.out qb (qb+1) (qb+1+1) 0 1 _ (by unfold dirOk;decide) (by unfold dirOk;decide) HF7.out.toBelow (HF7.out.get 0 rfl) (HF7.out.get 1 rfl) (HF7.out.get 2 rfl)).mono ?_
  rintro e w9 ⟨⟨s2,rfl,hsp⟩,hw⟩
  have HF10:=Lib.hid (HF7.out.below hw)
  clear hw
  have HS2:=Lib.hid hsp
  clear hsp
  cases s2 with
  | true =>
   have HSPX:=Lib.hid (HS2.out rfl)
   go_wp2_with (refine wpStoreCell rfl rfl 4 _ _ rfl (qb+1+1+1) 0 rfl (.bool true) rfl _ _ (HF10.out.get 3 rfl) (by show 0<1;omega) rfl (by kernel_rfl) ?_;intro w11 hk ho;have HF12:=Lib.hid (HF10.out.only 3 rfl ho hk);clear ho hk)
   exact ⟨_,results_c1 rfl _ _ (qb+1+1+1) 4 _ _ rfl (HF12.out.get 3 rfl) und_4 rfl,HFIN.out _ _ (fun _=>⟨_,_,HSPX.out⟩) HF12.out.drop⟩
  | false =>
   have c11:w9.cell? ⟨qb,0,none⟩=some (.slice (some ⟨ga,oa,none⟩) na ca):=(HF10.out.get 0 rfl).cell 0
   have c12:w9.cell? ⟨qb+1,0,none⟩=some (.slice (some ⟨gb,ob,none⟩) nb cb):=(HF10.out.get 1 rfl).cell 0
   go_wp2_with fail
   clear c11 c12
   refine wp_loop_rounds 3 ?_
   rw [rounds_succ]
   go_wp2_with fail
   refine (edges_fr _ _ _ _).mono ?_
   rintro e w13 ⟨Ba,rfl,hw⟩
   have HF14:=Lib.hid (HF10.out.more hw)
   clear hw
   have hws:w.heap.size≤w13.heap.size:=HF14.out.size
   have HS0:=Lib.hid (HSPa.out.below HF14.out.toBelow)
   have HKB:Hid (∀ x,x ∈ [Ba,ga]→x<w13.heap.size):=Lib.hid fun x hx=>by
    simp only [List.mem_cons,List.not_mem_nil,or_false] at hx
    rcases hx with rfl | rfl
    ·exact (HF14.out.get 5 rfl).lt
    ·exact HS0.out.1
   have HBG:Ba ≠ ga:=fun e=>by
    have h1:=HF14.out.ge 5 rfl
    have h2:=HSPa.out.1
    omega
   have HSTOP:=Lib.hid (edges_stops Ba ga oa na ca pa HNa.out HBG w13 (HF14.out.get 5 rfl) HS0.out.1 HS0.out.2)
   obtain ⟨IB,hIB⟩:∃ I:List (Fin na)→World→Prop,(fun pre W=>(True)∧Fr w [] [(qb,25,#[.slice (some ⟨ga,oa,none⟩) na ca]),(qb+1,25,#[.slice (some ⟨gb,ob,none⟩) nb cb]),(qb+1+1,3,#[.int .i64 0]),(qb+1+1+1,4,#[.bool false]),(g1,195,#[.func (.func 143) #[] #[.pointer (some ⟨qb,0,none⟩),.pointer (some ⟨qb+1,0,none⟩),.pointer (some ⟨qb+1+1,0,none⟩)]]),(Ba,25,#[.slice (some ⟨ga,oa,none⟩) na ca])] W)=I:=⟨_,rfl⟩
   have HI:Hid (∀ pre W,IB pre W ↔ ((True)∧Fr w [] [(qb,25,#[.slice (some ⟨ga,oa,none⟩) na ca]),(qb+1,25,#[.slice (some ⟨gb,ob,none⟩) nb cb]),(qb+1+1,3,#[.int .i64 0]),(qb+1+1+1,4,#[.bool false]),(g1,195,#[.func (.func 143) #[] #[.pointer (some ⟨qb,0,none⟩),.pointer (some ⟨qb+1,0,none⟩),.pointer (some ⟨qb+1+1,0,none⟩)]]),(Ba,25,#[.slice (some ⟨ga,oa,none⟩) na ca])] W)):=Lib.hid fun pre W=>by rw [← hIB]
   have HOI:Hid (OwnFrom w13.heap.size IB):=Lib.hid (by
    rw [← hIB]
    rintro pre A B row ⟨h1,h2⟩ hgr hr
    exact ⟨h1,h2.turned hws hgr hr⟩)
   obtain ⟨Ix,hIx⟩:∃ Ix:Code→List (Fin na)→World→Prop,(fun cd pre W=>cd=.ret∧(∃ du dv,SepUV du dv na pa nb pb)∧Fr w [] [(qb,25,#[.slice (some ⟨ga,oa,none⟩) na ca]),(qb+1,25,#[.slice (some ⟨gb,ob,none⟩) nb cb]),(qb+1+1,3,#[.int .i64 0]),(qb+1+1+1,4,#[.bool true]),(g1,195,#[.func (.func 143) #[] #[.pointer (some ⟨qb,0,none⟩),.pointer (some ⟨qb+1,0,none⟩),.pointer (some ⟨qb+1+1,0,none⟩)]]),(Ba,25,#[.slice (some ⟨ga,oa,none⟩) na ca])] W)=Ix:=⟨_,rfl⟩
   have HIX:Hid (∀ cd pre W,Ix cd pre W ↔ (cd=.ret∧(∃ du dv,SepUV du dv na pa nb pb)∧Fr w [] [(qb,25,#[.slice (some ⟨ga,oa,none⟩) na ca]),(qb+1,25,#[.slice (some ⟨gb,ob,none⟩) nb cb]),(qb+1+1,3,#[.int .i64 0]),(qb+1+1+1,4,#[.bool true]),(g1,195,#[.func (.func 143) #[] #[.pointer (some ⟨qb,0,none⟩),.pointer (some ⟨qb+1,0,none⟩),.pointer (some ⟨qb+1+1,0,none⟩)]]),(Ba,25,#[.slice (some ⟨ga,oa,none⟩) na ca])] W)):=Lib.hid fun cd pre W=>by rw [← hIx]
   have HOX:Hid (∀ cd,OwnFrom w13.heap.size (Ix cd)):=Lib.hid fun cd=>by
    rw [← hIx]
    rintro pre A B row ⟨h0,h1,h2⟩ hgr hr
    exact ⟨h0,h1,h2.turned hws hgr hr⟩
   have HKW:Hid (∀ b ∈ [Ba,ga],∀ {W:World} {N:List Ent},Fr w [] N W→(∃ cs,(Ba,25,cs) ∈ N)→b<W.heap.size):=Lib.hid fun b hb W N hf hm=>by
    simp only [List.mem_cons,List.not_mem_nil,or_false] at hb
    rcases hb with rfl | rfl
    ·obtain ⟨cs,hm⟩:=hm;exact (hf.new _ hm).2.lt
    ·exact Nat.lt_of_lt_of_le HSPa.out.1 hf.size
   obtain ⟨Ax,hAx⟩:∃ Ax:Fin na→Act→World→Prop,(fun x a' W=>∃ gx gy,a'=⟨#[.slice (some ⟨ga,oa,none⟩) na ca,.slice (some ⟨gb,ob,none⟩) nb cb,.int .i64 0,.pointer (some ⟨qb,0,none⟩),.pointer (some ⟨qb+1,0,none⟩),.pointer (some ⟨qb+1+1,0,none⟩),.pointer (some ⟨qb+1+1+1,0,none⟩),.pointer (some ⟨g1,0,none⟩),undef,.slice (some ⟨ga,oa,none⟩) na ca,.pointer (some ⟨gx,0,none⟩),.pointer (some ⟨gy,0,none⟩),.func (.func 143) #[] #[.pointer (some ⟨qb,0,none⟩),.pointer (some ⟨qb+1,0,none⟩),.pointer (some ⟨qb+1+1,0,none⟩)],.func (.func 143) #[] #[.pointer (some ⟨qb,0,none⟩),.pointer (some ⟨qb+1,0,none⟩),.pointer (some ⟨qb+1+1,0,none⟩)],.bool false,.bool false,.func (.func 143) #[] #[.pointer (some ⟨qb,0,none⟩),.pointer (some ⟨qb+1,0,none⟩),.pointer (some ⟨qb+1+1,0,none⟩)],.bool false,.bool false,.slice (some ⟨ga,oa,none⟩) na ca,.slice (some ⟨gb,ob,none⟩) nb cb,.agg #[.slice (some ⟨ga,oa,none⟩) na ca,.slice (some ⟨gb,ob,none⟩) nb cb],.int .i64 0,.bool true,.slice (some ⟨ga,oa,none⟩) na ca,.slice (some ⟨ga,oa,none⟩) na ca,.func (.func 147) #[] #[.pointer (some ⟨Ba,0,none⟩)],spotV (pa x.val),spotV (pa ((x.val+1) % na)),undef,undef,undef,undef,undef,undef,undef,undef,undef,undef,undef,undef,undef],[]⟩∧Bk W gx 56 #[.int .i64 (pa x.val).x,.int .i64 (pa x.val).y]∧Bk W gy 56 #[.int .i64 (pa ((x.val+1) % na)).x,.int .i64 (pa ((x.val+1) % na)).y]∧gx ∉ [qb+1+1+1]∧gy ∉ [qb+1+1+1])=Ax:=⟨_,rfl⟩
   have HAX:Hid (∀ x a' W,Ax x a' W ↔ (∃ gx gy,a'=⟨#[.slice (some ⟨ga,oa,none⟩) na ca,.slice (some ⟨gb,ob,none⟩) nb cb,.int .i64 0,.pointer (some ⟨qb,0,none⟩),.pointer (some ⟨qb+1,0,none⟩),.pointer (some ⟨qb+1+1,0,none⟩),.pointer (some ⟨qb+1+1+1,0,none⟩),.pointer (some ⟨g1,0,none⟩),undef,.slice (some ⟨ga,oa,none⟩) na ca,.pointer (some ⟨gx,0,none⟩),.pointer (some ⟨gy,0,none⟩),.func (.func 143) #[] #[.pointer (some ⟨qb,0,none⟩),.pointer (some ⟨qb+1,0,none⟩),.pointer (some ⟨qb+1+1,0,none⟩)],.func (.func 143) #[] #[.pointer (some ⟨qb,0,none⟩),.pointer (some ⟨qb+1,0,none⟩),.pointer (some ⟨qb+1+1,0,none⟩)],.bool false,.bool false,.func (.func 143) #[] #[.pointer (some ⟨qb,0,none⟩),.pointer (some ⟨qb+1,0,none⟩),.pointer (some ⟨qb+1+1,0,none⟩)],.bool false,.bool false,.slice (some ⟨ga,oa,none⟩) na ca,.slice (some ⟨gb,ob,none⟩) nb cb,.agg #[.slice (some ⟨ga,oa,none⟩) na ca,.slice (some ⟨gb,ob,none⟩) nb cb],.int .i64 0,.bool true,.slice (some ⟨ga,oa,none⟩) na ca,.slice (some ⟨ga,oa,none⟩) na ca,.func (.func 147) #[] #[.pointer (some ⟨Ba,0,none⟩)],spotV (pa x.val),spotV (pa ((x.val+1) % na)),undef,undef,undef,undef,undef,undef,undef,undef,undef,undef,undef,undef,undef],[]⟩∧Bk W gx 56 #[.int .i64 (pa x.val).x,.int .i64 (pa x.val).y]∧Bk W gy 56 #[.int .i64 (pa ((x.val+1) % na)).x,.int .i64 (pa ((x.val+1) % na)).y]∧gx ∉ [qb+1+1+1]∧gy ∉ [qb+1+1+1])):=Lib.hid fun x a' W=>by rw [← hAx]
   have HOA:Hid (∀ x a',OwnFrom w13.heap.size (fun (_:Unit) W=>Ax x a' W)):=Lib.hid fun x a'=>by
    rw [← hAx]
    rintro _ A B row ⟨gx,gy,h1,h2,h3,h4⟩ hgr hr
    exact ⟨gx,gy,h1,h2.turned hgr fun r e=>(hr r e).2,h3.turned hgr fun r e=>(hr r e).2,h4⟩
   clear hIB hIx hAx
   have H0I:Hid (IB [] w13):=Lib.hid ((HI.out _ _).2 ⟨trivial,HF14.out⟩)
   go_wp2_with fail
   refine (wpIn_wide (n:=6)).1 ?_
   refine wpIn_rangeFunc_ownH (n:=6) rfl (by decide) (gf:=147) rfl trivial (enters_of Tryz.func147 (by kernel_rfl) rfl) HSTOP.out KeepL.trans (keepL_b HKB.out) (Below.refl _ _) (fun _=>rfl)
    IB Ix HOI.out HOX.out H0I.out Ax HOA.out ?assign ?body ?done ?stop
   case assign =>
    intro l pre x W K hIW hK
    have HFW:Hid (Fr W [] [] W):=Lib.hid (Fr.start W)
    have HIW:=Lib.hid hIW
    have HK:=Lib.hid hK
    unfold spotV at HAX ⊢
    dsimp only at HAX ⊢
    have hax:=HAX.out x
    obtain ⟨px,hpx⟩:∃ z,(pa x.val).x=z:=⟨_,rfl⟩
    obtain ⟨py,hpy⟩:∃ z,(pa x.val).y=z:=⟨_,rfl⟩
    obtain ⟨qx,hqx⟩:∃ z,(pa ((x.val+1) % na)).x=z:=⟨_,rfl⟩
    obtain ⟨qy,hqy⟩:∃ z,(pa ((x.val+1) % na)).y=z:=⟨_,rfl⟩
    rw [hpx,hpy,hqx,hqy] at hax ⊢
    have HAY:=Lib.hid hax
    clear hIW hK hax hpx hpy hqx hqy HAX
    obtain ⟨g201,hg201⟩:∃ ga,W.heap.size=ga:=⟨_,rfl⟩
    obtain ⟨w201,hw201⟩:∃ u,W.alloc (.cells #[.int .i64 0,.int .i64 0] 56)=u:=⟨_,rfl⟩
    have HF202:=Lib.hid (frE hw201 (HFW.out.alloc hg201.symm 56 #[.int .i64 0,.int .i64 0]))
    gi_wp2_with (first
      | (refine wpStoreFI rfl rfl 56 _ _ rfl g201 0 rfl #[.int .i64 px,.int .i64 py] rfl _ _ (iC [px,py]) (HF202.out.get 0 rfl) rfl (by show 0+2≤2;omega) (one_all rfl) info_56 ?_;intro w203 hk ho;clear hw201 hg201;have HF204:=Lib.hid (HF202.out.only 0 rfl ho hk);clear ho hk;obtain ⟨g205,hg205⟩:∃ ga,w203.heap.size=ga:=⟨_,rfl⟩;obtain ⟨w205,hw205⟩:∃ u,w203.alloc (.cells #[.int .i64 0,.int .i64 0] 56)=u:=⟨_,rfl⟩;have HF206:=Lib.hid (frE hw205 (HF204.out.alloc hg205.symm 56 #[.int .i64 0,.int .i64 0])))
      | (refine wpStoreFI rfl rfl 56 _ _ rfl g205 0 rfl #[.int .i64 qx,.int .i64 qy] rfl _ _ (iC [qx,qy]) (HF206.out.get 1 rfl) rfl (by show 0+2≤2;omega) (one_all rfl) info_56 ?_;intro w207 hk ho;clear hw205 hg205;have HF208:=Lib.hid (HF206.out.only 1 rfl ho hk);clear ho hk))
    have hb:=HF208.out.toBelow
    obtain ⟨hi1,hi2⟩:=(HI.out _ _).1 HIW.out
    have hno:∀ q,W.heap.size≤q→q ∉ [qb+1+1+1]:=fun q hq hm=>by
     simp only [List.mem_cons,List.not_mem_nil,or_false] at hm
     have e3:=(hi2.get 3 rfl).lt
     omega
    exact HK.out _ _ ((HF208.out.keepsOthers (by simp)).from _) (HF208.out.keepL fun b hb=>⟨HKW.out b hb hi2 ⟨_,List.mem_of_getElem? (i:=5) rfl⟩,by simp⟩) ((HI.out _ _).2 ⟨hi1,hi2.below hb⟩) ((HAY.out _ _).2 ⟨g201,g205,rfl,(HF208.out.get 0 rfl),(HF208.out.get 1 rfl),hno _ (HF208.out.ge 0 rfl),hno _ (HF208.out.ge 1 rfl)⟩)
   case body =>
    intro l pre x a' W hDl hrec hIW hAx hpl
    obtain ⟨gx,gy,rfl,hgx,hgy,hxo,hyo⟩:=(HAX.out _ _ _).1 hAx
    obtain ⟨h1,h2⟩:=(HI.out _ _).1 hIW
    obtain ⟨PB,hPB⟩:∃ Q,ownPostG w13.heap.size (KeepL [Ba,ga]) IB Ix (pre ++ [x]) W=Q:=⟨_,rfl⟩
    have hkeys:∀ b ∈ [Ba,ga],b<W.heap.size∧b ∉ [qb+1+1+1]:=fun b hb=>by
     have e3:=h2.ge 3 rfl
     have hnd:=h2.ndN
     simp only [List.map_cons,List.map_nil,List.nodup_cons,List.mem_cons,List.not_mem_nil,or_false,not_or] at hnd
     simp only [List.mem_cons,List.not_mem_nil,or_false] at hb ⊢
     have hG:=HSPa.out.1
     have hB:=(h2.get 5 rfl).lt
     have hs:=h2.size
     rcases hb with rfl | rfl <;> (refine ⟨by omega,?_⟩;omega)
    have hoth:∀ {O':List Ent},O'.map (·.1)=[qb+1+1+1]→∀ y ∈ O',∃ t cs,Bk W y.1 t cs:=fun {O'} ho y hy=>by
     have hm:y.1 ∈ O'.map (·.1):=List.mem_map.2 ⟨y,hy,rfl⟩
     rw [ho] at hm
     generalize y.1=b at hm
     simp only [List.mem_cons,List.not_mem_nil,or_false] at hm
     rcases hm with rfl
     exact ⟨_,_,h2.get 3 rfl⟩
    have HEN:Hid (∀ a W',(True)→Fr W [(qb+1+1+1,4,#[.bool false])] [] W'→PB .normal a W'):=Lib.hid fun a W' hc hf=>by
     rw [← hPB]
     exact ⟨(hf.keepsOthers (hoth rfl)).from _,hf.keepL hkeys,(HI.out _ _).2 ⟨hc,h2.turns [false,false,false,true,false,false] hf ⟨rfl,trivial⟩⟩⟩
    have HER:Hid (∀ a W',(∃ du dv,SepUV du dv na pa nb pb)→Fr W [(qb+1+1+1,4,#[.bool true])] [] W'→PB .ret a W'):=Lib.hid fun a W' hc hf=>by
     rw [← hPB]
     exact ⟨(hf.keepsOthers (hoth rfl)).from _,(HIX.out _ _ _).2 ⟨rfl,hc,h2.turns [false,false,false,true,false,false] hf ⟨rfl,trivial⟩⟩⟩
    have HC:=Lib.hid h1
    have HSW:=Lib.hid (HSPa.out.below h2.toBelow)
    have HXL:=Lib.hid x.isLt
    have HPL:=Lib.hid hpl
    rw [hPB]
    have HFB:Hid (Fr W [(qb+1+1+1,4,#[.bool false])] [] W):=Lib.hid (Fr.startL (fun y hy=>by
     simp only [List.mem_cons,List.not_mem_nil,or_false] at hy
     rcases hy with rfl
     ·exact h2.get 3 rfl) (by have hnd:=h2.ndN;simp only [List.map_cons,List.map_nil,List.nodup_cons,List.mem_cons,List.not_mem_nil,or_false,not_or] at hnd;simp;try omega))
    have HGX:=Lib.hid hgx
    have HGY:=Lib.hid hgy
    have HXO:=Lib.hid hxo
    have HYO:=Lib.hid hyo
    clear hxo hyo
    have HT0:=Lib.hid (h2.get 0 rfl)
    have HT1:=Lib.hid (h2.get 1 rfl)
    have HT2:=Lib.hid (h2.get 2 rfl)
    have HT4:=Lib.hid (h2.get 4 rfl)
    have HT5:=Lib.hid (h2.get 5 rfl)
    have hva:=HPa.out x.val HXL.out
    have hvb:=HPa.out ((x.val+1) % na) (Nat.mod_lt _ (by have:=HXL.out;omega))
    have hds:=dir_sub hva hvb
    have hbel:=h2.toBelow
    obtain ⟨⟨px,py⟩,hpx⟩:∃ z,pa x.val=z:=⟨_,rfl⟩
    obtain ⟨⟨qx,qy⟩,hqx⟩:∃ z,pa ((x.val+1) % na)=z:=⟨_,rfl⟩
    unfold spotV
    rw [hpx,hqx] at hds
    rw [hpx] at HGX ⊢
    rw [hqx] at HGY ⊢
    dsimp only at HGX HGY hds ⊢
    have HSX:=Lib.hid (HSE.out qb (qb+1) (qb+1+1) (py - qy) (qx - px) W hds.1 hds.2 hbel HT0.out HT1.out HT2.out)
    obtain ⟨hd1,hd2⟩:=hds
    unfold dirOk at hd1 hd2
    have m1:IntKind.i64.wrap (py - qy)=py - qy:=IntWalk.i64_in _ (by omega)
    have n1:wrap64 (py - qy)=py - qy:=w64_in (by omega) (by omega)
    have m2:IntKind.i64.wrap (qx - px)=qx - px:=IntWalk.i64_in _ (by omega)
    have n2:wrap64 (qx - px)=qx - px:=w64_in (by omega) (by omega)
    clear hPB hkeys hoth hgx hgy h1 h2 hIW hAx hpl hrec hDl hva hvb hpx hqx hd1 hd2 hbel
    have c301:W.cell? ⟨g1,0,none⟩=some (.func (.func 143) #[] #[.pointer (some ⟨qb,0,none⟩),.pointer (some ⟨qb+1,0,none⟩),.pointer (some ⟨qb+1+1,0,none⟩)]):=HT4.out.cell 0
    have c302:W.cell? ⟨gx,1,none⟩=some (.int .i64 py):=(show Bk _ gx 56 _ from (HFB.out.far _ HGX.out.lt HXO.out).trans HGX.out).cell 1
    have c303:W.cell? ⟨gy,1,none⟩=some (.int .i64 qy):=(show Bk _ gy 56 _ from (HFB.out.far _ HGY.out.lt HYO.out).trans HGY.out).cell 1
    have c304:W.cell? ⟨gy,0,none⟩=some (.int .i64 qx):=(show Bk _ gy 56 _ from (HFB.out.far _ HGY.out.lt HYO.out).trans HGY.out).cell 0
    have c305:W.cell? ⟨gx,0,none⟩=some (.int .i64 px):=(show Bk _ gx 56 _ from (HFB.out.far _ HGX.out.lt HXO.out).trans HGX.out).cell 0
    gi_wp2_with fail
    clear c301 c302 c303 c304 c305
    refine ⟨trivial,?_⟩
    refine (CallsIn.inRound l (callsIn_wide.2 (HSX.out))).mono ?_
    rintro e w306 ⟨⟨sx,rfl,hsx⟩,hw⟩
    have HF307:=Lib.hid (HFB.out.below hw)
    clear hw
    have HSY:=Lib.hid hsx
    clear hsx
    cases sx with
    | true =>
     gi_wp2_with (refine wpStoreCellI rfl rfl 4 _ _ rfl (qb+1+1+1) 0 rfl (.bool true) rfl _ _ (HF307.out.getO 0 rfl) (by show 0<1;omega) rfl (by kernel_rfl) ?_;intro w308 hk ho;have HF309:=Lib.hid (HF307.out.onlyO 0 rfl ho hk);clear ho hk)
     exact HER.out _ _ ⟨_,_,HSY.out (by trivial)⟩ HF309.out.drop
    | false =>
     gi_wp2_with fail
     exact HEN.out _ _ trivial HF307.out.drop
   case stop =>
    intro D cd pre W hD hSp hIx hK
    obtain ⟨rfl,⟨du,dv,h1⟩,h2⟩:=(HIX.out _ _ _).1 hIx
    have h6:=h2.putObj (.deferred none) (Nat.le_trans HF14.out.size hD) hK rfl
    have HKD:=Lib.hid hK
    have HH:=Lib.hid (And.intro (HFIN.out _ true (fun _=>⟨du,dv,h1⟩) h6.drop) (h6.get 3 rfl))
    clear hD hSp hIx hK h1 h2 h6
    refine wpIn_wide.2 ?_
    go_wp2_with fail
    refine ⟨by simp,.inl ⟨_,_,rfl,run_takeDeferred HKD.out,?_⟩⟩
    exact ⟨_,results_c1 rfl _ _ (qb+1+1+1) 4 _ _ rfl HH.out.2 und_4 rfl,HH.out.1⟩
   case done =>
    intro D ys W hD hys hIW hK
    obtain ⟨h1,h2⟩:=(HI.out _ _).1 hIW
    have HFB:Hid (Fr W [(qb+1+1+1,4,#[.bool false])] [] W):=Lib.hid (Fr.startL (fun y hy=>by
     simp only [List.mem_cons,List.not_mem_nil,or_false] at hy
     rcases hy with rfl
     ·exact h2.get 3 rfl) (by have hnd:=h2.ndN;simp only [List.map_cons,List.map_nil,List.nodup_cons,List.mem_cons,List.not_mem_nil,or_false,not_or] at hnd;simp;try omega))
    have HKD:=Lib.hid hK
    have H2:=Lib.hid h2
    have HC:=Lib.hid h1
    have HYS:=Lib.hid hys
    have HDD:=Lib.hid hD
    have HT0:=Lib.hid (h2.get 0 rfl)
    have HT1:=Lib.hid (h2.get 1 rfl)
    have HT2:=Lib.hid (h2.get 2 rfl)
    have HT4:=Lib.hid (h2.get 4 rfl)
    have HT5:=Lib.hid (h2.get 5 rfl)
    clear hD hys hIW hK h1 h2
    have HDW:=Lib.hid (Nat.le_trans HF14.out.size HDD.out)
    have H3:=HKD
    obtain ⟨D1,rfl⟩:∃ u:Nat,u=D:=⟨_,rfl⟩
    obtain ⟨wA,rfl⟩:∃ u:World,u=W:=⟨_,rfl⟩
    clear HC HYS HKB HI HOI HIX HOX HSTOP HAX HOA H0I HKW HS0
    go_wp2_with fail
    rw [rounds_succ]
    go_wp2_with fail
    refine (edges_fr _ _ _ _).mono ?_
    rintro e w501 ⟨Bb,rfl,hw⟩
    have HBW:=Lib.hid hw.toBelow
    have HF502:Hid (Fr w [] [(qb,25,#[.slice (some ⟨ga,oa,none⟩) na ca]),(qb+1,25,#[.slice (some ⟨gb,ob,none⟩) nb cb]),(qb+1+1,3,iC [0]),(qb+1+1+1,4,#[.bool false]),(g1,195,#[.func (.func 143) #[] #[.pointer (some ⟨qb,0,none⟩),.pointer (some ⟨qb+1,0,none⟩),.pointer (some ⟨qb+1+1,0,none⟩)]]),(Ba,25,#[.slice (some ⟨ga,oa,none⟩) na ca]),(Bb,25,#[.slice (some ⟨gb,ob,none⟩) nb cb])] w501):=Lib.hid (H2.out.more hw)
    clear hw
    have HDL:Hid (D1<w501.heap.size):=Lib.hid (mark_lt (mark_below H3.out HBW.out))
    have hws:w.heap.size≤w501.heap.size:=HF502.out.size
    have HS0:=Lib.hid (HSPb.out.below HF502.out.toBelow)
    have HKB:Hid (∀ x,x ∈ [Bb,gb]→x<w501.heap.size):=Lib.hid fun x hx=>by
     simp only [List.mem_cons,List.not_mem_nil,or_false] at hx
     rcases hx with rfl | rfl
     ·exact (HF502.out.get 6 rfl).lt
     ·exact HS0.out.1
    have HBG:Bb ≠ gb:=fun e=>by
     have h1:=HF502.out.ge 6 rfl
     have h2:=HSPb.out.1
     omega
    have HSTOP:=Lib.hid (edges_stops Bb gb ob nb cb pb HNb.out HBG w501 (HF502.out.get 6 rfl) HS0.out.1 HS0.out.2)
    obtain ⟨IB,hIB⟩:∃ I:List (Fin nb)→World→Prop,(fun pre W=>(True)∧Fr w [] [(qb,25,#[.slice (some ⟨ga,oa,none⟩) na ca]),(qb+1,25,#[.slice (some ⟨gb,ob,none⟩) nb cb]),(qb+1+1,3,#[.int .i64 0]),(qb+1+1+1,4,#[.bool false]),(g1,195,#[.func (.func 143) #[] #[.pointer (some ⟨qb,0,none⟩),.pointer (some ⟨qb+1,0,none⟩),.pointer (some ⟨qb+1+1,0,none⟩)]]),(Ba,25,#[.slice (some ⟨ga,oa,none⟩) na ca]),(Bb,25,#[.slice (some ⟨gb,ob,none⟩) nb cb])] W∧W.heap[D1]?=some (.deferred (some [])))=I:=⟨_,rfl⟩
    have HI:Hid (∀ pre W,IB pre W ↔ ((True)∧Fr w [] [(qb,25,#[.slice (some ⟨ga,oa,none⟩) na ca]),(qb+1,25,#[.slice (some ⟨gb,ob,none⟩) nb cb]),(qb+1+1,3,#[.int .i64 0]),(qb+1+1+1,4,#[.bool false]),(g1,195,#[.func (.func 143) #[] #[.pointer (some ⟨qb,0,none⟩),.pointer (some ⟨qb+1,0,none⟩),.pointer (some ⟨qb+1+1,0,none⟩)]]),(Ba,25,#[.slice (some ⟨ga,oa,none⟩) na ca]),(Bb,25,#[.slice (some ⟨gb,ob,none⟩) nb cb])] W∧W.heap[D1]?=some (.deferred (some [])))):=Lib.hid fun pre W=>by rw [← hIB]
    have HOI:Hid (OwnFrom w501.heap.size IB):=Lib.hid (by
     rw [← hIB]
     rintro pre A B row ⟨h1,h2,h3⟩ hgr hr
     exact ⟨h1,h2.turned hws hgr hr,mark_own h3 HDL.out hgr hr⟩)
    obtain ⟨Ix,hIx⟩:∃ Ix:Code→List (Fin nb)→World→Prop,(fun cd pre W=>cd=.ret∧(∃ du dv,SepUV du dv na pa nb pb)∧Fr w [] [(qb,25,#[.slice (some ⟨ga,oa,none⟩) na ca]),(qb+1,25,#[.slice (some ⟨gb,ob,none⟩) nb cb]),(qb+1+1,3,#[.int .i64 0]),(qb+1+1+1,4,#[.bool true]),(g1,195,#[.func (.func 143) #[] #[.pointer (some ⟨qb,0,none⟩),.pointer (some ⟨qb+1,0,none⟩),.pointer (some ⟨qb+1+1,0,none⟩)]]),(Ba,25,#[.slice (some ⟨ga,oa,none⟩) na ca]),(Bb,25,#[.slice (some ⟨gb,ob,none⟩) nb cb])] W∧W.heap[D1]?=some (.deferred (some [])))=Ix:=⟨_,rfl⟩
    have HIX:Hid (∀ cd pre W,Ix cd pre W ↔ (cd=.ret∧(∃ du dv,SepUV du dv na pa nb pb)∧Fr w [] [(qb,25,#[.slice (some ⟨ga,oa,none⟩) na ca]),(qb+1,25,#[.slice (some ⟨gb,ob,none⟩) nb cb]),(qb+1+1,3,#[.int .i64 0]),(qb+1+1+1,4,#[.bool true]),(g1,195,#[.func (.func 143) #[] #[.pointer (some ⟨qb,0,none⟩),.pointer (some ⟨qb+1,0,none⟩),.pointer (some ⟨qb+1+1,0,none⟩)]]),(Ba,25,#[.slice (some ⟨ga,oa,none⟩) na ca]),(Bb,25,#[.slice (some ⟨gb,ob,none⟩) nb cb])] W∧W.heap[D1]?=some (.deferred (some [])))):=Lib.hid fun cd pre W=>by rw [← hIx]
    have HOX:Hid (∀ cd,OwnFrom w501.heap.size (Ix cd)):=Lib.hid fun cd=>by
     rw [← hIx]
     rintro pre A B row ⟨h0,h1,h2,h3⟩ hgr hr
     exact ⟨h0,h1,h2.turned hws hgr hr,mark_own h3 HDL.out hgr hr⟩
    have HKW:Hid (∀ b ∈ [Bb,gb],∀ {W:World} {N:List Ent},Fr w [] N W→(∃ cs,(Bb,25,cs) ∈ N)→b<W.heap.size):=Lib.hid fun b hb W N hf hm=>by
     simp only [List.mem_cons,List.not_mem_nil,or_false] at hb
     rcases hb with rfl | rfl
     ·obtain ⟨cs,hm⟩:=hm;exact (hf.new _ hm).2.lt
     ·exact Nat.lt_of_lt_of_le HSPb.out.1 hf.size
    obtain ⟨Ax,hAx⟩:∃ Ax:Fin nb→Act→World→Prop,(fun x a' W=>∃ gx gy,a'=⟨#[.slice (some ⟨ga,oa,none⟩) na ca,.slice (some ⟨gb,ob,none⟩) nb cb,.int .i64 0,.pointer (some ⟨qb,0,none⟩),.pointer (some ⟨qb+1,0,none⟩),.pointer (some ⟨qb+1+1,0,none⟩),.pointer (some ⟨qb+1+1+1,0,none⟩),.pointer (some ⟨g1,0,none⟩),undef,.slice (some ⟨gb,ob,none⟩) nb cb,.pointer (some ⟨gx,0,none⟩),.pointer (some ⟨gy,0,none⟩),.func (.func 143) #[] #[.pointer (some ⟨qb,0,none⟩),.pointer (some ⟨qb+1,0,none⟩),.pointer (some ⟨qb+1+1,0,none⟩)],.func (.func 143) #[] #[.pointer (some ⟨qb,0,none⟩),.pointer (some ⟨qb+1,0,none⟩),.pointer (some ⟨qb+1+1,0,none⟩)],.bool false,.bool false,.func (.func 143) #[] #[.pointer (some ⟨qb,0,none⟩),.pointer (some ⟨qb+1,0,none⟩),.pointer (some ⟨qb+1+1,0,none⟩)],.bool false,.bool false,.slice (some ⟨ga,oa,none⟩) na ca,.slice (some ⟨gb,ob,none⟩) nb cb,.agg #[.slice (some ⟨ga,oa,none⟩) na ca,.slice (some ⟨gb,ob,none⟩) nb cb],.int .i64 1,.bool true,.slice (some ⟨gb,ob,none⟩) nb cb,.slice (some ⟨gb,ob,none⟩) nb cb,.func (.func 147) #[] #[.pointer (some ⟨Bb,0,none⟩)],spotV (pb x.val),spotV (pb ((x.val+1) % nb)),undef,undef,undef,undef,undef,undef,undef,undef,undef,undef,undef,undef,.int .i64 1],[]⟩∧Bk W gx 56 #[.int .i64 (pb x.val).x,.int .i64 (pb x.val).y]∧Bk W gy 56 #[.int .i64 (pb ((x.val+1) % nb)).x,.int .i64 (pb ((x.val+1) % nb)).y]∧gx ∉ [qb+1+1+1]∧gy ∉ [qb+1+1+1])=Ax:=⟨_,rfl⟩
    have HAX:Hid (∀ x a' W,Ax x a' W ↔ (∃ gx gy,a'=⟨#[.slice (some ⟨ga,oa,none⟩) na ca,.slice (some ⟨gb,ob,none⟩) nb cb,.int .i64 0,.pointer (some ⟨qb,0,none⟩),.pointer (some ⟨qb+1,0,none⟩),.pointer (some ⟨qb+1+1,0,none⟩),.pointer (some ⟨qb+1+1+1,0,none⟩),.pointer (some ⟨g1,0,none⟩),undef,.slice (some ⟨gb,ob,none⟩) nb cb,.pointer (some ⟨gx,0,none⟩),.pointer (some ⟨gy,0,none⟩),.func (.func 143) #[] #[.pointer (some ⟨qb,0,none⟩),.pointer (some ⟨qb+1,0,none⟩),.pointer (some ⟨qb+1+1,0,none⟩)],.func (.func 143) #[] #[.pointer (some ⟨qb,0,none⟩),.pointer (some ⟨qb+1,0,none⟩),.pointer (some ⟨qb+1+1,0,none⟩)],.bool false,.bool false,.func (.func 143) #[] #[.pointer (some ⟨qb,0,none⟩),.pointer (some ⟨qb+1,0,none⟩),.pointer (some ⟨qb+1+1,0,none⟩)],.bool false,.bool false,.slice (some ⟨ga,oa,none⟩) na ca,.slice (some ⟨gb,ob,none⟩) nb cb,.agg #[.slice (some ⟨ga,oa,none⟩) na ca,.slice (some ⟨gb,ob,none⟩) nb cb],.int .i64 1,.bool true,.slice (some ⟨gb,ob,none⟩) nb cb,.slice (some ⟨gb,ob,none⟩) nb cb,.func (.func 147) #[] #[.pointer (some ⟨Bb,0,none⟩)],spotV (pb x.val),spotV (pb ((x.val+1) % nb)),undef,undef,undef,undef,undef,undef,undef,undef,undef,undef,undef,undef,.int .i64 1],[]⟩∧Bk W gx 56 #[.int .i64 (pb x.val).x,.int .i64 (pb x.val).y]∧Bk W gy 56 #[.int .i64 (pb ((x.val+1) % nb)).x,.int .i64 (pb ((x.val+1) % nb)).y]∧gx ∉ [qb+1+1+1]∧gy ∉ [qb+1+1+1])):=Lib.hid fun x a' W=>by rw [← hAx]
    have HOA:Hid (∀ x a',OwnFrom w501.heap.size (fun (_:Unit) W=>Ax x a' W)):=Lib.hid fun x a'=>by
     rw [← hAx]
     rintro _ A B row ⟨gx,gy,h1,h2,h3,h4⟩ hgr hr
     exact ⟨gx,gy,h1,h2.turned hgr fun r e=>(hr r e).2,h3.turned hgr fun r e=>(hr r e).2,h4⟩
    clear hIB hIx hAx
    have H0I:Hid (IB [] w501):=Lib.hid ((HI.out _ _).2 ⟨trivial,HF502.out,mark_below H3.out HBW.out⟩)
    go_wp2_with fail
    refine (wpIn_wide (n:=6)).1 ?_
    refine wpIn_rangeFunc_ownH (n:=6) rfl (by decide) (gf:=147) rfl trivial (enters_of Tryz.func147 (by kernel_rfl) rfl) HSTOP.out KeepL.trans (keepL_b HKB.out) (Below.refl _ _) (fun _=>rfl)
     IB Ix HOI.out HOX.out H0I.out Ax HOA.out ?assign ?body ?done ?stop
    case assign =>
     intro l pre x W K hIW hK
     have HFW:Hid (Fr W [] [] W):=Lib.hid (Fr.start W)
     have HIW:=Lib.hid hIW
     have HK:=Lib.hid hK
     unfold spotV at HAX ⊢
     dsimp only at HAX ⊢
     have hax:=HAX.out x
     obtain ⟨px,hpx⟩:∃ z,(pb x.val).x=z:=⟨_,rfl⟩
     obtain ⟨py,hpy⟩:∃ z,(pb x.val).y=z:=⟨_,rfl⟩
     obtain ⟨qx,hqx⟩:∃ z,(pb ((x.val+1) % nb)).x=z:=⟨_,rfl⟩
     obtain ⟨qy,hqy⟩:∃ z,(pb ((x.val+1) % nb)).y=z:=⟨_,rfl⟩
     rw [hpx,hpy,hqx,hqy] at hax ⊢
     have HAY:=Lib.hid hax
     clear hIW hK hax hpx hpy hqx hqy HAX
     obtain ⟨g201,hg201⟩:∃ gb,W.heap.size=gb:=⟨_,rfl⟩
     obtain ⟨w201,hw201⟩:∃ u,W.alloc (.cells #[.int .i64 0,.int .i64 0] 56)=u:=⟨_,rfl⟩
     have HF202:=Lib.hid (frE hw201 (HFW.out.alloc hg201.symm 56 #[.int .i64 0,.int .i64 0]))
     gi_wp2_with (first
       | (refine wpStoreFI rfl rfl 56 _ _ rfl g201 0 rfl #[.int .i64 px,.int .i64 py] rfl _ _ (iC [px,py]) (HF202.out.get 0 rfl) rfl (by show 0+2≤2;omega) (one_all rfl) info_56 ?_;intro w203 hk ho;clear hw201 hg201;have HF204:=Lib.hid (HF202.out.only 0 rfl ho hk);clear ho hk;obtain ⟨g205,hg205⟩:∃ gb,w203.heap.size=gb:=⟨_,rfl⟩;obtain ⟨w205,hw205⟩:∃ u,w203.alloc (.cells #[.int .i64 0,.int .i64 0] 56)=u:=⟨_,rfl⟩;have HF206:=Lib.hid (frE hw205 (HF204.out.alloc hg205.symm 56 #[.int .i64 0,.int .i64 0])))
       | (refine wpStoreFI rfl rfl 56 _ _ rfl g205 0 rfl #[.int .i64 qx,.int .i64 qy] rfl _ _ (iC [qx,qy]) (HF206.out.get 1 rfl) rfl (by show 0+2≤2;omega) (one_all rfl) info_56 ?_;intro w207 hk ho;clear hw205 hg205;have HF208:=Lib.hid (HF206.out.only 1 rfl ho hk);clear ho hk))
     have hb:=HF208.out.toBelow
     obtain ⟨hi1,hi2,hi3⟩:=(HI.out _ _).1 HIW.out
     have hno:∀ q,W.heap.size≤q→q ∉ [qb+1+1+1]:=fun q hq hm=>by
      simp only [List.mem_cons,List.not_mem_nil,or_false] at hm
      have e3:=(hi2.get 3 rfl).lt
      omega
     exact HK.out _ _ ((HF208.out.keepsOthers (by simp)).from _) (HF208.out.keepL fun b hb=>⟨HKW.out b hb hi2 ⟨_,List.mem_of_getElem? (i:=6) rfl⟩,by simp⟩) ((HI.out _ _).2 ⟨hi1,hi2.below hb,mark_below hi3 hb⟩) ((HAY.out _ _).2 ⟨g201,g205,rfl,(HF208.out.get 0 rfl),(HF208.out.get 1 rfl),hno _ (HF208.out.ge 0 rfl),hno _ (HF208.out.ge 1 rfl)⟩)
    case body =>
     intro l pre x a' W hDl hrec hIW hAx hpl
     obtain ⟨gx,gy,rfl,hgx,hgy,hxo,hyo⟩:=(HAX.out _ _ _).1 hAx
     obtain ⟨h1,h2,h3⟩:=(HI.out _ _).1 hIW
     obtain ⟨PB,hPB⟩:∃ Q,ownPostG w501.heap.size (KeepL [Bb,gb]) IB Ix (pre ++ [x]) W=Q:=⟨_,rfl⟩
     have hkeys:∀ b ∈ [Bb,gb],b<W.heap.size∧b ∉ [qb+1+1+1]:=fun b hb=>by
      have e3:=h2.ge 3 rfl
      have hnd:=h2.ndN
      simp only [List.map_cons,List.map_nil,List.nodup_cons,List.mem_cons,List.not_mem_nil,or_false,not_or] at hnd
      simp only [List.mem_cons,List.not_mem_nil,or_false] at hb ⊢
      have hG:=HSPb.out.1
      have hB:=(h2.get 6 rfl).lt
      have hs:=h2.size
      rcases hb with rfl | rfl <;> (refine ⟨by omega,?_⟩;omega)
     have hoth:∀ {O':List Ent},O'.map (·.1)=[qb+1+1+1]→∀ y ∈ O',∃ t cs,Bk W y.1 t cs:=fun {O'} ho y hy=>by
      have hm:y.1 ∈ O'.map (·.1):=List.mem_map.2 ⟨y,hy,rfl⟩
      rw [ho] at hm
      generalize y.1=b at hm
      simp only [List.mem_cons,List.not_mem_nil,or_false] at hm
      rcases hm with rfl
      exact ⟨_,_,h2.get 3 rfl⟩
     have hdn:D1 ∉ [qb+1+1+1]:=fun hm=>by
      simp only [List.mem_cons,List.not_mem_nil,or_false] at hm
      rcases hm with rfl
      ·have h4:=h2.get 3 rfl;rw [show W.heap[_]?=_ from h4] at h3;cases h3
     have HEN:Hid (∀ a W',(True)→Fr W [(qb+1+1+1,4,#[.bool false])] [] W'→PB .normal a W'):=Lib.hid fun a W' hc hf=>by
      rw [← hPB]
      exact ⟨(hf.keepsOthers (hoth rfl)).from _,hf.keepL hkeys,(HI.out _ _).2 ⟨hc,h2.turns [false,false,false,true,false,false,false] hf ⟨rfl,trivial⟩,(hf.far _ (mark_lt h3) hdn).trans h3⟩⟩
     have HER:Hid (∀ a W',(∃ du dv,SepUV du dv na pa nb pb)→Fr W [(qb+1+1+1,4,#[.bool true])] [] W'→PB .ret a W'):=Lib.hid fun a W' hc hf=>by
      rw [← hPB]
      exact ⟨(hf.keepsOthers (hoth rfl)).from _,(HIX.out _ _ _).2 ⟨rfl,hc,h2.turns [false,false,false,true,false,false,false] hf ⟨rfl,trivial⟩,(hf.far _ (mark_lt h3) hdn).trans h3⟩⟩
     have HC:=Lib.hid h1
     have HSW:=Lib.hid (HSPb.out.below h2.toBelow)
     have HXL:=Lib.hid x.isLt
     have HPL:=Lib.hid hpl
     rw [hPB]
     have HFB:Hid (Fr W [(qb+1+1+1,4,#[.bool false])] [] W):=Lib.hid (Fr.startL (fun y hy=>by
      simp only [List.mem_cons,List.not_mem_nil,or_false] at hy
      rcases hy with rfl
      ·exact h2.get 3 rfl) (by have hnd:=h2.ndN;simp only [List.map_cons,List.map_nil,List.nodup_cons,List.mem_cons,List.not_mem_nil,or_false,not_or] at hnd;simp;try omega))
     have HGX:=Lib.hid hgx
     have HGY:=Lib.hid hgy
     have HXO:=Lib.hid hxo
     have HYO:=Lib.hid hyo
     clear hxo hyo
     have HT0:=Lib.hid (h2.get 0 rfl)
     have HT1:=Lib.hid (h2.get 1 rfl)
     have HT2:=Lib.hid (h2.get 2 rfl)
     have HT4:=Lib.hid (h2.get 4 rfl)
     have HT5:=Lib.hid (h2.get 5 rfl)
     have HT6:=Lib.hid (h2.get 6 rfl)
     have hva:=HPb.out x.val HXL.out
     have hvb:=HPb.out ((x.val+1) % nb) (Nat.mod_lt _ (by have:=HXL.out;omega))
     have hds:=dir_sub hva hvb
     have hbel:=h2.toBelow
     obtain ⟨⟨px,py⟩,hpx⟩:∃ z,pb x.val=z:=⟨_,rfl⟩
     obtain ⟨⟨qx,qy⟩,hqx⟩:∃ z,pb ((x.val+1) % nb)=z:=⟨_,rfl⟩
     unfold spotV
     rw [hpx,hqx] at hds
     rw [hpx] at HGX ⊢
     rw [hqx] at HGY ⊢
     dsimp only at HGX HGY hds ⊢
     have HSX:=Lib.hid (HSE.out qb (qb+1) (qb+1+1) (py - qy) (qx - px) W hds.1 hds.2 hbel HT0.out HT1.out HT2.out)
     obtain ⟨hd1,hd2⟩:=hds
     unfold dirOk at hd1 hd2
     have m1:IntKind.i64.wrap (py - qy)=py - qy:=IntWalk.i64_in _ (by omega)
     have n1:wrap64 (py - qy)=py - qy:=w64_in (by omega) (by omega)
     have m2:IntKind.i64.wrap (qx - px)=qx - px:=IntWalk.i64_in _ (by omega)
     have n2:wrap64 (qx - px)=qx - px:=w64_in (by omega) (by omega)
     clear hPB hkeys hoth hgx hgy h1 h2 hIW hAx hpl hrec hDl hva hvb hpx hqx hd1 hd2 hbel h3 hdn
     have c301:W.cell? ⟨g1,0,none⟩=some (.func (.func 143) #[] #[.pointer (some ⟨qb,0,none⟩),.pointer (some ⟨qb+1,0,none⟩),.pointer (some ⟨qb+1+1,0,none⟩)]):=HT4.out.cell 0
     have c302:W.cell? ⟨gx,1,none⟩=some (.int .i64 py):=(show Bk _ gx 56 _ from (HFB.out.far _ HGX.out.lt HXO.out).trans HGX.out).cell 1
     have c303:W.cell? ⟨gy,1,none⟩=some (.int .i64 qy):=(show Bk _ gy 56 _ from (HFB.out.far _ HGY.out.lt HYO.out).trans HGY.out).cell 1
     have c304:W.cell? ⟨gy,0,none⟩=some (.int .i64 qx):=(show Bk _ gy 56 _ from (HFB.out.far _ HGY.out.lt HYO.out).trans HGY.out).cell 0
     have c305:W.cell? ⟨gx,0,none⟩=some (.int .i64 px):=(show Bk _ gx 56 _ from (HFB.out.far _ HGX.out.lt HXO.out).trans HGX.out).cell 0
     gi_wp2_with fail
     clear c301 c302 c303 c304 c305
     refine ⟨trivial,?_⟩
     refine (CallsIn.inRound l (callsIn_wide.2 (HSX.out))).mono ?_
     rintro e w306 ⟨⟨sx,rfl,hsx⟩,hw⟩
     have HF307:=Lib.hid (HFB.out.below hw)
     clear hw
     have HSY:=Lib.hid hsx
     clear hsx
     cases sx with
     | true =>
      gi_wp2_with (refine wpStoreCellI rfl rfl 4 _ _ rfl (qb+1+1+1) 0 rfl (.bool true) rfl _ _ (HF307.out.getO 0 rfl) (by show 0<1;omega) rfl (by kernel_rfl) ?_;intro w308 hk ho;have HF309:=Lib.hid (HF307.out.onlyO 0 rfl ho hk);clear ho hk)
      exact HER.out _ _ ⟨_,_,HSY.out (by trivial)⟩ HF309.out.drop
     | false =>
      gi_wp2_with fail
      exact HEN.out _ _ trivial HF307.out.drop
    case stop =>
     intro D cd pre W hD hSp hIx hK
     obtain ⟨rfl,⟨du,dv,h1⟩,h2,h3⟩:=(HIX.out _ _ _).1 hIx
     have h6:=h2.putObj (.deferred none) (Nat.le_trans HF502.out.size hD) hK rfl
     have HKD:=Lib.hid hK
     have hne:D1 ≠ D:=by have:=HDL.out;omega
     have h7:=mark_put (o':=.deferred none) h3 hne
     have h8:=h6.putObj (.deferred none) HDW.out h7 rfl
     have HK2:=Lib.hid h7
     have HH:=Lib.hid (And.intro (HFIN.out _ true (fun _=>⟨du,dv,h1⟩) h8.drop) (h8.get 3 rfl))
     clear hD hSp hIx hK h1 h2 h3 h6 h7 h8 hne
     refine wpIn_wide.2 ?_
     go_wp2_with fail
     refine ⟨by simp,.inl ⟨_,_,rfl,run_takeDeferred HKD.out,by simp,.inl ⟨_,_,rfl,run_takeDeferred HK2.out,?_⟩⟩⟩
     exact ⟨_,results_c1 rfl _ _ (qb+1+1+1) 4 _ _ rfl HH.out.2 und_4 rfl,HH.out.1⟩
    case done =>
     intro D ys W hD hys hIW hK
     obtain ⟨h1,h2,h3⟩:=(HI.out _ _).1 hIW
     have H3:=Lib.hid h3
     have HFB:Hid (Fr W [(qb+1+1+1,4,#[.bool false])] [] W):=Lib.hid (Fr.startL (fun y hy=>by
      simp only [List.mem_cons,List.not_mem_nil,or_false] at hy
      rcases hy with rfl
      ·exact h2.get 3 rfl) (by have hnd:=h2.ndN;simp only [List.map_cons,List.map_nil,List.nodup_cons,List.mem_cons,List.not_mem_nil,or_false,not_or] at hnd;simp;try omega))
     have HKD:=Lib.hid hK
     have H2:=Lib.hid h2
     have HC:=Lib.hid h1
     have HYS:=Lib.hid hys
     have HDD:=Lib.hid hD
     have HT0:=Lib.hid (h2.get 0 rfl)
     have HT1:=Lib.hid (h2.get 1 rfl)
     have HT2:=Lib.hid (h2.get 2 rfl)
     have HT4:=Lib.hid (h2.get 4 rfl)
     have HT5:=Lib.hid (h2.get 5 rfl)
     have HT6:=Lib.hid (h2.get 6 rfl)
     clear hD hys hIW hK h1 h2
     have HEND:Hid (∀ W',Fr W [(qb+1+1+1,4,#[.bool false])] [] W'→W'.heap[D]?=some (.deferred (some []))∧(W'.putObj D (.deferred none)).heap[D1]?=some (.deferred (some []))∧PQ (.returned (.bool false)) ((W'.putObj D (.deferred none)).putObj D1 (.deferred none))∧Bk ((W'.putObj D (.deferred none)).putObj D1 (.deferred none)) (qb+1+1+1) 4 #[.bool false]):=Lib.hid fun W' hf=>by
      have hoth:∀ y ∈ ([(qb+1+1+1,4,#[.bool false])]:List Ent),∃ t cs,Bk W y.1 t cs:=fun y hy=>by
       simp only [List.mem_cons,List.not_mem_nil,or_false] at hy
       rcases hy with rfl
       exact ⟨_,_,H2.out.get 3 rfl⟩
      have hDK:W'.heap[D]?=some (.deferred (some [])):=(hf.keepsOthers hoth).same D _ HKD.out rfl
      have hD1:W'.heap[D1]?=some (.deferred (some [])):=(hf.keepsOthers hoth).same D1 _ H3.out rfl
      have hne:D1 ≠ D:=by have:=HDL.out;have:=HDD.out;omega
      have h6:=(H2.out.turns [false,false,false,true,false,false,false] hf ⟨rfl,trivial⟩).putObj (.deferred none) (Nat.le_trans HF502.out.size HDD.out) hDK rfl
      have h7:=mark_put (o':=.deferred none) hD1 hne
      have h8:=h6.putObj (.deferred none) HDW.out h7 rfl
      exact ⟨hDK,h7,HFIN.out _ _ (fun h=>by cases h) h8.drop,h8.get 3 rfl⟩
     go_wp2_with fail
     rw [rounds_succ]
     go_wp2_with (refine wpStoreCell rfl rfl 4 _ _ rfl (qb+1+1+1) 0 rfl (.bool false) rfl _ _ (HFB.out.getO 0 rfl) (by show 0<1;omega) rfl (by kernel_rfl) ?_;intro w401 hk ho;have HF402:=Lib.hid (HFB.out.onlyO 0 rfl ho hk);clear ho hk)
     obtain ⟨hd1,hd2,hd3,hd4⟩:=HEND.out _ HF402.out.drop
     refine ⟨by simp,.inl ⟨_,_,rfl,run_takeDeferred hd1,by simp,.inl ⟨_,_,rfl,run_takeDeferred hd2,?_⟩⟩⟩
     exact ⟨_,results_c1 rfl _ _ (qb+1+1+1) 4 _ _ rfl hd4 und_4 rfl,hd3⟩
end Go.Proofs.YtmkoegljnebdiaaGreat
namespace Go.Proofs.YtmkoegljnebdiaaGreat
open Go.RowKit Go.Shelf
set_option maxRecDepth 100000
set_option maxHeartbeats 16000000

def cornP (r:RectD):Nat→SpotD:=fun i=>match i with | 0=>r.a | 1=>⟨r.b.x,r.a.y⟩ | 2=>r.b | _=>⟨r.a.x,r.b.y⟩
theorem corn_ok {r:RectD} (ha:spotOk r.a) (hb:spotOk r.b):∀ i,spotOk (cornP r i)
 | 0=>ha
 | 1=>⟨hb.1,ha.2⟩
 | 2=>hb
 | _+3=>⟨ha.1,hb.2⟩
theorem corn_at {r:RectD} {w':World} {g:Nat} (h:Bk w' g 56 #[.int .i64 r.a.x,.int .i64 r.a.y,.int .i64 r.b.x,.int .i64 r.a.y,.int .i64 r.b.x,.int .i64 r.b.y,.int .i64 r.a.x,.int .i64 r.b.y]):SpAt w' g 0 4 (cornP r):=by
 refine ⟨h.lt,fun i hi=>?_⟩
 have h4:i=0 ∨ i=1 ∨ i=2 ∨ i=3:=by omega
 rcases h4 with rfl | rfl | rfl | rfl <;> exact ⟨h.cell _,h.cell _⟩
theorem side80_any (Zb:Nat) (N0:Value) (g off n c:Nat) (v:Nat→SpotD) (s:SpotD) (hn:n≤4096) (hv:∀ i,i<n→spotOk (v i)) (hs:spotOk s) (w:World) (hsp:SpAt w g off n v) (hz:Bk w Zb 27 #[N0,.slice (some ⟨g,off,none⟩) n c]) :
  Calls Tryz.prog 80 #[spotV s,.pointer (some ⟨Zb,0,none⟩)] w fun e w'=>(∃ b,e=.returned (.bool b)∧(b=false→True))∧Below w.heap.size w w':=by
 obtain ⟨PQ,hPQ⟩:∃ Q:Ending→World→Prop,(fun e w'=>(∃ b,e=.returned (.bool b)∧(b=false→True))∧Below w.heap.size w w')=Q:=⟨_,rfl⟩
 have HFIN:Hid (∀ w' b,Fr w [] [] w'→PQ (.returned (.bool b)) w'):=Lib.hid fun w' b h=>by rw [← hPQ];exact ⟨⟨b,rfl,fun _=>trivial⟩,h.toBelow⟩
 rw [hPQ]
 have HCO:Hid (∀ w',Below w.heap.size w w'→_):=Lib.hid fun w' hb=>contains_any N0 g off n c v s hn hv hs w' (hsp.below hb)
 have HBZ:Hid (∀ {N:List Ent} {w':World},Fr w [] N w'→Bk w' Zb 27 #[N0,.slice (some ⟨g,off,none⟩) n c]):=Lib.hid fun h=>hz.below h.toBelow hz.lt
 obtain ⟨sx,sy⟩:=s
 unfold spotV at HCO ⊢
 dsimp only at HCO ⊢
 clear hPQ hn hv hs hsp hz
 obtain ⟨qb,hqb⟩:∃ qb,w.heap.size=qb:=⟨_,rfl⟩
 obtain ⟨W0,hW0⟩:∃ W0,w.alloc (.cells #[.int .i64 sx,.int .i64 sy] 56)=W0:=⟨_,rfl⟩
 have HF0:Hid (Fr w [] [(qb,56,iC [sx,sy])] W0):=Lib.hid (by rw [← hW0];exact (Fr.start w).alloc hqb.symm 56 #[.int .i64 sx,.int .i64 sy])
 go_enter Tryz.func80,Tryz.ntmps80
 go_upto_region 1 with (fail)
 clear hW0 hqb
 go_wp2_with (first
   | (refine wpLoadF rfl 27 _ rfl Zb 0 rfl _ _ (HBZ.out HF0.out) #[N0,.slice (some ⟨g,off,none⟩) n c] rfl _ und_27 rfl info_27 ?_)
   | (refine wpLoadF rfl 56 _ rfl qb 0 rfl _ _ (HF0.out.get 0 rfl) #[.int .i64 sx,.int .i64 sy] rfl _ und_56 rfl info_56 ?_))
 refine (HCO.out _ HF0.out.toBelow).mono ?_
 rintro e w1 ⟨⟨b,rfl,_⟩,hw⟩
 have HF2:=Lib.hid (HF0.out.below hw)
 clear hw
 go_wp2_with fail
 exact HFIN.out _ _ HF2.out.drop
theorem side_any (N0:Value) (g off n c:Nat) (v:Nat→SpotD) (r:RectD) (hn:n≤4096) (h1:1≤n) (hv:∀ i,i<n→spotOk (v i)) (ha:spotOk r.a) (hb:spotOk r.b) (w:World) (hsp:SpAt w g off n v) :
  Calls Tryz.prog 35 #[.agg #[N0,.slice (some ⟨g,off,none⟩) n c],rectV r] w fun e w'=>(∃ k:Int,e=.returned (.int .i64 k)∧(k=1 ∨ k=0 ∨ (k=-1∧∃ du dv,SepUV du dv n v 4 (cornP r))))∧Below w.heap.size w w':=by
 obtain ⟨PQ,hPQ⟩:∃ Q:Ending→World→Prop,(fun e w'=>(∃ k:Int,e=.returned (.int .i64 k)∧(k=1 ∨ k=0 ∨ (k=-1∧∃ du dv,SepUV du dv n v 4 (cornP r))))∧Below w.heap.size w w')=Q:=⟨_,rfl⟩
 have HFIN:Hid (∀ w' (k:Int),(k=1 ∨ k=0 ∨ (k=-1∧∃ du dv,SepUV du dv n v 4 (cornP r)))→Fr w [] [] w'→PQ (.returned (.int .i64 k)) w'):=Lib.hid fun w' k hk h=>by rw [← hPQ];exact ⟨⟨k,rfl,hk⟩,h.toBelow⟩
 rw [hPQ]
 have HCR:=Lib.hid (fun w=>corners_any r w)
 have HCF:Hid (∀ (Zb gl:Nat) {N:List Ent} {w':World},Fr w [] N w'→Bk w' Zb 27 #[N0,.slice (some ⟨g,off,none⟩) n c]→SpAt w' gl 0 4 (cornP r)→Calls Tryz.prog 79 #[.slice (some ⟨gl,0,none⟩) 4 4,.func (.func 80) #[] #[.pointer (some ⟨Zb,0,none⟩)]] w' fun e w''=>(∃ b,e=.returned (.bool b)∧(b=false→∀ k,k<4→True))∧Below w'.heap.size w' w''):=Lib.hid fun Zb gl N w' hf hz hs =>
  cont79_any 80 #[.pointer (some ⟨Zb,0,none⟩)] gl 0 4 4 (cornP r) (fun _=>True) (by omega) (fun args w=>by kernel_rfl) w' hs fun k hk w2 hb2=>side80_any Zb N0 g off n c v (cornP r k) hn hv (corn_ok ha hb k) w2 ((hsp.below hf.toBelow).below hb2) (hz.below hb2 hz.lt)
 have HAP:Hid (∀ (gl:Nat) {N:List Ent} {w':World},Fr w [] N w'→SpAt w' gl 0 4 (cornP r)→_):=Lib.hid fun gl N w' hf hs=>apart_any g off n c v gl 0 4 4 (cornP r) hn h1 (by omega) (by omega) hv (fun i _=>corn_ok ha hb i) w' (hsp.below hf.toBelow) hs
 have HCA:Hid (∀ {w':World} {gl:Nat},Bk w' gl 56 #[.int .i64 r.a.x,.int .i64 r.a.y,.int .i64 r.b.x,.int .i64 r.a.y,.int .i64 r.b.x,.int .i64 r.b.y,.int .i64 r.a.x,.int .i64 r.b.y]→SpAt w' gl 0 4 (cornP r)):=Lib.hid fun h=>corn_at h
 obtain ⟨⟨ax,ay⟩,bx,byy⟩:=r
 unfold rectV at HCR ⊢
 dsimp only at HCR HCA ⊢
 clear hPQ hn h1 hv ha hb hsp
 obtain ⟨qb,hqb⟩:∃ qb,w.heap.size=qb:=⟨_,rfl⟩
 obtain ⟨W0,hW0⟩:∃ W0,(w.alloc (.cells #[N0,.slice (some ⟨g,off,none⟩) n c] 27)).alloc (.cells #[.int .i64 ax,.int .i64 ay,.int .i64 bx,.int .i64 byy] 62)=W0:=⟨_,rfl⟩
 have HF0:Hid (Fr w [] [(qb,27,#[N0,.slice (some ⟨g,off,none⟩) n c]),(qb+1,62,iC [ax,ay,bx,byy])] W0):=Lib.hid (by rw [← hW0];exact ((Fr.start w).alloc (by simp [← hqb]) 27 #[N0,.slice (some ⟨g,off,none⟩) n c]).alloc (by simp [← hqb]) 62 #[.int .i64 ax,.int .i64 ay,.int .i64 bx,.int .i64 byy])
 go_enter Tryz.func35,Tryz.ntmps35
 go_upto_region 1 with (fail)
 clear hW0 hqb
 go_wp2_with (refine wpLoadF rfl 62 _ rfl (qb+1) 0 rfl _ _ (HF0.out.get 1 rfl) #[.int .i64 ax,.int .i64 ay,.int .i64 bx,.int .i64 byy] rfl _ und_62 rfl info_62 ?_)
 refine (HCR.out _).mono ?_
 rintro e w1 ⟨gl,rfl,hw⟩
 have HF2:=Lib.hid (HF0.out.more hw)
 clear hw
 go_wp2_with fail
 refine (HCF.out qb gl HF2.out (HF2.out.get 0 rfl) (HCA.out (HF2.out.get 2 rfl))).mono ?_
 rintro e w3 ⟨⟨b,rfl,_⟩,hw⟩
 have HF4:=Lib.hid (HF2.out.below hw)
 clear hw
 cases b with
 | false =>
  go_wp2_with fail
  exact HFIN.out _ _ (.inl rfl) HF4.out.drop
 | true =>
  have c5:w3.cell? ⟨qb,1,none⟩=some (.slice (some ⟨g,off,none⟩) n c):=(HF4.out.get 0 rfl).cell 1
  go_wp2_with fail
  clear c5
  refine (HAP.out gl HF4.out (HCA.out (HF4.out.get 2 rfl))).mono ?_
  rintro e w6 ⟨⟨b2,rfl,hsp⟩,hw⟩
  have HF7:=Lib.hid (HF4.out.below hw)
  clear hw
  have HSP:=Lib.hid hsp
  clear hsp
  cases b2 with
  | true =>
   go_wp2_with fail
   exact HFIN.out _ _ (.inr (.inr ⟨rfl,HSP.out (by trivial)⟩)) HF7.out.drop
  | false =>
   go_wp2_with fail
   exact HFIN.out _ _ (.inr (.inl rfl)) HF7.out.drop
end Go.Proofs.YtmkoegljnebdiaaGreat
