/- What is proved: the texts Fj Fk Fl Fm Fn Fo, one behind the other; each says at its head what it proves, and under which conditions. -/
import Derived.Test.YtmkoegljnebdiaaGreatdPLands6
namespace Go.Proofs.YtmkoegljnebdiaaGreat
open Go.RowKit Go.Shelf
set_option maxRecDepth 100000
set_option maxHeartbeats 16000000
attribute [local go_sem] Oper.semAt_some

theorem wpIn_region_ft {P:Program} {l:List Oper} {Q:Exit→Act→World→Prop} {a0:Act} (l₀ n:Nat) (hd:l.all noDefer=true) {id:Nat} {w0:World} (ks:List Kind) (C:List Nat) (A:List AEnt) (W:World) (T:Nat→(Nat→Value)→List Ent→List Ent→Prop) (R:Nat→Value→(Nat→Value)→Prop) (hm:P.follows .mixedOrders=true) (hB:regB l a0.tmps.size=true) (hch:chainOk l C=true) (AL:List Nat) (hAL:A.map (·.1)=AL) (hAn:AL.Nodup) (hAr:(AL.all fun i=>decide (i<l.length))=true)
  (hk:kindOk l C AL ks 0=true) (hT:∀ k vs vs' O N,(∀ i ∈ C,vs' i=vs i)→T k vs O N→T k vs' O N) {O0 N0:List Ent} (h0:Fr W O0 N0 w0) (hT0:∀ vs,T 0 vs O0 N0) (hs:StepsT P l Q a0 W T A C R ks l 0)
  (hend:∀ (vs:Nat→Value) (w:World) (O N:List Ent),T C.length vs O N→Fr W O (N ++ aAll A vs C.length) w→(∀ i o,l[i]?=some o→R i (vs i) (maskV o vs))→Q .normal (putAll l vs 0 a0) w) :
  (Code.region id l.toArray true).wpIn (Fence.wide.inRound l₀) n P Q a0 w0 :=
 wpIn_region_any hm ((any_ft ks C A W T R hB hch AL hAL hAn hAr hk hT h0 hT0 hs hend).inR l₀ n fun i o ho=>by
  rw [List.all_eq_true] at hd
  exact hd o (List.mem_of_getElem? (by simpa using ho)))
theorem lengths_any (a:ArcD) (A:Option Addr) (n c:Nat) (b:Bool) (w:World) :
  Calls Tryz.prog 63 #[arcV a A n c,.bool b] w fun e w'=>e=.returned (.func (.func 126) #[] #[.pointer (some ⟨w.heap.size,0,none⟩),.pointer (some ⟨w.heap.size+1,0,none⟩)])∧Fr w [] [(w.heap.size,46,(arcV a A n c).cells),(w.heap.size+1,4,#[.bool b])] w':=by
 obtain ⟨cs,hcs⟩:∃ cs,arcV a A n c=.agg cs:=⟨_,rfl⟩
 rw [hcs]
 go_enter Tryz.func63,Tryz.ntmps63
 go_wp2_with fail
 go_ret
 refine ⟨by simp,?_⟩
 exact ((Fr.start w).alloc rfl 46 cs).alloc (by simp) 4 #[.bool b]
theorem lens1_in (l B1 B2 n:Nat) (time step:Int) (hn:n≤4096) (hst:0<step) (hti:time=n * step) (_:I64 time) (_:I64 step) (J Jx:List (Fin n)→World→Prop)
  (hY:∀ pre x W,J pre W→pre.length<n→YieldAt Fence.wide 4 Tryz.prog l #[.int .i64 step] W fun e W' =>
   (e=.returned (.bool true)∧J (pre ++ [x]) W'∧KeepL [B1,B2] W W') ∨ (e=.returned (.bool false)∧Jx (pre ++ [x]) W'))
  (W:World) (h1:W.cell? ⟨B1,0,none⟩=some (.int .i64 time)) (h2:W.cell? ⟨B1,1,none⟩=some (.int .i64 step)) (h3:W.cell? ⟨B2,0,none⟩=some (.bool false)) (h0:J [] W) :
  CallsIn Fence.wide 5 Tryz.prog 126 #[.func (.yield l) #[] #[],.pointer (some ⟨B1,0,none⟩),.pointer (some ⟨B2,0,none⟩)] W fun e W'=>(∃ v,e=.returned v) ∧
   ((∃ ys,Fin.vals ys=List.range n∧J ys W') ∨ (∃ pre,Fin.vals pre <+: List.range n∧pre ≠ []∧Jx pre W')):=by
 have hq0:time / step=n:=by rw [hti];exact Int.mul_ediv_cancel _ (by omega)
 have d1:time.tdiv step=n:=by rw [Int.tdiv_eq_ediv_of_nonneg (by rw [hti];exact Int.mul_nonneg (by omega) (by omega))];exact hq0
 have d2:time.tmod step=0:=by rw [hti];exact Int.mul_tmod_left _ _
 have d3:(step == 0)=false:=by simp;omega
 have d4:¬ step=0:=by omega
 have m2:IntKind.i64.wrap (n:Int)=n:=IntWalk.i64_in _ (by omega)
 have m2':wrap64 (n:Int)=n:=w64_in (by omega) (by omega)
 refine callsIn_of_wp Tryz.func126 rfl trivial ?_ rfl
 simp only [Tryz.ntmps126,List.size_toArray,List.length_cons,List.length_nil,Nat.reduceAdd,Nat.reduceSub,Array.replicate_succ,Array.replicate_zero,List.push_toArray,List.append_toArray,List.nil_append,List.cons_append]
 clear hq0 hti hst
 gi_wp2
 refine ⟨fun _ h=>by simp at h,?_⟩
 gi_wp2
 gi_loopw [33] (fun p wr=>∃ (k:Nat) (ys:List (Fin n)),k≤n∧p=.int .i64 (k:Int)∧Hid (Fin.vals ys=List.range k∧J ys wr∧KeepL [B1,B2] W wr))
  (fun p _=>n - (intOf p).toNat)
 case atStart=>exact ⟨0,[],Nat.zero_le _,rfl,Lib.hid ⟨rfl,h0,KeepL.refl _ _⟩⟩
 case round =>
  obtain ⟨k,ys,hk,rfl,hs'⟩:=hrel
  have f1:wr.cell? ⟨B1,0,none⟩=some (.int .i64 time):=(hs'.out.2.2.cell (p:=⟨B1,0,none⟩) (by simp)).trans h1
  have f2:wr.cell? ⟨B1,1,none⟩=some (.int .i64 step):=(hs'.out.2.2.cell (p:=⟨B1,1,none⟩) (by simp)).trans h2
  have f3:wr.cell? ⟨B2,0,none⟩=some (.bool false):=(hs'.out.2.2.cell (p:=⟨B2,0,none⟩) (by simp)).trans h3
  by_cases hlt:k<n
  ·have hki:(k:Int)<(n:Int):=by omega
   have h0k:(0:Int)≤(k:Int):=by omega
   obtain ⟨fn,tmps,assign,body,hy,hR⟩:=hY ys ⟨k,hlt⟩ wr hs'.out.2.1 (by
    have h3:=congrArg List.length hs'.out.1
    rw [List.length_range] at h3
    unfold Fin.vals at h3
    rw [List.length_map] at h3
    omega)
   try dsimp only at hy hR
   have HTK:Hid (Fin.vals (ys ++ [⟨k,hlt⟩])=List.range (k+1)):=Lib.hid (by
    rw [List.range_succ,← hs'.out.1];simp [Fin.vals])
   have hR':=hR.mono (R':=fun e W'=>∃ b,e=.returned (.bool b)∧Hid ((b=true∧J (ys ++ [⟨k,hlt⟩]) W'∧KeepL [B1,B2] wr W') ∨ (b=false∧Jx (ys ++ [⟨k,hlt⟩]) W'))) (by
    rintro e W' (⟨rfl,h1,h2⟩ | ⟨rfl,h1⟩)
    ·exact ⟨true,rfl,Lib.hid (.inl ⟨rfl,h1,h2⟩)⟩
    ·exact ⟨false,rfl,Lib.hid (.inr ⟨rfl,h1⟩)⟩)
   have HBW:Hid (∀ W',KeepL [B1,B2] wr W'→KeepL [B1,B2] W W'):=Lib.hid fun W' hb=>hs'.out.2.2.trans hb
   have HLT:=Lib.hid hlt
   clear hR hY hs'
   gi_wp2
   refine hR'.mono ?_
   clear hR'
   rintro e W3 ⟨b,rfl,hb3⟩
   cases b with
   | true =>
    have hb4:J (ys ++ [⟨k,hlt⟩]) W3∧KeepL [B1,B2] wr W3:=by
     rcases hb3.out with ⟨_,h3,h4⟩ | ⟨h3,_⟩
     ·exact ⟨h3,h4⟩
     ·cases h3
    have HB4:=Lib.hid hb4
    clear hb4
    gi_wp2
    go_roundw
    case rel=>exact ⟨k+1,_,by have:=HLT.out;omega,by go_num,Lib.hid ⟨HTK.out,HB4.out.1,HBW.out _ HB4.out.2⟩⟩
    case measure=>simp [intOf];omega
   | false =>
    gi_wp2
    refine bodyPost_ret (results_none rfl _ _ _) rfl ⟨⟨_,rfl⟩,.inr ⟨ys ++ [⟨k,hlt⟩],?_,?_,?_⟩⟩
    ·rw [HTK.out]
     have:List.range (k+1)=(List.range n).take (k+1):=by rw [List.take_range];congr 1;have:=HLT.out;omega
     rw [this];exact List.take_prefix _ _
    ·simp
    ·rcases hb3.out with ⟨h3,_⟩ | ⟨_,h3⟩
     ·cases h3
     ·exact h3
  ·obtain rfl:k=n:=by omega
   have hneg:¬ (k:Int)<(k:Int):=by omega
   gi_wp2
   go_end0
   exact ⟨⟨_,rfl⟩,.inl ⟨ys,hs'.out.1,hs'.out.2.1⟩⟩
theorem lens_stops (B1 B2 n:Nat) (time step:Int) (hn:n≤4096) (hst:0<step) (hti:time=n * step) (h64:I64 time) (h64s:I64 step) (w:World) (hb1:B1<w.heap.size) (hb2:B2<w.heap.size) (h1:w.cell? ⟨B1,0,none⟩=some (.int .i64 time)) (h2:w.cell? ⟨B1,1,none⟩=some (.int .i64 step)) (h3:w.cell? ⟨B2,0,none⟩=some (.bool false)) :
  SeqStopsK Fence.wide 5 Tryz.prog 126 #[.pointer (some ⟨B1,0,none⟩),.pointer (some ⟨B2,0,none⟩)] (fun _:Fin n=>#[Value.int .i64 step]) (KeepL [B1,B2])
   (fun ys=>Fin.vals ys=List.range n) (fun pre=>Fin.vals pre <+: List.range n∧pre ≠ []) n w:=fun l J Jx W hW _ _ hY h0=>by
 have hk:KeepL [B1,B2] w W:=KeepL.below hW (by simp;exact ⟨hb1,hb2⟩)
 refine (lens1_in l B1 B2 n time step hn hst hti h64 h64s J Jx hY W ((hk.cell (p:=⟨B1,0,none⟩) (by simp)).trans h1) ((hk.cell (p:=⟨B1,1,none⟩) (by simp)).trans h2) ((hk.cell (p:=⟨B2,0,none⟩) (by simp)).trans h3) h0).mono ?_
 rintro e W' ⟨he,⟨ys,h1,h2⟩ | ⟨pre,h1,h2,h3⟩⟩
 ·exact ⟨he,.inl ⟨ys,h1,h2⟩⟩
 ·exact ⟨he,.inr ⟨pre,⟨h1,h2⟩,h3⟩⟩
end Go.Proofs.YtmkoegljnebdiaaGreat
namespace Go.Proofs.YtmkoegljnebdiaaGreat
open Go.RowKit
set_option maxRecDepth 100000
set_option maxHeartbeats 16000000

def flightE (p:PlanetD) (a:ArcD) (s:StateD):Int:=if (planetB p && stateB s)=true then (if arcB a=true then (if 4096<stepsI a then 3 else 0) else 2) else 2
theorem check1_any (p:PlanetD) (a:ArcD) (s:StateD) (A:Option Addr) (c:Nat) (g t:Nat) (hd:WdB a.dir) (ht:I64 a.time) (hs:I64 a.step) (w:World) (hk:Bk w g t (arcV a A 0 c).cells) :
  Calls Tryz.prog 22 #[planetV p,.slice (some ⟨g,0,none⟩) 1 1,stateV s] w fun e w'=>e=.returned (.int .i64 (flightE p a s))∧Below w.heap.size w w':=by
 have HCP:=Lib.hid (fun w=>checkPlanet_any p w)
 have HCS:=Lib.hid (fun w=>checkState_any s w)
 have HCA:=Lib.hid (fun w=>checkArc0_any a A c hd w)
 have HST:=Lib.hid (fun w=>steps0_any a A c hd ht hs w)
 have HK:=Lib.hid hk
 obtain ⟨PQ,hPQ⟩:∃ Q:Ending→World→Prop,(fun e w'=>e=.returned (.int .i64 (flightE p a s))∧Below w.heap.size w w')=Q:=⟨_,rfl⟩
 have HFIN:Hid (∀ w' r,r=flightE p a s→Fr w [] [] w'→PQ (.returned (.int .i64 r)) w'):=Lib.hid fun w' r hr h=>by rw [← hPQ];exact ⟨by rw [hr],h.toBelow⟩
 rw [hPQ]
 unfold flightE at HFIN
 have hsb:stepsB a=if arcB a=true then (if 4096<stepsI a then (0,3) else (stepsI a,0)) else (0,2):=rfl
 have hsp:arcB a=true→0≤stepsI a:=fun h=>by
  obtain ⟨h1,h2⟩:=arcB_pos h
  unfold stepsI
  have:=Int.ediv_nonneg (a:=a.time - 1) (b:=a.step) (by omega) (by omega)
  omega
 obtain ⟨bp,hbp⟩:∃ b,planetB p=b:=⟨_,rfl⟩
 obtain ⟨bs,hbs⟩:∃ b,stateB s=b:=⟨_,rfl⟩
 obtain ⟨ba,hba⟩:∃ b,arcB a=b:=⟨_,rfl⟩
 obtain ⟨k,hkk⟩:∃ k,stepsI a=k:=⟨_,rfl⟩
 rw [hbp] at HCP HFIN
 rw [hbs] at HCS HFIN
 rw [hba] at HCA hsb HFIN hsp
 rw [hkk] at hsb HFIN hsp
 rw [hsb] at HST
 obtain ⟨⟨mul,muh⟩,⟨rl,rh⟩,⟨ol,oh⟩,⟨sl,sh⟩,⟨⟨pxl,pxh⟩,⟨pyl,pyh⟩,⟨pzl,pzh⟩⟩⟩:=p
 obtain ⟨st,⟨⟨axl,axh⟩,⟨ayl,ayh⟩,⟨azl,azh⟩⟩,⟨⟨bxl,bxh⟩,⟨byl,byh⟩,⟨bzl,bzh⟩⟩,⟨sml,smh⟩⟩:=s
 obtain ⟨time,step,⟨tl,th⟩,⟨fl,fh⟩,⟨⟨dxl,dxh⟩,⟨dyl,dyh⟩,⟨dzl,dzh⟩⟩,drag,⟨dl,dh⟩⟩:=a
 unfold planetV at HCP ⊢
 unfold stateV at HCS ⊢
 unfold arcV at HCA HST HK
 dsimp only at HCP HCS HCA HST ⊢
 replace HK:Hid (Bk w g t #[.int .i64 time,.int .i64 step,.int .i64 tl,.int .i64 th,.int .i64 fl,.int .i64 fh,.int .i64 dxl,.int .i64 dxh,.int .i64 dyl,.int .i64 dyh,.int .i64 dzl,.int .i64 dzh,.slice A 0 c,.int .i64 dl,.int .i64 dh]):=HK
 clear hPQ hbp hbs hba hkk hsb hk hd ht hs
 cases bp with
 | false =>
  simp only [Bool.false_eq_true,if_false] at HCP
  obtain ⟨qb,hqb⟩:∃ qb,w.heap.size=qb:=⟨_,rfl⟩
  obtain ⟨W0,hW0⟩:∃ W0,(w.alloc (.cells #[.int .i64 mul,.int .i64 muh,.int .i64 rl,.int .i64 rh,.int .i64 ol,.int .i64 oh,.int .i64 sl,.int .i64 sh,.int .i64 pxl,.int .i64 pxh,.int .i64 pyl,.int .i64 pyh,.int .i64 pzl,.int .i64 pzh] 36)).alloc (.cells #[.int .i64 st,.int .i64 axl,.int .i64 axh,.int .i64 ayl,.int .i64 ayh,.int .i64 azl,.int .i64 azh,.int .i64 bxl,.int .i64 bxh,.int .i64 byl,.int .i64 byh,.int .i64 bzl,.int .i64 bzh,.int .i64 sml,.int .i64 smh] 38)=W0:=⟨_,rfl⟩
  have HF0:Hid (Fr w [] [(qb,36,iC [mul,muh,rl,rh,ol,oh,sl,sh,pxl,pxh,pyl,pyh,pzl,pzh]),(qb+1,38,iC [st,axl,axh,ayl,ayh,azl,azh,bxl,bxh,byl,byh,bzl,bzh,sml,smh])] W0):=Lib.hid (by rw [← hW0];exact ((Fr.start w).alloc (by simp [← hqb]) 36 #[.int .i64 mul,.int .i64 muh,.int .i64 rl,.int .i64 rh,.int .i64 ol,.int .i64 oh,.int .i64 sl,.int .i64 sh,.int .i64 pxl,.int .i64 pxh,.int .i64 pyl,.int .i64 pyh,.int .i64 pzl,.int .i64 pzh]).alloc (by simp [← hqb]) 38 #[.int .i64 st,.int .i64 axl,.int .i64 axh,.int .i64 ayl,.int .i64 ayh,.int .i64 azl,.int .i64 azh,.int .i64 bxl,.int .i64 bxh,.int .i64 byl,.int .i64 byh,.int .i64 bzl,.int .i64 bzh,.int .i64 sml,.int .i64 smh])
  go_enter Tryz.func22,Tryz.ntmps22
  go_upto_region 1 with (fail)
  clear hW0 hqb
  go_wp2_with (refine wpLoadF rfl 36 _ rfl qb 0 rfl _ _ (HF0.out.get 0 rfl) #[.int .i64 mul,.int .i64 muh,.int .i64 rl,.int .i64 rh,.int .i64 ol,.int .i64 oh,.int .i64 sl,.int .i64 sh,.int .i64 pxl,.int .i64 pxh,.int .i64 pyl,.int .i64 pyh,.int .i64 pzl,.int .i64 pzh] rfl _ und_36 rfl info_36 ?_)
  refine (HCP.out _).mono ?_
  rintro e w1 ⟨rfl,hw⟩
  have HF2:=Lib.hid (HF0.out.below hw)
  clear hw
  go_wp2_with fail
  exact HFIN.out _ 2 (by simp) HF2.out.drop
 | true =>
  simp only [if_true] at HCP
  cases bs with
  | false =>
   simp only [Bool.false_eq_true,if_false] at HCS
   obtain ⟨qb,hqb⟩:∃ qb,w.heap.size=qb:=⟨_,rfl⟩
   obtain ⟨W0,hW0⟩:∃ W0,(w.alloc (.cells #[.int .i64 mul,.int .i64 muh,.int .i64 rl,.int .i64 rh,.int .i64 ol,.int .i64 oh,.int .i64 sl,.int .i64 sh,.int .i64 pxl,.int .i64 pxh,.int .i64 pyl,.int .i64 pyh,.int .i64 pzl,.int .i64 pzh] 36)).alloc (.cells #[.int .i64 st,.int .i64 axl,.int .i64 axh,.int .i64 ayl,.int .i64 ayh,.int .i64 azl,.int .i64 azh,.int .i64 bxl,.int .i64 bxh,.int .i64 byl,.int .i64 byh,.int .i64 bzl,.int .i64 bzh,.int .i64 sml,.int .i64 smh] 38)=W0:=⟨_,rfl⟩
   have HF0:Hid (Fr w [] [(qb,36,iC [mul,muh,rl,rh,ol,oh,sl,sh,pxl,pxh,pyl,pyh,pzl,pzh]),(qb+1,38,iC [st,axl,axh,ayl,ayh,azl,azh,bxl,bxh,byl,byh,bzl,bzh,sml,smh])] W0):=Lib.hid (by rw [← hW0];exact ((Fr.start w).alloc (by simp [← hqb]) 36 #[.int .i64 mul,.int .i64 muh,.int .i64 rl,.int .i64 rh,.int .i64 ol,.int .i64 oh,.int .i64 sl,.int .i64 sh,.int .i64 pxl,.int .i64 pxh,.int .i64 pyl,.int .i64 pyh,.int .i64 pzl,.int .i64 pzh]).alloc (by simp [← hqb]) 38 #[.int .i64 st,.int .i64 axl,.int .i64 axh,.int .i64 ayl,.int .i64 ayh,.int .i64 azl,.int .i64 azh,.int .i64 bxl,.int .i64 bxh,.int .i64 byl,.int .i64 byh,.int .i64 bzl,.int .i64 bzh,.int .i64 sml,.int .i64 smh])
   go_enter Tryz.func22,Tryz.ntmps22
   go_upto_region 1 with (fail)
   clear hW0 hqb
   go_wp2_with (refine wpLoadF rfl 36 _ rfl qb 0 rfl _ _ (HF0.out.get 0 rfl) #[.int .i64 mul,.int .i64 muh,.int .i64 rl,.int .i64 rh,.int .i64 ol,.int .i64 oh,.int .i64 sl,.int .i64 sh,.int .i64 pxl,.int .i64 pxh,.int .i64 pyl,.int .i64 pyh,.int .i64 pzl,.int .i64 pzh] rfl _ und_36 rfl info_36 ?_)
   refine (HCP.out _).mono ?_
   rintro e w1 ⟨rfl,hw⟩
   have HF2:=Lib.hid (HF0.out.below hw)
   clear hw
   go_wp2_with (refine wpLoadFG rfl 38 _ rfl (qb+1) 0 rfl _ _ (HF2.out.get 1 rfl) #[.int .i64 st,.int .i64 axl,.int .i64 axh,.int .i64 ayl,.int .i64 ayh,.int .i64 azl,.int .i64 azh,.int .i64 bxl,.int .i64 bxh,.int .i64 byl,.int .i64 byh,.int .i64 bzl,.int .i64 bzh,.int .i64 sml,.int .i64 smh] rfl _ und_38 rfl info_38 ?_)
   refine (HCS.out _).mono ?_
   rintro e w3 ⟨rfl,hw⟩
   have HF4:=Lib.hid (HF2.out.below hw)
   clear hw
   go_wp2_with fail
   exact HFIN.out _ 2 (by simp) HF4.out.drop
  | true =>
   simp only [if_true] at HCS
   cases ba with
   | false =>
    simp only [Bool.false_eq_true,if_false] at HCA
    obtain ⟨qb,hqb⟩:∃ qb,w.heap.size=qb:=⟨_,rfl⟩
    obtain ⟨W0,hW0⟩:∃ W0,(w.alloc (.cells #[.int .i64 mul,.int .i64 muh,.int .i64 rl,.int .i64 rh,.int .i64 ol,.int .i64 oh,.int .i64 sl,.int .i64 sh,.int .i64 pxl,.int .i64 pxh,.int .i64 pyl,.int .i64 pyh,.int .i64 pzl,.int .i64 pzh] 36)).alloc (.cells #[.int .i64 st,.int .i64 axl,.int .i64 axh,.int .i64 ayl,.int .i64 ayh,.int .i64 azl,.int .i64 azh,.int .i64 bxl,.int .i64 bxh,.int .i64 byl,.int .i64 byh,.int .i64 bzl,.int .i64 bzh,.int .i64 sml,.int .i64 smh] 38)=W0:=⟨_,rfl⟩
    have HF0:Hid (Fr w [] [(qb,36,iC [mul,muh,rl,rh,ol,oh,sl,sh,pxl,pxh,pyl,pyh,pzl,pzh]),(qb+1,38,iC [st,axl,axh,ayl,ayh,azl,azh,bxl,bxh,byl,byh,bzl,bzh,sml,smh])] W0):=Lib.hid (by rw [← hW0];exact ((Fr.start w).alloc (by simp [← hqb]) 36 #[.int .i64 mul,.int .i64 muh,.int .i64 rl,.int .i64 rh,.int .i64 ol,.int .i64 oh,.int .i64 sl,.int .i64 sh,.int .i64 pxl,.int .i64 pxh,.int .i64 pyl,.int .i64 pyh,.int .i64 pzl,.int .i64 pzh]).alloc (by simp [← hqb]) 38 #[.int .i64 st,.int .i64 axl,.int .i64 axh,.int .i64 ayl,.int .i64 ayh,.int .i64 azl,.int .i64 azh,.int .i64 bxl,.int .i64 bxh,.int .i64 byl,.int .i64 byh,.int .i64 bzl,.int .i64 bzh,.int .i64 sml,.int .i64 smh])
    go_enter Tryz.func22,Tryz.ntmps22
    go_upto_region 1 with (fail)
    clear hW0 hqb
    go_wp2_with (refine wpLoadF rfl 36 _ rfl qb 0 rfl _ _ (HF0.out.get 0 rfl) #[.int .i64 mul,.int .i64 muh,.int .i64 rl,.int .i64 rh,.int .i64 ol,.int .i64 oh,.int .i64 sl,.int .i64 sh,.int .i64 pxl,.int .i64 pxh,.int .i64 pyl,.int .i64 pyh,.int .i64 pzl,.int .i64 pzh] rfl _ und_36 rfl info_36 ?_)
    refine (HCP.out _).mono ?_
    rintro e w1 ⟨rfl,hw⟩
    have HF2:=Lib.hid (HF0.out.below hw)
    clear hw
    go_wp2_with (refine wpLoadFG rfl 38 _ rfl (qb+1) 0 rfl _ _ (HF2.out.get 1 rfl) #[.int .i64 st,.int .i64 axl,.int .i64 axh,.int .i64 ayl,.int .i64 ayh,.int .i64 azl,.int .i64 azh,.int .i64 bxl,.int .i64 bxh,.int .i64 byl,.int .i64 byh,.int .i64 bzl,.int .i64 bzh,.int .i64 sml,.int .i64 smh] rfl _ und_38 rfl info_38 ?_)
    refine (HCS.out _).mono ?_
    rintro e w3 ⟨rfl,hw⟩
    have HF4:=Lib.hid (HF2.out.below hw)
    clear hw
    go_wp2_with fail
    refine wp_loop_rounds 2 ?_
    rw [rounds_succ]
    have HK1:=Lib.hid (HK.out.below HF4.out.toBelow HK.out.lt)
    obtain ⟨g5,hg5⟩:∃ g,w3.heap.size=g:=⟨_,rfl⟩
    obtain ⟨w5,hw5⟩:∃ u,w3.alloc (.cells #[.int .i64 0,.int .i64 0,.int .i64 0,.int .i64 0,.int .i64 0,.int .i64 0,.int .i64 0,.int .i64 0,.int .i64 0,.int .i64 0,.int .i64 0,.int .i64 0,.slice none 0 0,.int .i64 0,.int .i64 0] 46)=u:=⟨_,rfl⟩
    have HF6:=Lib.hid (frE hw5 (HF4.out.alloc hg5.symm 46 #[.int .i64 0,.int .i64 0,.int .i64 0,.int .i64 0,.int .i64 0,.int .i64 0,.int .i64 0,.int .i64 0,.int .i64 0,.int .i64 0,.int .i64 0,.int .i64 0,.slice none 0 0,.int .i64 0,.int .i64 0]))
    go_wp2_with (first
      | (refine wpLoadF rfl 46 _ rfl g 0 rfl _ _ HK1.out #[.int .i64 time,.int .i64 step,.int .i64 tl,.int .i64 th,.int .i64 fl,.int .i64 fh,.int .i64 dxl,.int .i64 dxh,.int .i64 dyl,.int .i64 dyh,.int .i64 dzl,.int .i64 dzh,.slice A 0 c,.int .i64 dl,.int .i64 dh] rfl _ und_46 rfl info_46 ?_)
      | (refine wpLoadF rfl 46 _ rfl g5 0 rfl _ _ (HF8.out.get 2 rfl) #[.int .i64 time,.int .i64 step,.int .i64 tl,.int .i64 th,.int .i64 fl,.int .i64 fh,.int .i64 dxl,.int .i64 dxh,.int .i64 dyl,.int .i64 dyh,.int .i64 dzl,.int .i64 dzh,.slice A 0 c,.int .i64 dl,.int .i64 dh] rfl _ und_46 rfl info_46 ?_)
      | (refine wpStoreF rfl rfl 46 _ _ rfl g5 0 rfl #[.int .i64 time,.int .i64 step,.int .i64 tl,.int .i64 th,.int .i64 fl,.int .i64 fh,.int .i64 dxl,.int .i64 dxh,.int .i64 dyl,.int .i64 dyh,.int .i64 dzl,.int .i64 dzh,.slice A 0 c,.int .i64 dl,.int .i64 dh] rfl _ _ #[.int .i64 time,.int .i64 step,.int .i64 tl,.int .i64 th,.int .i64 fl,.int .i64 fh,.int .i64 dxl,.int .i64 dxh,.int .i64 dyl,.int .i64 dyh,.int .i64 dzl,.int .i64 dzh,.slice A 0 c,.int .i64 dl,.int .i64 dh] (HF6.out.get 2 rfl) rfl (by show 0+15≤15;omega) (one_all rfl) info_46 ?_;intro w7 hk ho;clear hw5 hg5;have HF8:=Lib.hid (HF6.out.only 2 rfl ho hk);clear ho hk))
    refine (HCA.out _).mono ?_
    rintro e w9 ⟨rfl,hw⟩
    have HF10:=Lib.hid (HF8.out.below hw)
    clear hw
    go_wp2_with fail
    exact HFIN.out _ 2 (by simp) HF10.out.drop
   | true =>
    simp only [if_true] at HCA HST
    have hk0:=hsp rfl
    by_cases h:4096<k
    ·rw [if_pos h] at HST
     dsimp only at HST
     have HH:=Lib.hid h
     clear h hsp hk0
     obtain ⟨qb,hqb⟩:∃ qb,w.heap.size=qb:=⟨_,rfl⟩
     obtain ⟨W0,hW0⟩:∃ W0,(w.alloc (.cells #[.int .i64 mul,.int .i64 muh,.int .i64 rl,.int .i64 rh,.int .i64 ol,.int .i64 oh,.int .i64 sl,.int .i64 sh,.int .i64 pxl,.int .i64 pxh,.int .i64 pyl,.int .i64 pyh,.int .i64 pzl,.int .i64 pzh] 36)).alloc (.cells #[.int .i64 st,.int .i64 axl,.int .i64 axh,.int .i64 ayl,.int .i64 ayh,.int .i64 azl,.int .i64 azh,.int .i64 bxl,.int .i64 bxh,.int .i64 byl,.int .i64 byh,.int .i64 bzl,.int .i64 bzh,.int .i64 sml,.int .i64 smh] 38)=W0:=⟨_,rfl⟩
     have HF0:Hid (Fr w [] [(qb,36,iC [mul,muh,rl,rh,ol,oh,sl,sh,pxl,pxh,pyl,pyh,pzl,pzh]),(qb+1,38,iC [st,axl,axh,ayl,ayh,azl,azh,bxl,bxh,byl,byh,bzl,bzh,sml,smh])] W0):=Lib.hid (by rw [← hW0];exact ((Fr.start w).alloc (by simp [← hqb]) 36 #[.int .i64 mul,.int .i64 muh,.int .i64 rl,.int .i64 rh,.int .i64 ol,.int .i64 oh,.int .i64 sl,.int .i64 sh,.int .i64 pxl,.int .i64 pxh,.int .i64 pyl,.int .i64 pyh,.int .i64 pzl,.int .i64 pzh]).alloc (by simp [← hqb]) 38 #[.int .i64 st,.int .i64 axl,.int .i64 axh,.int .i64 ayl,.int .i64 ayh,.int .i64 azl,.int .i64 azh,.int .i64 bxl,.int .i64 bxh,.int .i64 byl,.int .i64 byh,.int .i64 bzl,.int .i64 bzh,.int .i64 sml,.int .i64 smh])
     go_enter Tryz.func22,Tryz.ntmps22
     go_upto_region 1 with (fail)
     clear hW0 hqb
     go_wp2_with (refine wpLoadF rfl 36 _ rfl qb 0 rfl _ _ (HF0.out.get 0 rfl) #[.int .i64 mul,.int .i64 muh,.int .i64 rl,.int .i64 rh,.int .i64 ol,.int .i64 oh,.int .i64 sl,.int .i64 sh,.int .i64 pxl,.int .i64 pxh,.int .i64 pyl,.int .i64 pyh,.int .i64 pzl,.int .i64 pzh] rfl _ und_36 rfl info_36 ?_)
     refine (HCP.out _).mono ?_
     rintro e w1 ⟨rfl,hw⟩
     have HF2:=Lib.hid (HF0.out.below hw)
     clear hw
     go_wp2_with (refine wpLoadFG rfl 38 _ rfl (qb+1) 0 rfl _ _ (HF2.out.get 1 rfl) #[.int .i64 st,.int .i64 axl,.int .i64 axh,.int .i64 ayl,.int .i64 ayh,.int .i64 azl,.int .i64 azh,.int .i64 bxl,.int .i64 bxh,.int .i64 byl,.int .i64 byh,.int .i64 bzl,.int .i64 bzh,.int .i64 sml,.int .i64 smh] rfl _ und_38 rfl info_38 ?_)
     refine (HCS.out _).mono ?_
     rintro e w3 ⟨rfl,hw⟩
     have HF4:=Lib.hid (HF2.out.below hw)
     clear hw
     go_wp2_with fail
     refine wp_loop_rounds 2 ?_
     rw [rounds_succ]
     have HK1:=Lib.hid (HK.out.below HF4.out.toBelow HK.out.lt)
     obtain ⟨g5,hg5⟩:∃ g,w3.heap.size=g:=⟨_,rfl⟩
     obtain ⟨w5,hw5⟩:∃ u,w3.alloc (.cells #[.int .i64 0,.int .i64 0,.int .i64 0,.int .i64 0,.int .i64 0,.int .i64 0,.int .i64 0,.int .i64 0,.int .i64 0,.int .i64 0,.int .i64 0,.int .i64 0,.slice none 0 0,.int .i64 0,.int .i64 0] 46)=u:=⟨_,rfl⟩
     have HF6:=Lib.hid (frE hw5 (HF4.out.alloc hg5.symm 46 #[.int .i64 0,.int .i64 0,.int .i64 0,.int .i64 0,.int .i64 0,.int .i64 0,.int .i64 0,.int .i64 0,.int .i64 0,.int .i64 0,.int .i64 0,.int .i64 0,.slice none 0 0,.int .i64 0,.int .i64 0]))
     go_wp2_with (first
       | (refine wpLoadF rfl 46 _ rfl g 0 rfl _ _ HK1.out #[.int .i64 time,.int .i64 step,.int .i64 tl,.int .i64 th,.int .i64 fl,.int .i64 fh,.int .i64 dxl,.int .i64 dxh,.int .i64 dyl,.int .i64 dyh,.int .i64 dzl,.int .i64 dzh,.slice A 0 c,.int .i64 dl,.int .i64 dh] rfl _ und_46 rfl info_46 ?_)
       | (refine wpLoadF rfl 46 _ rfl g5 0 rfl _ _ (HF8.out.get 2 rfl) #[.int .i64 time,.int .i64 step,.int .i64 tl,.int .i64 th,.int .i64 fl,.int .i64 fh,.int .i64 dxl,.int .i64 dxh,.int .i64 dyl,.int .i64 dyh,.int .i64 dzl,.int .i64 dzh,.slice A 0 c,.int .i64 dl,.int .i64 dh] rfl _ und_46 rfl info_46 ?_)
       | (refine wpStoreF rfl rfl 46 _ _ rfl g5 0 rfl #[.int .i64 time,.int .i64 step,.int .i64 tl,.int .i64 th,.int .i64 fl,.int .i64 fh,.int .i64 dxl,.int .i64 dxh,.int .i64 dyl,.int .i64 dyh,.int .i64 dzl,.int .i64 dzh,.slice A 0 c,.int .i64 dl,.int .i64 dh] rfl _ _ #[.int .i64 time,.int .i64 step,.int .i64 tl,.int .i64 th,.int .i64 fl,.int .i64 fh,.int .i64 dxl,.int .i64 dxh,.int .i64 dyl,.int .i64 dyh,.int .i64 dzl,.int .i64 dzh,.slice A 0 c,.int .i64 dl,.int .i64 dh] (HF6.out.get 2 rfl) rfl (by show 0+15≤15;omega) (one_all rfl) info_46 ?_;intro w7 hk ho;clear hw5 hg5;have HF8:=Lib.hid (HF6.out.only 2 rfl ho hk);clear ho hk))
     refine (HCA.out _).mono ?_
     rintro e w9 ⟨rfl,hw⟩
     have HF10:=Lib.hid (HF8.out.below hw)
     clear hw
     go_wp2_with fail
     rw [rounds_succ]
     go_wp2_with fail
     refine wp_loop_rounds 2 ?_
     rw [rounds_succ]
     have HK2:=Lib.hid (HK.out.below HF10.out.toBelow HK.out.lt)
     obtain ⟨g11,hg11⟩:∃ g,w9.heap.size=g:=⟨_,rfl⟩
     obtain ⟨w11,hw11⟩:∃ u,w9.alloc (.cells #[.int .i64 0,.int .i64 0,.int .i64 0,.int .i64 0,.int .i64 0,.int .i64 0,.int .i64 0,.int .i64 0,.int .i64 0,.int .i64 0,.int .i64 0,.int .i64 0,.slice none 0 0,.int .i64 0,.int .i64 0] 46)=u:=⟨_,rfl⟩
     have HF12:=Lib.hid (frE hw11 (HF10.out.alloc hg11.symm 46 #[.int .i64 0,.int .i64 0,.int .i64 0,.int .i64 0,.int .i64 0,.int .i64 0,.int .i64 0,.int .i64 0,.int .i64 0,.int .i64 0,.int .i64 0,.int .i64 0,.slice none 0 0,.int .i64 0,.int .i64 0]))
     go_wp2_with (first
       | (refine wpLoadF rfl 46 _ rfl g 0 rfl _ _ HK2.out #[.int .i64 time,.int .i64 step,.int .i64 tl,.int .i64 th,.int .i64 fl,.int .i64 fh,.int .i64 dxl,.int .i64 dxh,.int .i64 dyl,.int .i64 dyh,.int .i64 dzl,.int .i64 dzh,.slice A 0 c,.int .i64 dl,.int .i64 dh] rfl _ und_46 rfl info_46 ?_)
       | (refine wpLoadF rfl 46 _ rfl g11 0 rfl _ _ (HF14.out.get 3 rfl) #[.int .i64 time,.int .i64 step,.int .i64 tl,.int .i64 th,.int .i64 fl,.int .i64 fh,.int .i64 dxl,.int .i64 dxh,.int .i64 dyl,.int .i64 dyh,.int .i64 dzl,.int .i64 dzh,.slice A 0 c,.int .i64 dl,.int .i64 dh] rfl _ und_46 rfl info_46 ?_)
       | (refine wpStoreF rfl rfl 46 _ _ rfl g11 0 rfl #[.int .i64 time,.int .i64 step,.int .i64 tl,.int .i64 th,.int .i64 fl,.int .i64 fh,.int .i64 dxl,.int .i64 dxh,.int .i64 dyl,.int .i64 dyh,.int .i64 dzl,.int .i64 dzh,.slice A 0 c,.int .i64 dl,.int .i64 dh] rfl _ _ #[.int .i64 time,.int .i64 step,.int .i64 tl,.int .i64 th,.int .i64 fl,.int .i64 fh,.int .i64 dxl,.int .i64 dxh,.int .i64 dyl,.int .i64 dyh,.int .i64 dzl,.int .i64 dzh,.slice A 0 c,.int .i64 dl,.int .i64 dh] (HF12.out.get 3 rfl) rfl (by show 0+15≤15;omega) (one_all rfl) info_46 ?_;intro w13 hk ho;clear hw11 hg11;have HF14:=Lib.hid (HF12.out.only 3 rfl ho hk);clear ho hk))
     refine (HST.out _).mono ?_
     rintro e w15 ⟨rfl,hw⟩
     have HF16:=Lib.hid (HF14.out.below hw)
     clear hw
     go_wp2_with fail
     exact HFIN.out _ 3 (by simp [HH.out]) HF16.out.drop
    ·rw [if_neg h] at HST
     dsimp only at HST
     have HH:=Lib.hid h
     have g1:decide (4096<k)=false:=decide_eq_false h
     have m1:IntKind.i64.wrap k=k:=IntWalk.i64_in _ (by omega)
     have m1':wrap64 k=k:=w64_in (by omega) (by omega)
     clear h hsp hk0
     obtain ⟨qb,hqb⟩:∃ qb,w.heap.size=qb:=⟨_,rfl⟩
     obtain ⟨W0,hW0⟩:∃ W0,(w.alloc (.cells #[.int .i64 mul,.int .i64 muh,.int .i64 rl,.int .i64 rh,.int .i64 ol,.int .i64 oh,.int .i64 sl,.int .i64 sh,.int .i64 pxl,.int .i64 pxh,.int .i64 pyl,.int .i64 pyh,.int .i64 pzl,.int .i64 pzh] 36)).alloc (.cells #[.int .i64 st,.int .i64 axl,.int .i64 axh,.int .i64 ayl,.int .i64 ayh,.int .i64 azl,.int .i64 azh,.int .i64 bxl,.int .i64 bxh,.int .i64 byl,.int .i64 byh,.int .i64 bzl,.int .i64 bzh,.int .i64 sml,.int .i64 smh] 38)=W0:=⟨_,rfl⟩
     have HF0:Hid (Fr w [] [(qb,36,iC [mul,muh,rl,rh,ol,oh,sl,sh,pxl,pxh,pyl,pyh,pzl,pzh]),(qb+1,38,iC [st,axl,axh,ayl,ayh,azl,azh,bxl,bxh,byl,byh,bzl,bzh,sml,smh])] W0):=Lib.hid (by rw [← hW0];exact ((Fr.start w).alloc (by simp [← hqb]) 36 #[.int .i64 mul,.int .i64 muh,.int .i64 rl,.int .i64 rh,.int .i64 ol,.int .i64 oh,.int .i64 sl,.int .i64 sh,.int .i64 pxl,.int .i64 pxh,.int .i64 pyl,.int .i64 pyh,.int .i64 pzl,.int .i64 pzh]).alloc (by simp [← hqb]) 38 #[.int .i64 st,.int .i64 axl,.int .i64 axh,.int .i64 ayl,.int .i64 ayh,.int .i64 azl,.int .i64 azh,.int .i64 bxl,.int .i64 bxh,.int .i64 byl,.int .i64 byh,.int .i64 bzl,.int .i64 bzh,.int .i64 sml,.int .i64 smh])
     go_enter Tryz.func22,Tryz.ntmps22
     go_upto_region 1 with (fail)
     clear hW0 hqb
     go_wp2_with (refine wpLoadF rfl 36 _ rfl qb 0 rfl _ _ (HF0.out.get 0 rfl) #[.int .i64 mul,.int .i64 muh,.int .i64 rl,.int .i64 rh,.int .i64 ol,.int .i64 oh,.int .i64 sl,.int .i64 sh,.int .i64 pxl,.int .i64 pxh,.int .i64 pyl,.int .i64 pyh,.int .i64 pzl,.int .i64 pzh] rfl _ und_36 rfl info_36 ?_)
     refine (HCP.out _).mono ?_
     rintro e w1 ⟨rfl,hw⟩
     have HF2:=Lib.hid (HF0.out.below hw)
     clear hw
     go_wp2_with (refine wpLoadFG rfl 38 _ rfl (qb+1) 0 rfl _ _ (HF2.out.get 1 rfl) #[.int .i64 st,.int .i64 axl,.int .i64 axh,.int .i64 ayl,.int .i64 ayh,.int .i64 azl,.int .i64 azh,.int .i64 bxl,.int .i64 bxh,.int .i64 byl,.int .i64 byh,.int .i64 bzl,.int .i64 bzh,.int .i64 sml,.int .i64 smh] rfl _ und_38 rfl info_38 ?_)
     refine (HCS.out _).mono ?_
     rintro e w3 ⟨rfl,hw⟩
     have HF4:=Lib.hid (HF2.out.below hw)
     clear hw
     go_wp2_with fail
     refine wp_loop_rounds 2 ?_
     rw [rounds_succ]
     have HK1:=Lib.hid (HK.out.below HF4.out.toBelow HK.out.lt)
     obtain ⟨g5,hg5⟩:∃ g,w3.heap.size=g:=⟨_,rfl⟩
     obtain ⟨w5,hw5⟩:∃ u,w3.alloc (.cells #[.int .i64 0,.int .i64 0,.int .i64 0,.int .i64 0,.int .i64 0,.int .i64 0,.int .i64 0,.int .i64 0,.int .i64 0,.int .i64 0,.int .i64 0,.int .i64 0,.slice none 0 0,.int .i64 0,.int .i64 0] 46)=u:=⟨_,rfl⟩
     have HF6:=Lib.hid (frE hw5 (HF4.out.alloc hg5.symm 46 #[.int .i64 0,.int .i64 0,.int .i64 0,.int .i64 0,.int .i64 0,.int .i64 0,.int .i64 0,.int .i64 0,.int .i64 0,.int .i64 0,.int .i64 0,.int .i64 0,.slice none 0 0,.int .i64 0,.int .i64 0]))
     go_wp2_with (first
       | (refine wpLoadF rfl 46 _ rfl g 0 rfl _ _ HK1.out #[.int .i64 time,.int .i64 step,.int .i64 tl,.int .i64 th,.int .i64 fl,.int .i64 fh,.int .i64 dxl,.int .i64 dxh,.int .i64 dyl,.int .i64 dyh,.int .i64 dzl,.int .i64 dzh,.slice A 0 c,.int .i64 dl,.int .i64 dh] rfl _ und_46 rfl info_46 ?_)
       | (refine wpLoadF rfl 46 _ rfl g5 0 rfl _ _ (HF8.out.get 2 rfl) #[.int .i64 time,.int .i64 step,.int .i64 tl,.int .i64 th,.int .i64 fl,.int .i64 fh,.int .i64 dxl,.int .i64 dxh,.int .i64 dyl,.int .i64 dyh,.int .i64 dzl,.int .i64 dzh,.slice A 0 c,.int .i64 dl,.int .i64 dh] rfl _ und_46 rfl info_46 ?_)
       | (refine wpStoreF rfl rfl 46 _ _ rfl g5 0 rfl #[.int .i64 time,.int .i64 step,.int .i64 tl,.int .i64 th,.int .i64 fl,.int .i64 fh,.int .i64 dxl,.int .i64 dxh,.int .i64 dyl,.int .i64 dyh,.int .i64 dzl,.int .i64 dzh,.slice A 0 c,.int .i64 dl,.int .i64 dh] rfl _ _ #[.int .i64 time,.int .i64 step,.int .i64 tl,.int .i64 th,.int .i64 fl,.int .i64 fh,.int .i64 dxl,.int .i64 dxh,.int .i64 dyl,.int .i64 dyh,.int .i64 dzl,.int .i64 dzh,.slice A 0 c,.int .i64 dl,.int .i64 dh] (HF6.out.get 2 rfl) rfl (by show 0+15≤15;omega) (one_all rfl) info_46 ?_;intro w7 hk ho;clear hw5 hg5;have HF8:=Lib.hid (HF6.out.only 2 rfl ho hk);clear ho hk))
     refine (HCA.out _).mono ?_
     rintro e w9 ⟨rfl,hw⟩
     have HF10:=Lib.hid (HF8.out.below hw)
     clear hw
     go_wp2_with fail
     rw [rounds_succ]
     go_wp2_with fail
     refine wp_loop_rounds 2 ?_
     rw [rounds_succ]
     have HK2:=Lib.hid (HK.out.below HF10.out.toBelow HK.out.lt)
     obtain ⟨g11,hg11⟩:∃ g,w9.heap.size=g:=⟨_,rfl⟩
     obtain ⟨w11,hw11⟩:∃ u,w9.alloc (.cells #[.int .i64 0,.int .i64 0,.int .i64 0,.int .i64 0,.int .i64 0,.int .i64 0,.int .i64 0,.int .i64 0,.int .i64 0,.int .i64 0,.int .i64 0,.int .i64 0,.slice none 0 0,.int .i64 0,.int .i64 0] 46)=u:=⟨_,rfl⟩
     have HF12:=Lib.hid (frE hw11 (HF10.out.alloc hg11.symm 46 #[.int .i64 0,.int .i64 0,.int .i64 0,.int .i64 0,.int .i64 0,.int .i64 0,.int .i64 0,.int .i64 0,.int .i64 0,.int .i64 0,.int .i64 0,.int .i64 0,.slice none 0 0,.int .i64 0,.int .i64 0]))
     go_wp2_with (first
       | (refine wpLoadF rfl 46 _ rfl g 0 rfl _ _ HK2.out #[.int .i64 time,.int .i64 step,.int .i64 tl,.int .i64 th,.int .i64 fl,.int .i64 fh,.int .i64 dxl,.int .i64 dxh,.int .i64 dyl,.int .i64 dyh,.int .i64 dzl,.int .i64 dzh,.slice A 0 c,.int .i64 dl,.int .i64 dh] rfl _ und_46 rfl info_46 ?_)
       | (refine wpLoadF rfl 46 _ rfl g11 0 rfl _ _ (HF14.out.get 3 rfl) #[.int .i64 time,.int .i64 step,.int .i64 tl,.int .i64 th,.int .i64 fl,.int .i64 fh,.int .i64 dxl,.int .i64 dxh,.int .i64 dyl,.int .i64 dyh,.int .i64 dzl,.int .i64 dzh,.slice A 0 c,.int .i64 dl,.int .i64 dh] rfl _ und_46 rfl info_46 ?_)
       | (refine wpStoreF rfl rfl 46 _ _ rfl g11 0 rfl #[.int .i64 time,.int .i64 step,.int .i64 tl,.int .i64 th,.int .i64 fl,.int .i64 fh,.int .i64 dxl,.int .i64 dxh,.int .i64 dyl,.int .i64 dyh,.int .i64 dzl,.int .i64 dzh,.slice A 0 c,.int .i64 dl,.int .i64 dh] rfl _ _ #[.int .i64 time,.int .i64 step,.int .i64 tl,.int .i64 th,.int .i64 fl,.int .i64 fh,.int .i64 dxl,.int .i64 dxh,.int .i64 dyl,.int .i64 dyh,.int .i64 dzl,.int .i64 dzh,.slice A 0 c,.int .i64 dl,.int .i64 dh] (HF12.out.get 3 rfl) rfl (by show 0+15≤15;omega) (one_all rfl) info_46 ?_;intro w13 hk ho;clear hw11 hg11;have HF14:=Lib.hid (HF12.out.only 3 rfl ho hk);clear ho hk))
     refine (HST.out _).mono ?_
     rintro e w15 ⟨rfl,hw⟩
     have HF16:=Lib.hid (HF14.out.below hw)
     clear hw
     go_wp2_with fail
     rw [rounds_succ]
     go_wp2_with fail
     exact HFIN.out _ 0 (by simp [HH.out]) HF16.out.drop

def heightM (p:PlanetD) (b:BoxD):CM SpanD:=(normM b).bnd fun n=>subM n p.radius
def heightF (p:PlanetD) (b:BoxD):SpanD × Int:=if (planetB p && chkBox b)=true then heightM p b 0 else (zeroS,2)
theorem height_any (p:PlanetD) (b:BoxD) (hr:WdS p.radius) (hb:WdB b) (w:World) :
  Calls Tryz.prog 19 #[planetV p,boxV b] w fun e w'=>e=.returned (.tuple #[spanV (heightF p b).1,.int .i64 (heightF p b).2])∧Below w.heap.size w w':=by
 have HCP:=Lib.hid (fun w=>checkPlanet_any p w)
 have HCB:=Lib.hid (fun w g hk=>boxes1_any b w g 34 hk)
 have HNO:=Lib.hid (fun cb w hk=>cnorm_any cb 0 b hb w hk)
 obtain ⟨⟨n,e1⟩,hn⟩:∃ z,normM b 0=z:=⟨_,rfl⟩
 have wn:WdS (normM b 0).1:=wd_keep (wd_norm _) 0
 rw [hn] at HNO wn
 have HSU:=Lib.hid (fun cb w hk=>csub_any cb e1 n p.radius wn hr w hk)
 obtain ⟨⟨r,e2⟩,hs⟩:∃ z,subM n p.radius e1=z:=⟨_,rfl⟩
 rw [hs] at HSU
 obtain ⟨PQ,hPQ⟩:∃ Q:Ending→World→Prop,(fun e w'=>e=.returned (.tuple #[spanV (heightF p b).1,.int .i64 (heightF p b).2])∧Below w.heap.size w w')=Q:=⟨_,rfl⟩
 have HFIN:Hid (∀ w' v k,heightF p b=(v,k)→Fr w [] [] w'→PQ (.returned (.tuple #[spanV v,.int .i64 k])) w'):=Lib.hid fun w' v k hr h=>by rw [← hPQ,hr];exact ⟨rfl,h.toBelow⟩
 rw [hPQ]
 have hh:heightM p b 0=(r,e2):=by
  unfold heightM CM.bnd
  simp only [hn,hs]
 unfold heightF at HFIN
 rw [hh] at HFIN
 obtain ⟨bp,hbp⟩:∃ q,planetB p=q:=⟨_,rfl⟩
 obtain ⟨bb,hbb⟩:∃ q,chkBox b=q:=⟨_,rfl⟩
 rw [hbp] at HCP HFIN
 rw [hbb] at HCB HFIN
 obtain ⟨⟨mul,muh⟩,⟨rl,rh⟩,⟨ol,oh⟩,⟨sl,sh⟩,⟨⟨pxl,pxh⟩,⟨pyl,pyh⟩,⟨pzl,pzh⟩⟩⟩:=p
 obtain ⟨⟨axl,axh⟩,⟨ayl,ayh⟩,⟨azl,azh⟩⟩:=b
 obtain ⟨nl,nh⟩:=n
 obtain ⟨ul,uh⟩:=r
 unfold CkPost boxV spanV at HNO
 unfold CkPost spanV at HSU
 unfold planetV at HCP ⊢
 unfold boxV
 dsimp only at HNO HSU HCP HCB ⊢
 clear hPQ hh hn hs hbp hbb hr hb wn
 cases bp with
 | false =>
  simp only [Bool.false_eq_true,if_false] at HCP
  obtain ⟨qb,hqb⟩:∃ qb,w.heap.size=qb:=⟨_,rfl⟩
  obtain ⟨W0,hW0⟩:∃ W0,((w.alloc (.cells #[.int .i64 mul,.int .i64 muh,.int .i64 rl,.int .i64 rh,.int .i64 ol,.int .i64 oh,.int .i64 sl,.int .i64 sh,.int .i64 pxl,.int .i64 pxh,.int .i64 pyl,.int .i64 pyh,.int .i64 pzl,.int .i64 pzh] 36)).alloc (.cells #[.int .i64 axl,.int .i64 axh,.int .i64 ayl,.int .i64 ayh,.int .i64 azl,.int .i64 azh] 34)).alloc (.cells #[.int .i64 0,.int .i64 0] 31)=W0:=⟨_,rfl⟩
  have HF0:Hid (Fr w [] [(qb,36,iC [mul,muh,rl,rh,ol,oh,sl,sh,pxl,pxh,pyl,pyh,pzl,pzh]),(qb+1,34,iC [axl,axh,ayl,ayh,azl,azh]),(qb+1+1,31,iC [0,0])] W0):=Lib.hid (by rw [← hW0];exact (((Fr.start w).alloc (by simp [← hqb]) 36 #[.int .i64 mul,.int .i64 muh,.int .i64 rl,.int .i64 rh,.int .i64 ol,.int .i64 oh,.int .i64 sl,.int .i64 sh,.int .i64 pxl,.int .i64 pxh,.int .i64 pyl,.int .i64 pyh,.int .i64 pzl,.int .i64 pzh]).alloc (by simp [← hqb]) 34 #[.int .i64 axl,.int .i64 axh,.int .i64 ayl,.int .i64 ayh,.int .i64 azl,.int .i64 azh]).alloc (by simp [← hqb]) 31 #[.int .i64 0,.int .i64 0])
  go_enter Tryz.func19,Tryz.ntmps19
  go_upto_region 1 with (fail)
  clear hW0 hqb
  go_wp2_with (refine wpLoadF rfl 36 _ rfl qb 0 rfl _ _ (HF0.out.get 0 rfl) #[.int .i64 mul,.int .i64 muh,.int .i64 rl,.int .i64 rh,.int .i64 ol,.int .i64 oh,.int .i64 sl,.int .i64 sh,.int .i64 pxl,.int .i64 pxh,.int .i64 pyl,.int .i64 pyh,.int .i64 pzl,.int .i64 pzh] rfl _ und_36 rfl info_36 ?_)
  refine (HCP.out _).mono ?_
  rintro e w1 ⟨rfl,hw⟩
  have HF2:=Lib.hid (HF0.out.below hw)
  clear hw
  go_wp2_with (refine wpStoreF rfl rfl 31 _ _ rfl (qb+1+1) 0 rfl #[.int .i64 0,.int .i64 0] rfl _ _ (iC [0,0]) (HF2.out.get 2 rfl) rfl (by show 0+2≤2;omega) (one_all rfl) info_span ?_;intro w3 hk ho;have HF4:=Lib.hid (HF2.out.only 2 rfl ho hk);clear ho hk)
  refine ret_agg2 rfl rfl rfl (HF4.out.get 2 rfl) rfl und_span rfl info_span ?_
  exact HFIN.out _ zeroS 2 (by simp) HF4.out.drop
 | true =>
  simp only [if_true] at HCP
  cases bb with
  | false =>
   obtain ⟨qb,hqb⟩:∃ qb,w.heap.size=qb:=⟨_,rfl⟩
   obtain ⟨W0,hW0⟩:∃ W0,((w.alloc (.cells #[.int .i64 mul,.int .i64 muh,.int .i64 rl,.int .i64 rh,.int .i64 ol,.int .i64 oh,.int .i64 sl,.int .i64 sh,.int .i64 pxl,.int .i64 pxh,.int .i64 pyl,.int .i64 pyh,.int .i64 pzl,.int .i64 pzh] 36)).alloc (.cells #[.int .i64 axl,.int .i64 axh,.int .i64 ayl,.int .i64 ayh,.int .i64 azl,.int .i64 azh] 34)).alloc (.cells #[.int .i64 0,.int .i64 0] 31)=W0:=⟨_,rfl⟩
   have HF0:Hid (Fr w [] [(qb,36,iC [mul,muh,rl,rh,ol,oh,sl,sh,pxl,pxh,pyl,pyh,pzl,pzh]),(qb+1,34,iC [axl,axh,ayl,ayh,azl,azh]),(qb+1+1,31,iC [0,0])] W0):=Lib.hid (by rw [← hW0];exact (((Fr.start w).alloc (by simp [← hqb]) 36 #[.int .i64 mul,.int .i64 muh,.int .i64 rl,.int .i64 rh,.int .i64 ol,.int .i64 oh,.int .i64 sl,.int .i64 sh,.int .i64 pxl,.int .i64 pxh,.int .i64 pyl,.int .i64 pyh,.int .i64 pzl,.int .i64 pzh]).alloc (by simp [← hqb]) 34 #[.int .i64 axl,.int .i64 axh,.int .i64 ayl,.int .i64 ayh,.int .i64 azl,.int .i64 azh]).alloc (by simp [← hqb]) 31 #[.int .i64 0,.int .i64 0])
   go_enter Tryz.func19,Tryz.ntmps19
   go_upto_region 1 with (fail)
   clear hW0 hqb
   go_wp2_with (refine wpLoadF rfl 36 _ rfl qb 0 rfl _ _ (HF0.out.get 0 rfl) #[.int .i64 mul,.int .i64 muh,.int .i64 rl,.int .i64 rh,.int .i64 ol,.int .i64 oh,.int .i64 sl,.int .i64 sh,.int .i64 pxl,.int .i64 pxh,.int .i64 pyl,.int .i64 pyh,.int .i64 pzl,.int .i64 pzh] rfl _ und_36 rfl info_36 ?_)
   refine (HCP.out _).mono ?_
   rintro e w1 ⟨rfl,hw⟩
   have HF2:=Lib.hid (HF0.out.below hw)
   clear hw
   obtain ⟨g3,hg3⟩:∃ g,w1.heap.size=g:=⟨_,rfl⟩
   obtain ⟨w3,hw3⟩:∃ u,w1.alloc (.cells #[.int .i64 axl,.int .i64 axh,.int .i64 ayl,.int .i64 ayh,.int .i64 azl,.int .i64 azh] 34)=u:=⟨_,rfl⟩
   have HF4:=Lib.hid (frE hw3 (HF2.out.alloc hg3.symm 34 #[.int .i64 axl,.int .i64 axh,.int .i64 ayl,.int .i64 ayh,.int .i64 azl,.int .i64 azh]))
   go_wp2_with (refine wpLoadFG rfl 34 _ rfl (qb+1) 0 rfl _ _ (HF2.out.get 1 rfl) #[.int .i64 axl,.int .i64 axh,.int .i64 ayl,.int .i64 ayh,.int .i64 azl,.int .i64 azh] rfl _ und_34 rfl info_34 ?_)
   clear hw3 hg3
   refine (HCB.out _ g3 (HF4.out.get 3 rfl)).mono ?_
   rintro e w5 ⟨rfl,hw⟩
   have HF6:=Lib.hid (HF4.out.below hw)
   clear hw
   go_wp2_with (refine wpStoreF rfl rfl 31 _ _ rfl (qb+1+1) 0 rfl #[.int .i64 0,.int .i64 0] rfl _ _ (iC [0,0]) (HF6.out.get 2 rfl) rfl (by show 0+2≤2;omega) (one_all rfl) info_span ?_;intro w7 hk ho;have HF8:=Lib.hid (HF6.out.only 2 rfl ho hk);clear ho hk)
   refine ret_agg2 rfl rfl rfl (HF8.out.get 2 rfl) rfl und_span rfl info_span ?_
   exact HFIN.out _ zeroS 2 (by simp) HF8.out.drop
  | true =>
   obtain ⟨qb,hqb⟩:∃ qb,w.heap.size=qb:=⟨_,rfl⟩
   obtain ⟨W0,hW0⟩:∃ W0,((w.alloc (.cells #[.int .i64 mul,.int .i64 muh,.int .i64 rl,.int .i64 rh,.int .i64 ol,.int .i64 oh,.int .i64 sl,.int .i64 sh,.int .i64 pxl,.int .i64 pxh,.int .i64 pyl,.int .i64 pyh,.int .i64 pzl,.int .i64 pzh] 36)).alloc (.cells #[.int .i64 axl,.int .i64 axh,.int .i64 ayl,.int .i64 ayh,.int .i64 azl,.int .i64 azh] 34)).alloc (.cells #[.int .i64 0,.int .i64 0] 31)=W0:=⟨_,rfl⟩
   have HF0:Hid (Fr w [] [(qb,36,iC [mul,muh,rl,rh,ol,oh,sl,sh,pxl,pxh,pyl,pyh,pzl,pzh]),(qb+1,34,iC [axl,axh,ayl,ayh,azl,azh]),(qb+1+1,31,iC [0,0])] W0):=Lib.hid (by rw [← hW0];exact (((Fr.start w).alloc (by simp [← hqb]) 36 #[.int .i64 mul,.int .i64 muh,.int .i64 rl,.int .i64 rh,.int .i64 ol,.int .i64 oh,.int .i64 sl,.int .i64 sh,.int .i64 pxl,.int .i64 pxh,.int .i64 pyl,.int .i64 pyh,.int .i64 pzl,.int .i64 pzh]).alloc (by simp [← hqb]) 34 #[.int .i64 axl,.int .i64 axh,.int .i64 ayl,.int .i64 ayh,.int .i64 azl,.int .i64 azh]).alloc (by simp [← hqb]) 31 #[.int .i64 0,.int .i64 0])
   go_enter Tryz.func19,Tryz.ntmps19
   go_upto_region 1 with (fail)
   clear hW0 hqb
   go_wp2_with (refine wpLoadF rfl 36 _ rfl qb 0 rfl _ _ (HF0.out.get 0 rfl) #[.int .i64 mul,.int .i64 muh,.int .i64 rl,.int .i64 rh,.int .i64 ol,.int .i64 oh,.int .i64 sl,.int .i64 sh,.int .i64 pxl,.int .i64 pxh,.int .i64 pyl,.int .i64 pyh,.int .i64 pzl,.int .i64 pzh] rfl _ und_36 rfl info_36 ?_)
   refine (HCP.out _).mono ?_
   rintro e w1 ⟨rfl,hw⟩
   have HF2:=Lib.hid (HF0.out.below hw)
   clear hw
   obtain ⟨g3,hg3⟩:∃ g,w1.heap.size=g:=⟨_,rfl⟩
   obtain ⟨w3,hw3⟩:∃ u,w1.alloc (.cells #[.int .i64 axl,.int .i64 axh,.int .i64 ayl,.int .i64 ayh,.int .i64 azl,.int .i64 azh] 34)=u:=⟨_,rfl⟩
   have HF4:=Lib.hid (frE hw3 (HF2.out.alloc hg3.symm 34 #[.int .i64 axl,.int .i64 axh,.int .i64 ayl,.int .i64 ayh,.int .i64 azl,.int .i64 azh]))
   go_wp2_with (refine wpLoadFG rfl 34 _ rfl (qb+1) 0 rfl _ _ (HF2.out.get 1 rfl) #[.int .i64 axl,.int .i64 axh,.int .i64 ayl,.int .i64 ayh,.int .i64 azl,.int .i64 azh] rfl _ und_34 rfl info_34 ?_)
   clear hw3 hg3
   refine (HCB.out _ g3 (HF4.out.get 3 rfl)).mono ?_
   rintro e w5 ⟨rfl,hw⟩
   have HF6:=Lib.hid (HF4.out.below hw)
   clear hw
   obtain ⟨g7,hg7⟩:∃ g,w5.heap.size=g:=⟨_,rfl⟩
   obtain ⟨w7,hw7⟩:∃ u,w5.alloc (.cells #[.int .i64 0] 153)=u:=⟨_,rfl⟩
   have HF8:=Lib.hid (frE hw7 (HF6.out.alloc hg7.symm 153 #[.int .i64 0]))
   go_upto_region 4 with (fail)
   clear hw7 hg7
   refine wp_region_fr [Kind.p,Kind.p,Kind.p,Kind.c 0,Kind.p,Kind.p,Kind.c 1,Kind.a 0,Kind.c 2] [3,6,8] [(7,31,fun k=>(if k≤2 then iC [0,0] else iC [ul,uh]))] w (fun _=>[]) (fun k=>[(qb,36,iC [mul,muh,rl,rh,ol,oh,sl,sh,pxl,pxh,pyl,pyh,pzl,pzh]),(qb+1,34,iC [axl,axh,ayl,ayh,azl,azh]),(qb+1+1,31,iC [0,0]),(g3,34,iC [axl,axh,ayl,ayh,azl,azh]),(g7,153,#[(match k with | 0=>.int .i64 0 | 1=>.int .i64 e1 | 2=>.int .i64 e2 | _=>.int .i64 e2)])])
      (fun ix u _=>match ix with
       | 0=>u=.pointer (some ⟨g7,0,none⟩)
       | 1=>u=.pointer (some ⟨g7,0,none⟩)
       | 2=>u=.agg #[.int .i64 axl,.int .i64 axh,.int .i64 ayl,.int .i64 ayh,.int .i64 azl,.int .i64 azh]
       | 3=>u=.agg #[.int .i64 nl,.int .i64 nh]
       | 4=>u=.pointer (some ⟨qb,2,none⟩)
       | 5=>u=.agg #[.int .i64 rl,.int .i64 rh]
       | 6=>u=.agg #[.int .i64 ul,.int .i64 uh]
       | 7=>u=.pointer (some ⟨gOf u,0,none⟩)
       | _=>True)
      (by kernel_rfl) (by kernel_rfl) (by kernel_rfl) [7] rfl (by decide) (by kernel_rfl) (by kernel_rfl) HF8.out ?_ ?_
   ·refine ⟨?_,?_,?_,?_,?_,?_,?_,?_,?_,trivial⟩
    all_goals intro a w1 vs dn k K S hpre KE DE kk
    ·have e6:=KE 6 (by decide)
     go_simp;exact kk _ _ (by simp) bR rfl
    ·have e6:=KE 6 (by decide)
     go_simp;exact kk _ _ (by simp) bR rfl
    ·have e3:=KE 3 (by decide)
     exact wpo_loadF 34 (.tmp 3) rfl (qb+1) 0 (by simpa [Act.eval] using e3) _ _ (S.fr.left.get 1 rfl) #[.int .i64 axl,.int .i64 axh,.int .i64 ayl,.int .i64 ayh,.int .i64 azl,.int .i64 azh] rfl _ und_34 rfl info_34 (kk _ _ (by simp) bR rfl)
    ·subst hpre
     have e21:=dep (DE 1 _ 21 rfl rfl rfl)
     have e22:=dep (DE 2 _ 22 rfl rfl rfl)
     exact wpo_call 58 _ _ rfl #[.pointer (some ⟨g7,0,none⟩),.agg #[.int .i64 axl,.int .i64 axh,.int .i64 ayl,.int .i64 ayh,.int .i64 azl,.int .i64 azh]] (by simp [Act.eval,e21,e22]) (fun args w=>by kernel_rfl)
      ((HNO.out g7 w1 (S.fr.left.get 4 rfl)).mono fun e w' ⟨he,hb⟩=>⟨_,he,kk _ _ (by simp) (Fr.stage (S.fr.turn 4 rfl hb) (by exact ⟨rfl,trivial⟩)) rfl⟩)
    ·have e2:=KE 2 (by decide)
     go_simp;exact kk _ _ (by simp) bR rfl
    ·have e24:=dep (DE 4 _ 24 rfl rfl rfl)
     exact wpo_loadF 31 (.tmp 24) rfl qb 2 (by simpa [Act.eval] using e24) _ _ (S.fr.left.get 0 rfl) #[.int .i64 rl,.int .i64 rh] rfl _ und_span rfl info_span (kk _ _ (by simp) bR rfl)
    ·subst hpre
     have e20:=dep (DE 0 _ 20 rfl rfl rfl)
     have e23:=dep (DE 3 _ 23 rfl rfl rfl)
     have e25:=dep (DE 5 _ 25 rfl rfl rfl)
     exact wpo_call 57 _ _ rfl #[.pointer (some ⟨g7,0,none⟩),.agg #[.int .i64 nl,.int .i64 nh],.agg #[.int .i64 rl,.int .i64 rh]] (by simp [Act.eval,e20,e23,e25]) (fun args w=>by kernel_rfl)
      ((HSU.out g7 w1 (S.fr.left.get 4 rfl)).mono fun e w' ⟨he,hb⟩=>⟨_,he,kk _ _ (by simp) (Fr.stage (S.fr.turn 4 rfl hb) (by exact ⟨rfl,trivial⟩)) rfl⟩)
    ·go_simp;exact kk _ _ (by simp) (by have h:=S.fr.alloc rfl 31 #[.int .i64 0,.int .i64 0];show Fr _ _ (_ ++ [(_,31,if k≤2 then _ else _)]) _;rw [if_pos (S.hi 2 8 rfl rfl)];exact h) rfl
    ·subst hpre
     have e7:=dep (DE 7 _ 7 rfl rfl rfl)
     have e26:=dep (DE 6 _ 26 rfl rfl rfl)
     have HS:=Fr.done S.fr (by exact ⟨S.done 7 rfl,trivial⟩)
     exact wpo_storeF 31 (.tmp 7) (.tmp 26) rfl rfl ((gOf (vs 7))) 0 (by simpa [Act.eval] using e7) #[.int .i64 ul,.int .i64 uh] (by simpa [Act.eval] using e26) _ _ (iC [ul,uh]) (HS.get 5 rfl) rfl (by show 0+2≤2;omega) (one_all rfl) info_span fun w' hk ho=>kk _ _ (by simp) (Fr.undone (HS.only 5 rfl ho hk) (by exact ⟨S.done 7 rfl,trivial⟩)) trivial
   ·intro vs wf HFr HR
    have HFr':Fr w [] [(qb,36,iC [mul,muh,rl,rh,ol,oh,sl,sh,pxl,pxh,pyl,pyh,pzl,pzh]),(qb+1,34,iC [axl,axh,ayl,ayh,azl,azh]),(qb+1+1,31,iC [0,0]),(g3,34,iC [axl,axh,ayl,ayh,azl,azh]),(g7,153,iC [e2]),((gOf (vs 7)),31,iC [ul,uh])] wf:=HFr
    have v7:vs 7=.pointer (some ⟨(gOf (vs 7)),0,none⟩):=HR 7 _ rfl
    clear HFr HR
    obtain ⟨g9_7,hg9_7⟩:∃ g,gOf (vs 7)=g:=⟨_,rfl⟩
    rw [hg9_7] at HFr'
    rw [hg9_7] at v7
    clear hg9_7
    have HF9:=Lib.hid HFr'
    clear HFr'
    simp only [putAll,Act.put,List.setIfInBounds_toArray,List.set_cons_zero,List.set_cons_succ]
    simp only [v7]
    clear v7
    obtain ⟨w9,rfl⟩:∃ u:World,u=wf:=⟨_,rfl⟩
    go_upto_region 5 with (fail)
    refine wp_region_fr [Kind.p,Kind.p,Kind.p,Kind.p,Kind.p,Kind.c 0,Kind.p] [5] [] w (fun _=>[]) (fun k=>[(qb,36,iC [mul,muh,rl,rh,ol,oh,sl,sh,pxl,pxh,pyl,pyh,pzl,pzh]),(qb+1,34,iC [axl,axh,ayl,ayh,azl,azh]),(qb+1+1,31,(if k≤0 then iC [0,0] else iC [ul,uh])),(g3,34,iC [axl,axh,ayl,ayh,azl,azh]),(g7,153,iC [e2]),(g9_7,31,iC [ul,uh])])
       (fun ix u _=>match ix with
        | 0=>u=.agg #[.int .i64 ul,.int .i64 uh]
        | 1=>u=.pointer (some ⟨g7,0,none⟩)
        | 2=>u=.pointer (some ⟨g7,0,none⟩)
        | 3=>u=.pointer (some ⟨g7,0,none⟩)
        | 4=>u=.int .i64 e2
        | 6=>u=.int .i64 e2
        | _=>True)
       (by kernel_rfl) (by kernel_rfl) (by kernel_rfl) [] rfl (by decide) (by kernel_rfl) (by kernel_rfl) HF9.out ?_ ?_
    ·refine ⟨?_,?_,?_,?_,?_,?_,?_,trivial⟩
     all_goals intro a w1 vs dn k K S hpre KE DE kk
     ·have e7:=KE 7 (by decide)
      exact wpo_loadF 31 (.tmp 7) rfl g9_7 0 (by simpa [Act.eval] using e7) _ _ (S.fr.left.get 5 rfl) #[.int .i64 ul,.int .i64 uh] rfl _ und_span rfl info_span (kk _ _ (by simp) bR rfl)
     ·have e6:=KE 6 (by decide)
      go_simp;exact kk _ _ (by simp) bR rfl
     ·have e28:=dep (DE 1 _ 28 rfl rfl rfl)
      go_simp;exact kk _ _ (by simp) bR rfl
     ·have e29:=dep (DE 2 _ 29 rfl rfl rfl)
      go_simp;exact kk _ _ (by simp) bR rfl
     ·have e30:=dep (DE 3 _ 30 rfl rfl rfl)
      have ca:w1.cell? ⟨g7,0,none⟩=some (.int .i64 e2):=(S.fr.left.get 4 rfl).cell 0
      go_simp;exact kk _ _ (by simp) bR rfl
     ·subst hpre
      have e4:=KE 4 (by decide)
      have e27:=dep (DE 0 _ 27 rfl rfl rfl)
      exact wpo_storeF 31 (.tmp 4) (.tmp 27) rfl rfl (qb+1+1) 0 (by simpa [Act.eval] using e4) #[.int .i64 ul,.int .i64 uh] (by simpa [Act.eval] using e27) _ _ (iC [ul,uh]) (by have:=S.fr.left.get 2 rfl;rw [if_pos (S.hi 0 5 rfl rfl)] at this;exact this) rfl (by show 0+2≤2;omega) (one_all rfl) info_span fun w' hk ho=>kk _ _ (by simp) (Fr.stage (S.fr.only 2 rfl ho hk) (by exact trivial)) trivial
     ·have e31:=dep (DE 4 _ 31 rfl rfl rfl)
      go_simp;exact kk _ _ (by simp) bR rfl
    ·intro vs wf HFr HR
     have HFr':Fr w [] [(qb,36,iC [mul,muh,rl,rh,ol,oh,sl,sh,pxl,pxh,pyl,pyh,pzl,pzh]),(qb+1,34,iC [axl,axh,ayl,ayh,azl,azh]),(qb+1+1,31,iC [ul,uh]),(g3,34,iC [axl,axh,ayl,ayh,azl,azh]),(g7,153,iC [e2]),(g9_7,31,iC [ul,uh])] wf:=HFr
     have v6:vs 6=.int .i64 e2:=HR 6 _ rfl
     clear HFr HR
     have HF10:=Lib.hid HFr'
     clear HFr'
     simp only [putAll,Act.put,List.setIfInBounds_toArray,List.set_cons_zero,List.set_cons_succ]
     simp only [v6]
     clear v6
     obtain ⟨w10,rfl⟩:∃ u:World,u=wf:=⟨_,rfl⟩
     go_wp2_with fail
     refine ret_agg2 rfl rfl rfl (HF10.out.get 2 rfl) rfl und_span rfl info_span ?_
     exact HFIN.out _ ⟨ul,uh⟩ e2 (by simp) HF10.out.drop

theorem run_pushR {P:Program} {w:World} {e:TypeId} {sz bytes:Nat} {v z:Value} {cur:Array Value} {n:Nat} {xs:List Value} (hb:∀ g m c,v=.slice (some ⟨g,0,none⟩) m c→Bk w g e cur) (hl:LstAt sz v cur n xs)
  (t ty:TypeId) (ht:P.underlying t=some (.slice e)) (hinf:(P.info? e).map (fun i=>(i.zero,i.size,i.bytes))=some (some z,sz,bytes)) (hzs:z.cells.size=sz) (hsz:0<sz) (hby:bytes≤4096) (hn:n≤65536)
  (ad:Addr) (c:Nat) (news:List Value) (hnl:news.length=sz) (hnews:∀ j u,news[j]?=some u→w.cell? (ad.add j)=some u) (h1:∀ u ∈ news,u.oneCell'=true) :
  ∃ v' w' cur',(Builtin.append_ #[t,t] ty #[v,.slice (some ad) 1 c]).run P w=.ok v' w'∧LstAt sz v' cur' (n+1) (xs ++ news)∧∃ g m c,v'=.slice (some ⟨g,0,none⟩) m c∧Bk w' g e cur'∧((∃ m c,v=.slice (some ⟨g,0,none⟩) m c∧w.grownBy w' (some g)) ∨ (w.heap.size≤g∧w.grownBy w' none)):=by
 obtain ⟨i,hi,hz,hk,hbb⟩:=info_parts hinf
 have hmul:(n+1) * bytes≤140737488355328:=Nat.le_trans (Nat.mul_le_mul (show n+1≤65537 by omega) hby) (by decide)
 rcases hl.2 with ⟨rfl,rfl⟩ | ⟨g0,cap0,rfl,q2,q3,q4,q5⟩
 ·have hx:xs=[]:=List.eq_nil_of_length_eq_zero (by simpa using hl.1)
  subst hx
  obtain ⟨v',w',hr,a1,a2,a3⟩:=run_append_own (P:=P) w w.heap.size t ty e i z sz bytes ht hi hz hk hbb hzs hsz _ 0 [] (World.ownsRow_nil w _ e sz) ad 1 c news (by omega) hnews h1 (by unfold maxLen;omega) hmul (Nat.le_refl _)
  rcases a1.2 with ⟨_,h0⟩ | ⟨g,cap,cur',rfl,hge,hg,h2,h3,h4,h5⟩
  ·omega
  ·exact ⟨_,w',cur',hr,⟨a1.1,.inr ⟨g,cap,rfl,h2,h3,h4,h5⟩⟩,g,_,_,rfl,hg,.inr ⟨hge,a2⟩⟩
 ·have hbk:=hb g0 n cap0 rfl
  have hown:w.ownsRow 0 e sz (.slice (some ⟨g0,0,none⟩) n cap0) n xs:=⟨hl.1,.inr ⟨g0,cap0,cur,rfl,Nat.zero_le _,hbk,q2,q3,q4,q5⟩⟩
  by_cases hroom:n+1≤cap0
  ·obtain ⟨w',hr,a1,a2⟩:=run_append_fits (P:=P) w 0 t ty e i sz ht hi hk g0 n cap0 xs hown ad 1 c news (by omega) hnews h1 hroom
   rcases a1.2 with ⟨h0,_⟩ | ⟨g,cap,cur',h0,_,hg,h2,h3,h4,h5⟩
   ·cases h0
   ·injection h0 with e1 e2 e3
    injection e1 with e1
    injection e1 with e1
    subst e1 e3
    exact ⟨_,w',cur',hr,⟨a1.1,.inr ⟨g0,cap0,rfl,h2,h3,h4,h5⟩⟩,g0,_,_,rfl,hg,.inl ⟨_,_,rfl,a2⟩⟩
  ·subst hk hbb
   have hr:=run_append_grow (P:=P) w t ty e i z ht hi hz ⟨g0,0,none⟩ n cap0 xs hl.1 (hown.cells (g:=g0) rfl) ad 1 c news (by omega) hnews (by omega) (by omega) (growslice_fits (by omega) hmul)
   refine ⟨_,_,_,hr,?_,w.heap.size,_,_,rfl,Bk.new w.drew _ _,.inr ⟨Nat.le_refl _,⟨rfl,rfl,rfl,by simp,fun k hk _=>by show (w.heap.push _)[k]?=_;rw [Array.getElem?_push_lt hk,Array.getElem?_eq_getElem hk]⟩⟩⟩
   have hge:=grownCap_ge w (n+1) cap0 e
   have hlen:(xs ++ news).length=(n+1) * i.size:=by rw [List.length_append,hl.1,hnl,Nat.add_mul];omega
   refine ⟨hlen,.inr ⟨_,_,rfl,hge,grownCap_le_maxLen w (n+1) cap0 e (by unfold maxLen;omega),?_,?_⟩⟩
   ·simp only [Array.size_append,List.size_toArray,size_zeroCells,hzs,hl.1,hnl]
    have:n * i.size+i.size=(n+1) * i.size:=by rw [Nat.add_mul];omega
    rw [this,← Nat.add_mul]
    congr 1
    omega
   ·simp only [Array.toList_append,List.append_assoc]
    rw [← List.append_assoc,← hlen]
    exact List.take_left
section
variable {W w w':World} {O N:List Ent} {g:Nat} {e:TypeId} {cur cur':Array Value}
theorem Fr.grownA (h:Fr W O N w) (hg:w.grownBy w' none):Fr W O N w':=h.turned (Nat.le_refl _) hg fun r e=>by cases e
theorem Fr.addN (h:Fr W O N w) (hb:Bk w g e cur) (hg:W.heap.size≤g) (hn:g ∉ N.map (·.1)):Fr W O (N ++ [(g,e,cur)]) w :=
 ⟨h.os,h.tape,h.output,h.size,h.far,h.old,fun x hx=>by
  rcases List.mem_append.1 hx with hx | hx
  ·exact h.new x hx
  ·obtain rfl:=List.mem_singleton.1 hx;exact ⟨hg,hb⟩,h.ndO,by
  rw [List.map_append,List.nodup_append]
  refine ⟨h.ndN,by simp,fun a ha b hb e2=>?_⟩
  subst e2
  obtain rfl:a=g:=by simpa using hb
  exact hn ha⟩
theorem Fr.addG (h:Fr W O N w) (hg:w.grownBy w' none) (hb:Bk w' g e cur) (hge:w.heap.size≤g):Fr W O (N ++ [(g,e,cur)]) w' :=
 (h.grownA hg).addN hb (Nat.le_trans h.size hge) fun hm=>by
  obtain ⟨x,hx,rfl⟩:=List.mem_map.1 hm
  have:=(h.new x hx).2.lt
  omega
/-- The list's own block has turned: an old one. -/
theorem Fr.grownB (h:Fr W (O ++ [(g,e,cur)]) N w) (hg:w.grownBy w' (some g)) (hb:Bk w' g e cur'):Fr W (O ++ [(g,e,cur')]) N w':=by
 have hkey:∀ c:Array Value,((O ++ [(g,e,c)]).map (·.1))=O.map (·.1) ++ [g]:=fun c=>by rw [List.map_append];rfl
 have hgO:g ∉ O.map (·.1):=fun hm=>by
  have:=h.ndO
  rw [hkey,List.nodup_append] at this
  exact this.2.2 g hm g (by simp) rfl
 have hgm:g<W.heap.size:=(h.old (g,e,cur) (by simp)).1
 refine ⟨hg.os.trans h.os,hg.tape.trans h.tape,hg.output.trans h.output,Nat.le_trans h.size hg.size,fun c hc hx=>?_,fun x hx=>?_,fun x hx=>⟨(h.new x hx).1,?_⟩,by rw [hkey];have:=h.ndO;rwa [hkey] at this,h.ndN⟩
 ·rw [hkey] at hx
  refine (hg.block c (Nat.lt_of_lt_of_le hc h.size) fun e2=>hx ?_).trans (h.far c hc (by rw [hkey];exact hx))
  injection e2 with e2
  simp [e2]
 ·rcases List.mem_append.1 hx with hx | hx
  ·refine ⟨(h.old x (List.mem_append_left _ hx)).1,(hg.block x.1 (h.old x (List.mem_append_left _ hx)).2.lt fun e2=>?_).trans (h.old x (List.mem_append_left _ hx)).2⟩
   injection e2 with e2
   exact hgO (List.mem_map.2 ⟨x,hx,e2⟩)
  ·obtain rfl:=List.mem_singleton.1 hx
   exact ⟨hgm,hb⟩
 ·refine (hg.block x.1 (h.new x hx).2.lt fun e2=>?_).trans (h.new x hx).2
  injection e2 with e2
  have:=(h.new x hx).1
  omega
end
/-- What an append has made of a list: its block has turned, or a new one stands beside it. -/
def LG (e:TypeId) (sz:Nat) (v v':Value) (cur:Array Value) (n:Nat) (xs:List Value) (O2 N2:List Ent):Prop :=
 ∃ g m c cur',v'=.slice (some ⟨g,0,none⟩) m c∧LstAt sz v' cur' n xs∧((∃ m c,v=.slice (some ⟨g,0,none⟩) m c∧O2=[(g,e,cur')]∧N2=[]) ∨ (O2=lstE e v cur∧N2=[(g,e,cur')]))
theorem wpo_pushO {P:Program} {W w:World} {O N:List Ent} {e:TypeId} {sz bytes:Nat} {v z:Value} {cur:Array Value} {n:Nat} {xs:List Value} {o:Oper} {a:Act} {K:Act→World→Prop} {Q:Exit→Act→World→Prop} (s x:Operand) (t:TypeId) (ho:o.op=.call { callee:=.builtin .append,args:=#[s,x],argTypes:=#[t,t] })
  (hf:Fr W (O ++ lstE e v cur) N w) (hl:LstAt sz v cur n xs) (ht:P.underlying t=some (.slice e)) (hinf:(P.info? e).map (fun i=>(i.zero,i.size,i.bytes))=some (some z,sz,bytes)) (hzs:z.cells.size=sz) (hsz:0<sz) (hby:bytes≤4096) (hn:n≤65536)
  (g:Nat) (c:Nat) (cs:Array Value) (t':TypeId) (hs:a.eval s=v) (hx:a.eval x=.slice (some ⟨g,0,none⟩) 1 c) (hk:Bk w g t' cs) (hcs:cs.size=sz) (h1:(cs.toList.all fun u=>u.oneCell')=true)
  (h:∀ v' w' O2 N2,LG e sz v v' cur (n+1) (xs ++ cs.toList) O2 N2→Fr W (O ++ O2) (N ++ N2) w'→K (a.put o.dst v') w'):o.wp P a w K Q:=by
 obtain ⟨v',w',cur',hr,h2,g',m',c',hv',hbk,h3⟩:=run_pushR (P:=P) (w:=w) (e:=e) (fun g m c hv=>(hf.old (g,e,cur) (List.mem_append_right _ (by subst hv;simp [lstE]))).2) hl t o.type ht hinf hzs hsz hby hn ⟨g,0,none⟩ c cs.toList (by simpa using hcs) (fun j u hj=>by rw [Addr.add_lit,Nat.zero_add,hk.cell,← Array.getElem?_toList];exact hj) (one_all h1)
 unfold Oper.wp execOp
 simp only [ho,resolve,invoke,builtin,Sem.run_bind,Sem.run_pure,Result.andThen_ok,List.map_toArray,List.map_cons,List.map_nil,hs,hx,hr]
 rcases h3 with ⟨m,c2,hv,hg⟩ | ⟨hge,hg⟩
 ·refine h v' w' [(g',e,cur')] [] ⟨g',m',c',cur',hv',h2,.inl ⟨m,c2,hv,rfl,rfl⟩⟩ ?_
  subst hv
  rw [List.append_nil]
  exact Fr.grownB (cur:=cur) hf hg hbk
 ·exact h v' w' (lstE e v cur) [(g',e,cur')] ⟨g',m',c',cur',hv',h2,.inr ⟨rfl,rfl⟩⟩ (hf.addG hg hbk hge)
end Go.Proofs.YtmkoegljnebdiaaGreat
namespace Go.Proofs.YtmkoegljnebdiaaGreat
open Go.RowKit Go.Shelf
set_option maxRecDepth 100000
set_option maxHeartbeats 16000000
attribute [local go_sem] Oper.semAt_some

def stA (s:StateD):Array Value:=(stateV s).cells
def tbA (t:TubeD):Array Value:=(tubeV t).cells
/-- k steps. -/
def runK (G:StateD→(StateD × TubeD) × Int) (s:StateD):Nat→(StateD × List TubeD) × Int
 | 0=>((s,[]),0)
 | k+1=>if (runK G s k).2=0 then (if (G (runK G s k).1.1).2=0 then (((G (runK G s k).1.1).1.1,(runK G s k).1.2 ++ [(G (runK G s k).1.1).1.2]),0) else ((noSt,[]),(G (runK G s k).1.1).2)) else runK G s k
theorem runK_stop (G:StateD→(StateD × TubeD) × Int) (s:StateD) {k:Nat} (h:(runK G s k).2 ≠ 0):∀ m,runK G s (k+m)=runK G s k
 | 0=>rfl
 | m+1=>by
  show runK G s (k+m+1)=_
  rw [runK,runK_stop G s h m,if_neg h]
theorem runK_len (G:StateD→(StateD × TubeD) × Int) (s:StateD):∀ k,(runK G s k).2=0→(runK G s k).1.2.length=k
 | 0,_=>rfl
 | k+1,h=>by
  rw [runK] at h ⊢
  by_cases h1:(runK G s k).2=0
  ·rw [if_pos h1] at h ⊢
   by_cases h2:(G (runK G s k).1.1).2=0
   ·rw [if_pos h2];simp [runK_len G s k h1]
   ·rw [if_neg h2] at h;exact absurd h h2
  ·rw [if_neg h1] at h;exact absurd h h1
theorem runK_wd {G:StateD→(StateD × TubeD) × Int} {s:StateD} (hs:I64W s) (hG:∀ s,I64W s→I64W (G s).1.1):∀ k,(runK G s k).2=0→I64W (runK G s k).1.1
 | 0,_=>hs
 | k+1,h=>by
  rw [runK] at h ⊢
  by_cases h1:(runK G s k).2=0
  ·rw [if_pos h1] at h ⊢
   by_cases h2:(G (runK G s k).1.1).2=0
   ·rw [if_pos h2];exact hG _ (runK_wd hs hG k h1)
   ·rw [if_neg h2] at h;exact absurd h h2
  ·rw [if_neg h1] at h;exact absurd h h1
theorem runK_bad (G:StateD→(StateD × TubeD) × Int) (s:StateD):∀ k,(runK G s k).2 ≠ 0→(runK G s k).1=(noSt,[])
 | 0,h=>absurd rfl h
 | k+1,h=>by
  rw [runK] at h ⊢
  by_cases h1:(runK G s k).2=0
  ·rw [if_pos h1] at h ⊢
   by_cases h2:(G (runK G s k).1.1).2=0
   ·rw [if_pos h2] at h;exact absurd rfl h
   ·rw [if_neg h2]
  ·rw [if_neg h1] at h ⊢;exact runK_bad G s k h
def tbsC (l:List TubeD):List Value:=l.flatMap fun t=>(tbA t).toList
def AlongPost (r:(StateD × List TubeD) × Int) (w:World) (v:Ending) (w':World):Prop:=∃ u cur,v=.returned (.tuple #[stateV r.1.1,u,.int .i64 r.2])∧LstAt 16 u cur r.1.2.length (tbsC r.1.2)∧Fr w [] (lstE 58 u cur) w'
theorem results_cc1c1 {P:Program} {fn:Func} {p q r:Tmp} {ty ty2 ty3:TypeId} (h:fn.results=#[.cell p ty,.cell q ty2,.cell r ty3]) (tmps:Array Value) (w:World) (g k m:Nat) (t t' t3:TypeId) (cs:Array Value) (u u3:Value) (d d2 d3:TypeDesc)
  (hp:tmps.getD p undef=.pointer (some ⟨g,0,none⟩)) (hq:tmps.getD q undef=.pointer (some ⟨k,0,none⟩)) (hr:tmps.getD r undef=.pointer (some ⟨m,0,none⟩)) (hk:Bk w g t cs) (hk2:Bk w k t' #[u]) (hk3:Bk w m t3 #[u3])
  (hu:P.underlying ty=some d) (hd:(match d with | .struct _ | .array _ _=>true | _=>false)=true) (hi:(P.info? ty).map (·.size)=some cs.size)
  (hu2:P.underlying ty2=some d2) (hd2:(match d2 with | .struct _ | .array _ _=>true | _=>false)=false) (hu3:P.underlying ty3=some d3) (hd3:(match d3 with | .struct _ | .array _ _=>true | _=>false)=false) :
  (results fn tmps).run P w=.ok (.tuple #[.agg cs,u,u3]) w:=by
 have hl:=run_loadVar_at (P:=P) w g 0 ty cs d (fun j v hj=>by rw [Nat.zero_add,hk.cell];exact hj) hu hd hi
 have hp':tmps[p]?.getD undef=.pointer (some ⟨g,0,none⟩):=by simpa using hp
 have hq':tmps[q]?.getD undef=.pointer (some ⟨k,0,none⟩):=by simpa using hq
 have hr':tmps[r]?.getD undef=.pointer (some ⟨m,0,none⟩):=by simpa using hr
 have hc:w.cell? ⟨k,0,none⟩=some u:=hk2.cell 0
 have hc3:w.cell? ⟨m,0,none⟩=some u3:=hk3.cell 0
 have hagg:(isAgg ty2).run P w=.ok false w:=by
  unfold isAgg
  rw [Sem.run_bind,run_underlying hu2 w]
  cases d2 <;> simp_all
 have hagg3:(isAgg ty3).run P w=.ok false w:=by
  unfold isAgg
  rw [Sem.run_bind,run_underlying hu3 w]
  cases d3 <;> simp_all
 have hl2:(loadVar ty2 ⟨k,0,none⟩).run P w=.ok u w:=by
  simp [loadVar,Sem.run_bind,hagg,go_sem,hc]
 have hl3:(loadVar ty3 ⟨m,0,none⟩).run P w=.ok u3 w:=by
  simp [loadVar,Sem.run_bind,hagg3,go_sem,hc3]
 simp [results,h,hp',hq',hr',asAddr,hl,hl2,hl3]
theorem und_40:Tryz.prog.underlying 40=some (.slice 58):=by kernel_rfl
theorem info_58b:(Tryz.prog.info? 58).map (fun i=>(i.zero,i.size,i.bytes))=some (some (tubeV noTb),16,128):=by kernel_rfl
theorem along_any (p:PlanetD) (a:ArcD) (A:Option Addr) (na c:Nat) (s:StateD) (n:Nat) (G:StateD→(StateD × TubeD) × Int)
  (hG:∀ s w',I64W s→Calls Tryz.prog 62 #[modelV p a A na c,stateV s,.int .i64 a.step] w' fun v w''=>v=.returned (.tuple #[stateV (G s).1.1,tubeV (G s).1.2,.int .i64 (G s).2])∧Below w'.heap.size w' w'')
  (hGw:∀ s,I64W s→I64W (G s).1.1) (hs:I64W s) (hn:n≤4096) (hst:0<a.step) (hti:a.time=n * a.step) (h64:I64 a.time) (h64s:I64 a.step) (w:World) :
  Calls Tryz.prog 23 #[planetV p,arcV a A na c,stateV s,.bool false,.slice none 0 0] w (AlongPost (runK G s n) w):=by
 obtain ⟨PQ,hPQ⟩:∃ Q,AlongPost (runK G s n) w=Q:=⟨_,rfl⟩
 have HFIN:Hid (∀ w' S l e u cur,runK G s n=((S,l),e)→LstAt 16 u cur l.length (tbsC l)→Fr w [] (lstE 58 u cur) w'→PQ (.returned (.tuple #[.agg (stA S),u,.int .i64 e])) w'):=Lib.hid fun w' S l e u cur h h1 h2=>by rw [← hPQ,h];exact ⟨u,cur,rfl,h1,h2⟩
 have HLE:=Lib.hid (fun w=>lengths_any a A na c false w)
 have HGG:=Lib.hid hG
 have HSW:Hid (∀ k,(runK G s k).2=0→I64W (runK G s k).1.1):=Lib.hid (runK_wd hs hGw)
 have HSL:Hid (∀ k,(runK G s k).2=0→(runK G s k).1.2.length=k):=Lib.hid (runK_len G s)
 have HSN:Hid (∀ k,(runK G s k).2 ≠ 0→k≤n→runK G s n=runK G s k):=Lib.hid fun k h hk=>by
  obtain ⟨m,rfl⟩:∃ m,n=k+m:=⟨n - k,by omega⟩
  exact runK_stop G s h m
 have HSS:Hid (∀ k,(runK G s k).2=0→runK G s (k+1)=if (G (runK G s k).1.1).2=0 then (((G (runK G s k).1.1).1.1,(runK G s k).1.2 ++ [(G (runK G s k).1.1).1.2]),0) else ((noSt,[]),(G (runK G s k).1.1).2)):=Lib.hid fun k h=>by rw [runK,if_pos h]
 have HSB:=Lib.hid (runK_bad G s)
 obtain ⟨RK,hRK⟩:∃ R,runK G s=R:=⟨_,rfl⟩
 have HR0:Hid (RK 0=((s,[]),0)):=Lib.hid (by rw [← hRK];rfl)
 rw [hRK] at HFIN HSW HSL HSN HSS HSB
 rw [hPQ]
 obtain ⟨⟨mul,muh⟩,⟨rl,rh⟩,⟨ol,oh⟩,⟨sl,sh⟩,⟨⟨pxl,pxh⟩,⟨pyl,pyh⟩,⟨pzl,pzh⟩⟩⟩:=p
 obtain ⟨time,step,⟨tl,th⟩,⟨fl,fh⟩,⟨⟨dxl,dxh⟩,⟨dyl,dyh⟩,⟨dzl,dzh⟩⟩,drag,⟨dl,dh⟩⟩:=a
 have hsv:stateV s=.agg (stA s):=rfl
 rw [hsv]
 unfold modelV at HGG
 unfold arcV at HLE ⊢
 unfold planetV
 dsimp only at HGG HLE hti h64 h64s hst ⊢
 have HLEN:Hid (∀ w,Calls Tryz.prog 63 #[.agg #[.int .i64 time,.int .i64 step,.int .i64 tl,.int .i64 th,.int .i64 fl,.int .i64 fh,.int .i64 dxl,.int .i64 dxh,.int .i64 dyl,.int .i64 dyh,.int .i64 dzl,.int .i64 dzh,.slice A na c,.int .i64 dl,.int .i64 dh],.bool false] w fun e w'=>∃ B1 B2,e=.returned (.func (.func 126) #[] #[.pointer (some ⟨B1,0,none⟩),.pointer (some ⟨B2,0,none⟩)])∧Fr w [] [(B1,46,#[.int .i64 time,.int .i64 step,.int .i64 tl,.int .i64 th,.int .i64 fl,.int .i64 fh,.int .i64 dxl,.int .i64 dxh,.int .i64 dyl,.int .i64 dyh,.int .i64 dzl,.int .i64 dzh,.slice A na c,.int .i64 dl,.int .i64 dh]),(B2,4,#[.bool false])] w'):=Lib.hid fun w=>(HLE.out w).mono fun e w' h=>⟨_,_,h.1,h.2⟩
 have HTI:=Lib.hid hti
 have HST:=Lib.hid hst
 have H64:=Lib.hid (And.intro h64 h64s)
 clear hG hGw hs hPQ hRK hsv HLE hti hst h64 h64s
 refine (callsIn_wide (n:=6)).1 ?_
 refine callsIn_of_wp_marks Tryz.func23 rfl trivial ?_ rfl
 simp only [Tryz.ntmps23,List.size_toArray,List.length_cons,List.length_nil,Nat.reduceAdd,Nat.reduceSub,Array.replicate_succ,Array.replicate_zero,List.push_toArray,List.append_toArray,List.nil_append,List.cons_append]
 refine wpIn_wide.2 ?_
 obtain ⟨qb,hqb⟩:∃ qb,w.heap.size=qb:=⟨_,rfl⟩
 obtain ⟨W0,hW0⟩:∃ W0,((((((w.alloc (.cells #[.int .i64 mul,.int .i64 muh,.int .i64 rl,.int .i64 rh,.int .i64 ol,.int .i64 oh,.int .i64 sl,.int .i64 sh,.int .i64 pxl,.int .i64 pxh,.int .i64 pyl,.int .i64 pyh,.int .i64 pzl,.int .i64 pzh] 36)).alloc (.cells #[.int .i64 time,.int .i64 step,.int .i64 tl,.int .i64 th,.int .i64 fl,.int .i64 fh,.int .i64 dxl,.int .i64 dxh,.int .i64 dyl,.int .i64 dyh,.int .i64 dzl,.int .i64 dzh,.slice A na c,.int .i64 dl,.int .i64 dh] 46)).alloc (.cells (stA s) 38)).alloc (.cells #[.slice none 0 0] 40)).alloc (.cells #[.int .i64 0,.int .i64 0,.int .i64 0,.int .i64 0,.int .i64 0,.int .i64 0,.int .i64 0,.int .i64 0,.int .i64 0,.int .i64 0,.int .i64 0,.int .i64 0,.int .i64 0,.int .i64 0,.int .i64 0] 38)).alloc (.cells #[.slice none 0 0] 40)).alloc (.cells #[.int .i64 0] 41)=W0:=⟨_,rfl⟩
 have HF0:Hid (Fr w [] [(qb,36,iC [mul,muh,rl,rh,ol,oh,sl,sh,pxl,pxh,pyl,pyh,pzl,pzh]),(qb+1,46,#[.int .i64 time,.int .i64 step,.int .i64 tl,.int .i64 th,.int .i64 fl,.int .i64 fh,.int .i64 dxl,.int .i64 dxh,.int .i64 dyl,.int .i64 dyh,.int .i64 dzl,.int .i64 dzh,.slice A na c,.int .i64 dl,.int .i64 dh]),(qb+1+1,38,stA s),(qb+1+1+1,40,#[.slice none 0 0]),(qb+1+1+1+1,38,iC [0,0,0,0,0,0,0,0,0,0,0,0,0,0,0]),(qb+1+1+1+1+1,40,#[.slice none 0 0]),(qb+1+1+1+1+1+1,41,iC [0])] W0):=Lib.hid (by rw [← hW0];exact Fr.alloc (g:=qb+1+1+1+1+1+1) (Fr.alloc (g:=qb+1+1+1+1+1) (Fr.alloc (g:=qb+1+1+1+1) (Fr.alloc (g:=qb+1+1+1) (Fr.alloc (g:=qb+1+1) (Fr.alloc (g:=qb+1) (Fr.alloc (g:=qb) (Fr.start w) (by simp [← hqb]) 36 #[.int .i64 mul,.int .i64 muh,.int .i64 rl,.int .i64 rh,.int .i64 ol,.int .i64 oh,.int .i64 sl,.int .i64 sh,.int .i64 pxl,.int .i64 pxh,.int .i64 pyl,.int .i64 pyh,.int .i64 pzl,.int .i64 pzh]) (by simp [← hqb]) 46 #[.int .i64 time,.int .i64 step,.int .i64 tl,.int .i64 th,.int .i64 fl,.int .i64 fh,.int .i64 dxl,.int .i64 dxh,.int .i64 dyl,.int .i64 dyh,.int .i64 dzl,.int .i64 dzh,.slice A na c,.int .i64 dl,.int .i64 dh]) (by simp [← hqb]) 38 (stA s)) (by simp [← hqb]) 40 #[.slice none 0 0]) (by simp [← hqb]) 38 #[.int .i64 0,.int .i64 0,.int .i64 0,.int .i64 0,.int .i64 0,.int .i64 0,.int .i64 0,.int .i64 0,.int .i64 0,.int .i64 0,.int .i64 0,.int .i64 0,.int .i64 0,.int .i64 0,.int .i64 0]) (by simp [← hqb]) 40 #[.slice none 0 0]) (by simp [← hqb]) 41 #[.int .i64 0])
 go_upto_region 1 with (fail)
 clear hW0 hqb
 obtain ⟨g1,hg1⟩:∃ g,W0.heap.size=g:=⟨_,rfl⟩
 obtain ⟨w1,hw1⟩:∃ u,W0.alloc (.cells #[.int .i64 0,.int .i64 0,.int .i64 0,.int .i64 0,.int .i64 0,.int .i64 0,.int .i64 0,.int .i64 0,.int .i64 0,.int .i64 0,.int .i64 0,.int .i64 0,.int .i64 0,.int .i64 0,.int .i64 0,.int .i64 0,.int .i64 0,.int .i64 0,.int .i64 0,.int .i64 0,.int .i64 0,.int .i64 0,.int .i64 0,.int .i64 0,.int .i64 0,.int .i64 0,.slice none 0 0,.int .i64 0,.int .i64 0] 160)=u:=⟨_,rfl⟩
 have HF2:=Lib.hid (frE hw1 (HF0.out.alloc hg1.symm 160 #[.int .i64 0,.int .i64 0,.int .i64 0,.int .i64 0,.int .i64 0,.int .i64 0,.int .i64 0,.int .i64 0,.int .i64 0,.int .i64 0,.int .i64 0,.int .i64 0,.int .i64 0,.int .i64 0,.int .i64 0,.int .i64 0,.int .i64 0,.int .i64 0,.int .i64 0,.int .i64 0,.int .i64 0,.int .i64 0,.int .i64 0,.int .i64 0,.int .i64 0,.int .i64 0,.slice none 0 0,.int .i64 0,.int .i64 0]))
 go_wp2_with (first
   | (refine wpLoadF rfl 36 _ rfl qb 0 rfl _ _ (HF0.out.get 0 rfl) #[.int .i64 mul,.int .i64 muh,.int .i64 rl,.int .i64 rh,.int .i64 ol,.int .i64 oh,.int .i64 sl,.int .i64 sh,.int .i64 pxl,.int .i64 pxh,.int .i64 pyl,.int .i64 pyh,.int .i64 pzl,.int .i64 pzh] rfl _ und_36 rfl info_36 ?_)
   | (refine wpLoadF rfl 46 _ rfl (qb+1) 0 rfl _ _ (HF0.out.get 1 rfl) #[.int .i64 time,.int .i64 step,.int .i64 tl,.int .i64 th,.int .i64 fl,.int .i64 fh,.int .i64 dxl,.int .i64 dxh,.int .i64 dyl,.int .i64 dyh,.int .i64 dzl,.int .i64 dzh,.slice A na c,.int .i64 dl,.int .i64 dh] rfl _ und_46 rfl info_46 ?_)
   | (refine wpLoadF rfl 46 _ rfl (qb+1) 0 rfl _ _ (HF4.out.get 1 rfl) #[.int .i64 time,.int .i64 step,.int .i64 tl,.int .i64 th,.int .i64 fl,.int .i64 fh,.int .i64 dxl,.int .i64 dxh,.int .i64 dyl,.int .i64 dyh,.int .i64 dzl,.int .i64 dzh,.slice A na c,.int .i64 dl,.int .i64 dh] rfl _ und_46 rfl info_46 ?_)
   | (refine wpStoreF rfl rfl 160 _ _ rfl g1 0 rfl #[.int .i64 mul,.int .i64 muh,.int .i64 rl,.int .i64 rh,.int .i64 ol,.int .i64 oh,.int .i64 sl,.int .i64 sh,.int .i64 pxl,.int .i64 pxh,.int .i64 pyl,.int .i64 pyh,.int .i64 pzl,.int .i64 pzh,.int .i64 time,.int .i64 step,.int .i64 tl,.int .i64 th,.int .i64 fl,.int .i64 fh,.int .i64 dxl,.int .i64 dxh,.int .i64 dyl,.int .i64 dyh,.int .i64 dzl,.int .i64 dzh,.slice A na c,.int .i64 dl,.int .i64 dh] rfl _ _ #[.int .i64 mul,.int .i64 muh,.int .i64 rl,.int .i64 rh,.int .i64 ol,.int .i64 oh,.int .i64 sl,.int .i64 sh,.int .i64 pxl,.int .i64 pxh,.int .i64 pyl,.int .i64 pyh,.int .i64 pzl,.int .i64 pzh,.int .i64 time,.int .i64 step,.int .i64 tl,.int .i64 th,.int .i64 fl,.int .i64 fh,.int .i64 dxl,.int .i64 dxh,.int .i64 dyl,.int .i64 dyh,.int .i64 dzl,.int .i64 dzh,.slice A na c,.int .i64 dl,.int .i64 dh] (HF2.out.get 7 rfl) rfl (by show 0+29≤29;omega) (one_all rfl) info_160 ?_;intro w3 hk ho;clear hw1 hg1;have HF4:=Lib.hid (HF2.out.only 7 rfl ho hk);clear ho hk))
 refine (HLEN.out _).mono ?_
 rintro e w5 ⟨B1,B2,rfl,hw⟩
 have HF6:=Lib.hid (HF4.out.more hw)
 clear hw
 have hws:w.heap.size≤w5.heap.size:=HF6.out.size
 have HKB:Hid (∀ x,x ∈ [B1,B2]→x<w5.heap.size):=Lib.hid fun x hx=>by
  simp only [List.mem_cons,List.not_mem_nil,or_false] at hx
  rcases hx with rfl | rfl
  ·exact (HF6.out.get 8 rfl).lt
  ·exact (HF6.out.get 9 rfl).lt
 have HSTOP:=Lib.hid (lens_stops B1 B2 n time step hn HST.out HTI.out H64.out.1 H64.out.2 w5 (HKB.out _ (by simp)) (HKB.out _ (by simp)) ((HF6.out.get 8 rfl).cell 0) ((HF6.out.get 8 rfl).cell 1) ((HF6.out.get 9 rfl).cell 0))
 obtain ⟨S,hS⟩:∃ S:List (Fin n)→(StateD × List TubeD) × Int,S=fun pre=>RK pre.length:=⟨_,rfl⟩
 have HS:=Lib.hid hS
 obtain ⟨IB,hIB⟩:∃ I:List (Fin n)→World→Prop,(fun pre W=>(S pre).2=0∧∃ u cur,LstAt 16 u cur (S pre).1.2.length (tbsC (S pre).1.2)∧Fr w [] ([(qb,36,iC [mul,muh,rl,rh,ol,oh,sl,sh,pxl,pxh,pyl,pyh,pzl,pzh]),(qb+1,46,#[.int .i64 time,.int .i64 step,.int .i64 tl,.int .i64 th,.int .i64 fl,.int .i64 fh,.int .i64 dxl,.int .i64 dxh,.int .i64 dyl,.int .i64 dyh,.int .i64 dzl,.int .i64 dzh,.slice A na c,.int .i64 dl,.int .i64 dh]),(qb+1+1,38,stA (S pre).1.1),(qb+1+1+1,40,#[u]),(qb+1+1+1+1,38,iC [0,0,0,0,0,0,0,0,0,0,0,0,0,0,0]),(qb+1+1+1+1+1,40,#[.slice none 0 0]),(qb+1+1+1+1+1+1,41,iC [0]),(g1,160,#[.int .i64 mul,.int .i64 muh,.int .i64 rl,.int .i64 rh,.int .i64 ol,.int .i64 oh,.int .i64 sl,.int .i64 sh,.int .i64 pxl,.int .i64 pxh,.int .i64 pyl,.int .i64 pyh,.int .i64 pzl,.int .i64 pzh,.int .i64 time,.int .i64 step,.int .i64 tl,.int .i64 th,.int .i64 fl,.int .i64 fh,.int .i64 dxl,.int .i64 dxh,.int .i64 dyl,.int .i64 dyh,.int .i64 dzl,.int .i64 dzh,.slice A na c,.int .i64 dl,.int .i64 dh]),(B1,46,#[.int .i64 time,.int .i64 step,.int .i64 tl,.int .i64 th,.int .i64 fl,.int .i64 fh,.int .i64 dxl,.int .i64 dxh,.int .i64 dyl,.int .i64 dyh,.int .i64 dzl,.int .i64 dzh,.slice A na c,.int .i64 dl,.int .i64 dh]),(B2,4,#[.bool false])] ++ lstE 58 u cur) W)=I:=⟨_,rfl⟩
 have HI:Hid (∀ pre W,IB pre W ↔ ((S pre).2=0∧∃ u cur,LstAt 16 u cur (S pre).1.2.length (tbsC (S pre).1.2)∧Fr w [] ([(qb,36,iC [mul,muh,rl,rh,ol,oh,sl,sh,pxl,pxh,pyl,pyh,pzl,pzh]),(qb+1,46,#[.int .i64 time,.int .i64 step,.int .i64 tl,.int .i64 th,.int .i64 fl,.int .i64 fh,.int .i64 dxl,.int .i64 dxh,.int .i64 dyl,.int .i64 dyh,.int .i64 dzl,.int .i64 dzh,.slice A na c,.int .i64 dl,.int .i64 dh]),(qb+1+1,38,stA (S pre).1.1),(qb+1+1+1,40,#[u]),(qb+1+1+1+1,38,iC [0,0,0,0,0,0,0,0,0,0,0,0,0,0,0]),(qb+1+1+1+1+1,40,#[.slice none 0 0]),(qb+1+1+1+1+1+1,41,iC [0]),(g1,160,#[.int .i64 mul,.int .i64 muh,.int .i64 rl,.int .i64 rh,.int .i64 ol,.int .i64 oh,.int .i64 sl,.int .i64 sh,.int .i64 pxl,.int .i64 pxh,.int .i64 pyl,.int .i64 pyh,.int .i64 pzl,.int .i64 pzh,.int .i64 time,.int .i64 step,.int .i64 tl,.int .i64 th,.int .i64 fl,.int .i64 fh,.int .i64 dxl,.int .i64 dxh,.int .i64 dyl,.int .i64 dyh,.int .i64 dzl,.int .i64 dzh,.slice A na c,.int .i64 dl,.int .i64 dh]),(B1,46,#[.int .i64 time,.int .i64 step,.int .i64 tl,.int .i64 th,.int .i64 fl,.int .i64 fh,.int .i64 dxl,.int .i64 dxh,.int .i64 dyl,.int .i64 dyh,.int .i64 dzl,.int .i64 dzh,.slice A na c,.int .i64 dl,.int .i64 dh]),(B2,4,#[.bool false])] ++ lstE 58 u cur) W)):=Lib.hid fun pre W=>by rw [← hIB]
 have HOI:Hid (OwnFrom w5.heap.size IB):=Lib.hid (by
  rw [← hIB]
  rintro pre A B row ⟨h1,u,cur,h2,h3⟩ hgr hr
  exact ⟨h1,u,cur,h2,h3.turned hws hgr hr⟩)
 obtain ⟨Ix,hIx⟩:∃ Ix:Code→List (Fin n)→World→Prop,(fun cd pre W=>cd=.ret∧(S pre).2 ≠ 0∧Fr w [] [(qb+1+1+1+1,38,stA noSt),(qb+1+1+1+1+1,40,#[.slice none 0 0]),(qb+1+1+1+1+1+1,41,#[.int .i64 (S pre).2])] W)=Ix:=⟨_,rfl⟩
 have HIX:Hid (∀ cd pre W,Ix cd pre W ↔ (cd=.ret∧(S pre).2 ≠ 0∧Fr w [] [(qb+1+1+1+1,38,stA noSt),(qb+1+1+1+1+1,40,#[.slice none 0 0]),(qb+1+1+1+1+1+1,41,#[.int .i64 (S pre).2])] W)):=Lib.hid fun cd pre W=>by rw [← hIx]
 have HOX:Hid (∀ cd,OwnFrom w5.heap.size (Ix cd)):=Lib.hid fun cd=>by
  rw [← hIx]
  rintro pre A B row ⟨h0,h1,h2⟩ hgr hr
  exact ⟨h0,h1,h2.turned hws hgr hr⟩
 have H0I:Hid (IB [] w5):=Lib.hid ((HI.out _ _).2 (by
  rw [hS]
  dsimp only [List.length_nil]
  rw [HR0.out]
  exact ⟨rfl,_,_,LstAt.nil 16,HF6.out⟩))
 generalize hg18:Value.agg #[.int .i64 mul,.int .i64 muh,.int .i64 rl,.int .i64 rh,.int .i64 ol,.int .i64 oh,.int .i64 sl,.int .i64 sh,.int .i64 pxl,.int .i64 pxh,.int .i64 pyl,.int .i64 pyh,.int .i64 pzl,.int .i64 pzh]=V18
 generalize hg19:Value.agg #[.int .i64 time,.int .i64 step,.int .i64 tl,.int .i64 th,.int .i64 fl,.int .i64 fh,.int .i64 dxl,.int .i64 dxh,.int .i64 dyl,.int .i64 dyh,.int .i64 dzl,.int .i64 dzh,.slice A na c,.int .i64 dl,.int .i64 dh]=V19
 generalize hg20:Value.agg #[.int .i64 mul,.int .i64 muh,.int .i64 rl,.int .i64 rh,.int .i64 ol,.int .i64 oh,.int .i64 sl,.int .i64 sh,.int .i64 pxl,.int .i64 pxh,.int .i64 pyl,.int .i64 pyh,.int .i64 pzl,.int .i64 pzh,.int .i64 time,.int .i64 step,.int .i64 tl,.int .i64 th,.int .i64 fl,.int .i64 fh,.int .i64 dxl,.int .i64 dxh,.int .i64 dyl,.int .i64 dyh,.int .i64 dzl,.int .i64 dzh,.slice A na c,.int .i64 dl,.int .i64 dh]=V20
 generalize hg2:Value.agg (stA s)=V2
 clear hg18 hg19 hg20 hg2
 obtain ⟨Ax,hAx⟩:∃ Ax:Fin n→Act→World→Prop,(fun _ a' _=>a'=⟨#[V18,V19,V2,.bool false,.slice none 0 0,.pointer (some ⟨qb,0,none⟩),.pointer (some ⟨qb+1,0,none⟩),.pointer (some ⟨qb+1+1,0,none⟩),undef,.pointer (some ⟨qb+1+1+1,0,none⟩),.pointer (some ⟨qb+1+1+1+1,0,none⟩),.pointer (some ⟨qb+1+1+1+1+1,0,none⟩),.pointer (some ⟨qb+1+1+1+1+1+1,0,none⟩),.pointer (some ⟨g1,0,none⟩),.int .i64 step,undef,undef,undef,V18,V19,V20,V19,.bool false,.func (.func 126) #[] #[.pointer (some ⟨B1,0,none⟩),.pointer (some ⟨B2,0,none⟩)],.int .i64 step,undef,undef,undef,undef,undef,undef,undef,undef,undef,undef,undef,undef,undef,undef,undef,undef,undef,undef,undef],[]⟩)=Ax:=⟨_,rfl⟩
 have HAX:Hid (∀ x a' W,Ax x a' W ↔ a'=⟨#[V18,V19,V2,.bool false,.slice none 0 0,.pointer (some ⟨qb,0,none⟩),.pointer (some ⟨qb+1,0,none⟩),.pointer (some ⟨qb+1+1,0,none⟩),undef,.pointer (some ⟨qb+1+1+1,0,none⟩),.pointer (some ⟨qb+1+1+1+1,0,none⟩),.pointer (some ⟨qb+1+1+1+1+1,0,none⟩),.pointer (some ⟨qb+1+1+1+1+1+1,0,none⟩),.pointer (some ⟨g1,0,none⟩),.int .i64 step,undef,undef,undef,V18,V19,V20,V19,.bool false,.func (.func 126) #[] #[.pointer (some ⟨B1,0,none⟩),.pointer (some ⟨B2,0,none⟩)],.int .i64 step,undef,undef,undef,undef,undef,undef,undef,undef,undef,undef,undef,undef,undef,undef,undef,undef,undef,undef,undef],[]⟩):=Lib.hid fun x a' W=>by rw [← hAx]
 have HOA:Hid (∀ x a',OwnFrom w5.heap.size (fun (_:Unit) W=>Ax x a' W)):=Lib.hid fun x a'=>by
  rw [← hAx]
  rintro _ A B row h hgr hr
  exact h
 clear hIB hIx hAx hS
 go_wp2_with fail
 refine (wpIn_wide (n:=6)).1 ?_
 refine wpIn_rangeFunc_ownH (n:=6) rfl (by decide) (gf:=126) rfl trivial (enters_of Tryz.func126 (by kernel_rfl) rfl) HSTOP.out KeepL.trans (keepL_b HKB.out) (Below.refl _ _) (fun _=>rfl)
  IB Ix HOI.out HOX.out H0I.out Ax HOA.out ?assign ?body ?done ?stop
 case assign =>
  intro l pre x W K hIW hK
  have HFW:Hid (Fr W [] [] W):=Lib.hid (Fr.start W)
  have HIW:=Lib.hid hIW
  have HK:=Lib.hid hK
  clear hIW hK
  gi_wp2_with fail
  exact HK.out _ _ ((HFW.out.keepsOthers (by simp)).from _) (KeepL.refl _ _) HIW.out ((HAX.out _ _ _).2 rfl)
 case body =>
  intro l pre x a' W hDl hrec hIW hAx hpl
  obtain rfl:=(HAX.out _ _ _).1 hAx
  obtain ⟨h1,u,cur,hl,h2⟩:=(HI.out _ _).1 hIW
  obtain ⟨PB,hPB⟩:∃ Q,ownPostG w5.heap.size (KeepL [B1,B2]) IB Ix (pre ++ [x]) W=Q:=⟨_,rfl⟩
  have hsp:S pre=RK pre.length:=by rw [HS.out]
  have hstep:S (pre ++ [x])=RK (pre.length+1):=by rw [HS.out];simp
  rw [hsp] at h1 hl h2
  have hwd:=HSW.out _ h1
  have hss:=HSS.out _ h1
  have hln:=HSL.out _ h1
  obtain ⟨⟨⟨sd,tbl⟩,e0⟩,hrk⟩:∃ z,RK pre.length=z:=⟨_,rfl⟩
  rw [hrk] at h1 hl h2 hwd hss hln
  dsimp only at h1 hl h2 hwd hss hln
  have HGW:=fun w'=>HGG.out sd w' hwd
  obtain ⟨⟨⟨s2,t2⟩,e2⟩,hg⟩:∃ z,G sd=z:=⟨_,rfl⟩
  rw [hg] at HGW hss
  dsimp only at HGW hss
  replace HGW:=Lib.hid HGW
  have hsub:List.Sublist (α:=Ent) (([(qb+1+1,38,stA sd),(qb+1+1+1,40,#[u]),(qb+1+1+1+1,38,iC [0,0,0,0,0,0,0,0,0,0,0,0,0,0,0]),(qb+1+1+1+1+1,40,#[.slice none 0 0]),(qb+1+1+1+1+1+1,41,iC [0])]:List Ent) ++ lstE 58 u cur) ((([(qb,36,iC [mul,muh,rl,rh,ol,oh,sl,sh,pxl,pxh,pyl,pyh,pzl,pzh]),(qb+1,46,#[.int .i64 time,.int .i64 step,.int .i64 tl,.int .i64 th,.int .i64 fl,.int .i64 fh,.int .i64 dxl,.int .i64 dxh,.int .i64 dyl,.int .i64 dyh,.int .i64 dzl,.int .i64 dzh,.slice A na c,.int .i64 dl,.int .i64 dh]),(qb+1+1,38,stA sd),(qb+1+1+1,40,#[u]),(qb+1+1+1+1,38,iC [0,0,0,0,0,0,0,0,0,0,0,0,0,0,0]),(qb+1+1+1+1+1,40,#[.slice none 0 0]),(qb+1+1+1+1+1+1,41,iC [0]),(g1,160,#[.int .i64 mul,.int .i64 muh,.int .i64 rl,.int .i64 rh,.int .i64 ol,.int .i64 oh,.int .i64 sl,.int .i64 sh,.int .i64 pxl,.int .i64 pxh,.int .i64 pyl,.int .i64 pyh,.int .i64 pzl,.int .i64 pzh,.int .i64 time,.int .i64 step,.int .i64 tl,.int .i64 th,.int .i64 fl,.int .i64 fh,.int .i64 dxl,.int .i64 dxh,.int .i64 dyl,.int .i64 dyh,.int .i64 dzl,.int .i64 dzh,.slice A na c,.int .i64 dl,.int .i64 dh]),(B1,46,#[.int .i64 time,.int .i64 step,.int .i64 tl,.int .i64 th,.int .i64 fl,.int .i64 fh,.int .i64 dxl,.int .i64 dxh,.int .i64 dyl,.int .i64 dyh,.int .i64 dzl,.int .i64 dzh,.slice A na c,.int .i64 dl,.int .i64 dh]),(B2,4,#[.bool false])]:List Ent) ++ lstE 58 u cur)):=.cons _ (.cons _ (.cons_cons _ (.cons_cons _ (.cons_cons _ (.cons_cons _ (.cons_cons _ (.cons _ (.cons _ (.cons _ (List.Sublist.refl _))))))))))
  have hsubB1:List.Sublist (α:=Ent) (([(qb+1+1,38,stA sd),(qb+1+1+1,40,#[u]),(qb+1+1+1+1,38,iC [0,0,0,0,0,0,0,0,0,0,0,0,0,0,0]),(qb+1+1+1+1+1,40,#[.slice none 0 0]),(qb+1+1+1+1+1+1,41,iC [0])]:List Ent) ++ (((B1,46,#[.int .i64 time,.int .i64 step,.int .i64 tl,.int .i64 th,.int .i64 fl,.int .i64 fh,.int .i64 dxl,.int .i64 dxh,.int .i64 dyl,.int .i64 dyh,.int .i64 dzl,.int .i64 dzh,.slice A na c,.int .i64 dl,.int .i64 dh]):Ent) :: lstE 58 u cur)) ((([(qb,36,iC [mul,muh,rl,rh,ol,oh,sl,sh,pxl,pxh,pyl,pyh,pzl,pzh]),(qb+1,46,#[.int .i64 time,.int .i64 step,.int .i64 tl,.int .i64 th,.int .i64 fl,.int .i64 fh,.int .i64 dxl,.int .i64 dxh,.int .i64 dyl,.int .i64 dyh,.int .i64 dzl,.int .i64 dzh,.slice A na c,.int .i64 dl,.int .i64 dh]),(qb+1+1,38,stA sd),(qb+1+1+1,40,#[u]),(qb+1+1+1+1,38,iC [0,0,0,0,0,0,0,0,0,0,0,0,0,0,0]),(qb+1+1+1+1+1,40,#[.slice none 0 0]),(qb+1+1+1+1+1+1,41,iC [0]),(g1,160,#[.int .i64 mul,.int .i64 muh,.int .i64 rl,.int .i64 rh,.int .i64 ol,.int .i64 oh,.int .i64 sl,.int .i64 sh,.int .i64 pxl,.int .i64 pxh,.int .i64 pyl,.int .i64 pyh,.int .i64 pzl,.int .i64 pzh,.int .i64 time,.int .i64 step,.int .i64 tl,.int .i64 th,.int .i64 fl,.int .i64 fh,.int .i64 dxl,.int .i64 dxh,.int .i64 dyl,.int .i64 dyh,.int .i64 dzl,.int .i64 dzh,.slice A na c,.int .i64 dl,.int .i64 dh]),(B1,46,#[.int .i64 time,.int .i64 step,.int .i64 tl,.int .i64 th,.int .i64 fl,.int .i64 fh,.int .i64 dxl,.int .i64 dxh,.int .i64 dyl,.int .i64 dyh,.int .i64 dzl,.int .i64 dzh,.slice A na c,.int .i64 dl,.int .i64 dh]),(B2,4,#[.bool false])]:List Ent) ++ lstE 58 u cur)):=.cons _ (.cons _ (.cons_cons _ (.cons_cons _ (.cons_cons _ (.cons_cons _ (.cons_cons _ (.cons _ (.cons_cons _ (.cons _ (List.Sublist.refl _))))))))))
  have hsubB2:List.Sublist (α:=Ent) (([(qb+1+1,38,stA sd),(qb+1+1+1,40,#[u]),(qb+1+1+1+1,38,iC [0,0,0,0,0,0,0,0,0,0,0,0,0,0,0]),(qb+1+1+1+1+1,40,#[.slice none 0 0]),(qb+1+1+1+1+1+1,41,iC [0])]:List Ent) ++ (((B2,4,#[.bool false]):Ent) :: lstE 58 u cur)) ((([(qb,36,iC [mul,muh,rl,rh,ol,oh,sl,sh,pxl,pxh,pyl,pyh,pzl,pzh]),(qb+1,46,#[.int .i64 time,.int .i64 step,.int .i64 tl,.int .i64 th,.int .i64 fl,.int .i64 fh,.int .i64 dxl,.int .i64 dxh,.int .i64 dyl,.int .i64 dyh,.int .i64 dzl,.int .i64 dzh,.slice A na c,.int .i64 dl,.int .i64 dh]),(qb+1+1,38,stA sd),(qb+1+1+1,40,#[u]),(qb+1+1+1+1,38,iC [0,0,0,0,0,0,0,0,0,0,0,0,0,0,0]),(qb+1+1+1+1+1,40,#[.slice none 0 0]),(qb+1+1+1+1+1+1,41,iC [0]),(g1,160,#[.int .i64 mul,.int .i64 muh,.int .i64 rl,.int .i64 rh,.int .i64 ol,.int .i64 oh,.int .i64 sl,.int .i64 sh,.int .i64 pxl,.int .i64 pxh,.int .i64 pyl,.int .i64 pyh,.int .i64 pzl,.int .i64 pzh,.int .i64 time,.int .i64 step,.int .i64 tl,.int .i64 th,.int .i64 fl,.int .i64 fh,.int .i64 dxl,.int .i64 dxh,.int .i64 dyl,.int .i64 dyh,.int .i64 dzl,.int .i64 dzh,.slice A na c,.int .i64 dl,.int .i64 dh]),(B1,46,#[.int .i64 time,.int .i64 step,.int .i64 tl,.int .i64 th,.int .i64 fl,.int .i64 fh,.int .i64 dxl,.int .i64 dxh,.int .i64 dyl,.int .i64 dyh,.int .i64 dzl,.int .i64 dzh,.slice A na c,.int .i64 dl,.int .i64 dh]),(B2,4,#[.bool false])]:List Ent) ++ lstE 58 u cur)):=.cons _ (.cons _ (.cons_cons _ (.cons_cons _ (.cons_cons _ (.cons_cons _ (.cons_cons _ (.cons _ (.cons _ (.cons_cons _ (List.Sublist.refl _))))))))))
  have hB:∀ b,b ∈ [B1,B2]→b ∉ (([(qb+1+1,38,stA sd),(qb+1+1+1,40,#[u]),(qb+1+1+1+1,38,iC [0,0,0,0,0,0,0,0,0,0,0,0,0,0,0]),(qb+1+1+1+1+1,40,#[.slice none 0 0]),(qb+1+1+1+1+1+1,41,iC [0])]:List Ent) ++ lstE 58 u cur).map (·.1):=fun b hb=>by
   simp only [List.mem_cons,List.not_mem_nil,or_false] at hb
   rcases hb with rfl | rfl
   ·have hn2:=h2.ndN.sublist (hsubB1.map _)
    rw [(List.perm_middle.map _).nodup_iff,List.map_cons] at hn2
    exact (List.nodup_cons.1 hn2).1
   ·have hn2:=h2.ndN.sublist (hsubB2.map _)
    rw [(List.perm_middle.map _).nodup_iff,List.map_cons] at hn2
    exact (List.nodup_cons.1 hn2).1
  have hBW:∀ b,b ∈ [B1,B2]→b<W.heap.size:=fun b hb=>by
   simp only [List.mem_cons,List.not_mem_nil,or_false] at hb
   rcases hb with rfl | rfl
   ·exact (h2.get 8 rfl).lt
   ·exact (h2.get 9 rfl).lt
  have hall:∀ O':List Ent,O'.map (·.1)=(([(qb+1+1,38,stA sd),(qb+1+1+1,40,#[u]),(qb+1+1+1+1,38,iC [0,0,0,0,0,0,0,0,0,0,0,0,0,0,0]),(qb+1+1+1+1+1,40,#[.slice none 0 0]),(qb+1+1+1+1+1+1,41,iC [0])]:List Ent) ++ lstE 58 u cur).map (·.1)→∀ y ∈ O',∃ t cs,Bk W y.1 t cs:=fun O' ho y hy=>by
   have hm:y.1 ∈ (([(qb+1+1,38,stA sd),(qb+1+1+1,40,#[u]),(qb+1+1+1+1,38,iC [0,0,0,0,0,0,0,0,0,0,0,0,0,0,0]),(qb+1+1+1+1+1,40,#[.slice none 0 0]),(qb+1+1+1+1+1+1,41,iC [0])]:List Ent) ++ lstE 58 u cur).map (·.1):=by rw [← ho];exact List.mem_map.2 ⟨y,hy,rfl⟩
   obtain ⟨z,hz,hzy⟩:=List.mem_map.1 hm
   exact ⟨z.2.1,z.2.2,by rw [← hzy];exact (h2.new z (hsub.subset hz)).2⟩
  have hgt:∀ g:Nat,W.heap.size≤g→g ∉ (([(qb,36,iC [mul,muh,rl,rh,ol,oh,sl,sh,pxl,pxh,pyl,pyh,pzl,pzh]),(qb+1,46,#[.int .i64 time,.int .i64 step,.int .i64 tl,.int .i64 th,.int .i64 fl,.int .i64 fh,.int .i64 dxl,.int .i64 dxh,.int .i64 dyl,.int .i64 dyh,.int .i64 dzl,.int .i64 dzh,.slice A na c,.int .i64 dl,.int .i64 dh]),(qb+1+1,38,stA sd),(qb+1+1+1,40,#[u]),(qb+1+1+1+1,38,iC [0,0,0,0,0,0,0,0,0,0,0,0,0,0,0]),(qb+1+1+1+1+1,40,#[.slice none 0 0]),(qb+1+1+1+1+1+1,41,iC [0]),(g1,160,#[.int .i64 mul,.int .i64 muh,.int .i64 rl,.int .i64 rh,.int .i64 ol,.int .i64 oh,.int .i64 sl,.int .i64 sh,.int .i64 pxl,.int .i64 pxh,.int .i64 pyl,.int .i64 pyh,.int .i64 pzl,.int .i64 pzh,.int .i64 time,.int .i64 step,.int .i64 tl,.int .i64 th,.int .i64 fl,.int .i64 fh,.int .i64 dxl,.int .i64 dxh,.int .i64 dyl,.int .i64 dyh,.int .i64 dzl,.int .i64 dzh,.slice A na c,.int .i64 dl,.int .i64 dh]),(B1,46,#[.int .i64 time,.int .i64 step,.int .i64 tl,.int .i64 th,.int .i64 fl,.int .i64 fh,.int .i64 dxl,.int .i64 dxh,.int .i64 dyl,.int .i64 dyh,.int .i64 dzl,.int .i64 dzh,.slice A na c,.int .i64 dl,.int .i64 dh]),(B2,4,#[.bool false])]:List Ent)).map (·.1):=fun g hg hm=>by
   obtain ⟨x,hx,hxg⟩:=List.mem_map.1 hm
   have:=(h2.new x (List.mem_append_left _ hx)).2.lt
   have hxg':x.1=g:=hxg
   omega
  have HEN:Hid (∀ a W' u' O2 N2,e2=0→LG 58 16 u u' cur (tbl.length+1) (tbsC tbl ++ (tbA t2).toList) O2 N2→Fr W (([(qb+1+1,38,stA s2),(qb+1+1+1,40,#[u']),(qb+1+1+1+1,38,iC [0,0,0,0,0,0,0,0,0,0,0,0,0,0,0]),(qb+1+1+1+1+1,40,#[.slice none 0 0]),(qb+1+1+1+1+1+1,41,iC [0])]:List Ent) ++ O2) N2 W'→PB .normal a W'):=Lib.hid fun a W' u' O2 N2 he hg2 hf=>by
   rw [← hPB]
   rw [if_pos he] at hss
   obtain ⟨g,m,c2,cur',hu',hl',hc⟩:=hg2
   have hkeq:(([(qb+1+1,38,stA s2),(qb+1+1+1,40,#[u']),(qb+1+1+1+1,38,iC [0,0,0,0,0,0,0,0,0,0,0,0,0,0,0]),(qb+1+1+1+1+1,40,#[.slice none 0 0]),(qb+1+1+1+1+1+1,41,iC [0])]:List Ent) ++ O2).map (·.1)=(([(qb+1+1,38,stA sd),(qb+1+1+1,40,#[u]),(qb+1+1+1+1,38,iC [0,0,0,0,0,0,0,0,0,0,0,0,0,0,0]),(qb+1+1+1+1+1,40,#[.slice none 0 0]),(qb+1+1+1+1+1+1,41,iC [0])]:List Ent) ++ lstE 58 u cur).map (·.1):=by
    rcases hc with ⟨m2,c3,hu,hO,_⟩ | ⟨hO,_⟩
    ·rw [hO,hu];rfl
    ·rw [hO];rfl
   refine ⟨(hf.keepsOthers (hall _ hkeq)).from _,hf.keepL fun b hb=>⟨hBW b hb,by rw [hkeq];exact hB b hb⟩,(HI.out _ _).2 ?_⟩
   rw [hstep,hss]
   refine ⟨rfl,u',cur',?_,?_⟩
   ·have e1:(tbl ++ [t2]).length=tbl.length+1:=by simp
    have e3:tbsC (tbl ++ [t2])=tbsC tbl ++ (tbA t2).toList:=by unfold tbsC;simp
    show LstAt 16 u' cur' (tbl ++ [t2]).length (tbsC (tbl ++ [t2]))
    rw [e1,e3];exact hl'
   ·rcases hc with ⟨m2,c3,hu,rfl,rfl⟩ | ⟨rfl,rfl⟩
    ·subst hu hu'
     exact h2.turns [false,false,true,true,true,true,true,false,false,false,true] hf ⟨rfl,rfl,rfl,rfl,rfl,rfl,trivial⟩
    ·have e9:lstE 58 u' cur'=[(g,58,cur')]:=by rw [hu'];rfl
     show Fr w [] (([(qb,36,iC [mul,muh,rl,rh,ol,oh,sl,sh,pxl,pxh,pyl,pyh,pzl,pzh]),(qb+1,46,#[.int .i64 time,.int .i64 step,.int .i64 tl,.int .i64 th,.int .i64 fl,.int .i64 fh,.int .i64 dxl,.int .i64 dxh,.int .i64 dyl,.int .i64 dyh,.int .i64 dzl,.int .i64 dzh,.slice A na c,.int .i64 dl,.int .i64 dh]),(qb+1+1,38,stA s2),(qb+1+1+1,40,#[u']),(qb+1+1+1+1,38,iC [0,0,0,0,0,0,0,0,0,0,0,0,0,0,0]),(qb+1+1+1+1+1,40,#[.slice none 0 0]),(qb+1+1+1+1+1+1,41,iC [0]),(g1,160,#[.int .i64 mul,.int .i64 muh,.int .i64 rl,.int .i64 rh,.int .i64 ol,.int .i64 oh,.int .i64 sl,.int .i64 sh,.int .i64 pxl,.int .i64 pxh,.int .i64 pyl,.int .i64 pyh,.int .i64 pzl,.int .i64 pzh,.int .i64 time,.int .i64 step,.int .i64 tl,.int .i64 th,.int .i64 fl,.int .i64 fh,.int .i64 dxl,.int .i64 dxh,.int .i64 dyl,.int .i64 dyh,.int .i64 dzl,.int .i64 dzh,.slice A na c,.int .i64 dl,.int .i64 dh]),(B1,46,#[.int .i64 time,.int .i64 step,.int .i64 tl,.int .i64 th,.int .i64 fl,.int .i64 fh,.int .i64 dxl,.int .i64 dxh,.int .i64 dyl,.int .i64 dyh,.int .i64 dzl,.int .i64 dzh,.slice A na c,.int .i64 dl,.int .i64 dh]),(B2,4,#[.bool false])]:List Ent) ++ lstE 58 u' cur') W'
     rw [e9]
     have hgn:=hf.new (g,58,cur') (by simp)
     have hgW:W.heap.size≤g:=hgn.1
     have hgw:w.heap.size≤g:=Nat.le_trans h2.size hgW
     rcases hl.2 with ⟨rfl,_⟩ | ⟨g0,cap,rfl,_⟩
     ·have h5:Fr w [] (([(qb,36,iC [mul,muh,rl,rh,ol,oh,sl,sh,pxl,pxh,pyl,pyh,pzl,pzh]),(qb+1,46,#[.int .i64 time,.int .i64 step,.int .i64 tl,.int .i64 th,.int .i64 fl,.int .i64 fh,.int .i64 dxl,.int .i64 dxh,.int .i64 dyl,.int .i64 dyh,.int .i64 dzl,.int .i64 dzh,.slice A na c,.int .i64 dl,.int .i64 dh]),(qb+1+1,38,stA s2),(qb+1+1+1,40,#[u']),(qb+1+1+1+1,38,iC [0,0,0,0,0,0,0,0,0,0,0,0,0,0,0]),(qb+1+1+1+1+1,40,#[.slice none 0 0]),(qb+1+1+1+1+1+1,41,iC [0]),(g1,160,#[.int .i64 mul,.int .i64 muh,.int .i64 rl,.int .i64 rh,.int .i64 ol,.int .i64 oh,.int .i64 sl,.int .i64 sh,.int .i64 pxl,.int .i64 pxh,.int .i64 pyl,.int .i64 pyh,.int .i64 pzl,.int .i64 pzh,.int .i64 time,.int .i64 step,.int .i64 tl,.int .i64 th,.int .i64 fl,.int .i64 fh,.int .i64 dxl,.int .i64 dxh,.int .i64 dyl,.int .i64 dyh,.int .i64 dzl,.int .i64 dzh,.slice A na c,.int .i64 dl,.int .i64 dh]),(B1,46,#[.int .i64 time,.int .i64 step,.int .i64 tl,.int .i64 th,.int .i64 fl,.int .i64 fh,.int .i64 dxl,.int .i64 dxh,.int .i64 dyl,.int .i64 dyh,.int .i64 dzl,.int .i64 dzh,.slice A na c,.int .i64 dl,.int .i64 dh]),(B2,4,#[.bool false])]:List Ent)) W':=h2.turns [false,false,true,true,true,true,true,false,false,false] hf ⟨rfl,rfl,rfl,rfl,rfl,trivial⟩
      exact h5.addN hgn.2 hgw (hgt g hgW)
     ·have h5:Fr w [] (([(qb,36,iC [mul,muh,rl,rh,ol,oh,sl,sh,pxl,pxh,pyl,pyh,pzl,pzh]),(qb+1,46,#[.int .i64 time,.int .i64 step,.int .i64 tl,.int .i64 th,.int .i64 fl,.int .i64 fh,.int .i64 dxl,.int .i64 dxh,.int .i64 dyl,.int .i64 dyh,.int .i64 dzl,.int .i64 dzh,.slice A na c,.int .i64 dl,.int .i64 dh]),(qb+1+1,38,stA s2),(qb+1+1+1,40,#[u']),(qb+1+1+1+1,38,iC [0,0,0,0,0,0,0,0,0,0,0,0,0,0,0]),(qb+1+1+1+1+1,40,#[.slice none 0 0]),(qb+1+1+1+1+1+1,41,iC [0]),(g1,160,#[.int .i64 mul,.int .i64 muh,.int .i64 rl,.int .i64 rh,.int .i64 ol,.int .i64 oh,.int .i64 sl,.int .i64 sh,.int .i64 pxl,.int .i64 pxh,.int .i64 pyl,.int .i64 pyh,.int .i64 pzl,.int .i64 pzh,.int .i64 time,.int .i64 step,.int .i64 tl,.int .i64 th,.int .i64 fl,.int .i64 fh,.int .i64 dxl,.int .i64 dxh,.int .i64 dyl,.int .i64 dyh,.int .i64 dzl,.int .i64 dzh,.slice A na c,.int .i64 dl,.int .i64 dh]),(B1,46,#[.int .i64 time,.int .i64 step,.int .i64 tl,.int .i64 th,.int .i64 fl,.int .i64 fh,.int .i64 dxl,.int .i64 dxh,.int .i64 dyl,.int .i64 dyh,.int .i64 dzl,.int .i64 dzh,.slice A na c,.int .i64 dl,.int .i64 dh]),(B2,4,#[.bool false])]:List Ent) ++ [(g0,58,cur)]) W':=h2.turns [false,false,true,true,true,true,true,false,false,false,true] hf ⟨rfl,rfl,rfl,rfl,rfl,rfl,trivial⟩
      exact h5.left.addN hgn.2 hgw (hgt g hgW)
  have HER:Hid (∀ a W',e2 ≠ 0→Fr W (([(qb+1+1,38,stA sd),(qb+1+1+1,40,#[u]),(qb+1+1+1+1,38,stA noSt),(qb+1+1+1+1+1,40,#[.slice none 0 0]),(qb+1+1+1+1+1+1,41,iC [e2])]:List Ent) ++ lstE 58 u cur) [] W'→PB .ret a W'):=Lib.hid fun a W' he hf=>by
   rw [← hPB]
   rw [if_neg he] at hss
   refine ⟨(hf.keepsOthers (hall _ rfl)).from _,(HIX.out _ _ _).2 ⟨rfl,by rw [hstep,hss];exact he,?_⟩⟩
   rw [hstep,hss]
   rcases hl.2 with ⟨rfl,_⟩ | ⟨g0,cap,rfl,_⟩
   ·exact (h2.turns [false,false,true,true,true,true,true,false,false,false] hf ⟨rfl,rfl,rfl,rfl,rfl,trivial⟩).sub (.cons _ (.cons _ (.cons _ (.cons _ (.cons_cons _ (.cons_cons _ (.cons_cons _ (.cons _ (.cons _ (.cons _ (List.Sublist.refl _)))))))))))
   ·exact (h2.turns [false,false,true,true,true,true,true,false,false,false,true] hf ⟨rfl,rfl,rfl,rfl,rfl,rfl,trivial⟩).sub (.cons _ (.cons _ (.cons _ (.cons _ (.cons_cons _ (.cons_cons _ (.cons_cons _ (.cons _ (.cons _ (.cons _ (.cons _ (List.Sublist.refl _))))))))))))
  have hsv:stateV sd=.agg (stA sd):=rfl
  have HNT:Hid (tbl.length≤65536):=Lib.hid (by omega)
  have HLS:=Lib.hid hl
  have HFB0:=Lib.hid (Fr.startL (O:=([(qb+1+1,38,stA sd),(qb+1+1+1,40,#[u]),(qb+1+1+1+1,38,iC [0,0,0,0,0,0,0,0,0,0,0,0,0,0,0]),(qb+1+1+1+1+1,40,#[.slice none 0 0]),(qb+1+1+1+1+1+1,41,iC [0])]:List Ent) ++ lstE 58 u cur) (fun y hy=>(h2.new y (hsub.subset hy)).2) (h2.ndN.sublist (hsub.map _)))
  have HGM:=Lib.hid (h2.get 7 rfl)
  rw [hPB]
  obtain ⟨qt,⟨⟨qpxl,qpxh⟩,⟨qpyl,qpyh⟩,⟨qpzl,qpzh⟩⟩,⟨⟨qvxl,qvxh⟩,⟨qvyl,qvyh⟩,⟨qvzl,qvzh⟩⟩,⟨qml,qmh⟩⟩:=sd
  obtain ⟨rt,⟨⟨rpxl,rpxh⟩,⟨rpyl,rpyh⟩,⟨rpzl,rpzh⟩⟩,⟨⟨rvxl,rvxh⟩,⟨rvyl,rvyh⟩,⟨rvzl,rvzh⟩⟩,⟨rml,rmh⟩⟩:=s2
  obtain ⟨yf,yg,⟨⟨ypxl,ypxh⟩,⟨ypyl,ypyh⟩,⟨ypzl,ypzh⟩⟩,⟨⟨yvxl,yvxh⟩,⟨yvyl,yvyh⟩,⟨yvzl,yvzh⟩⟩,⟨yml,ymh⟩⟩:=t2
  unfold stateV tubeV at HGW
  dsimp only at HGW
  replace HGW:=Lib.hid HGW.out
  have HFB:Hid (Fr W (([(qb+1+1,38,iC [qt,qpxl,qpxh,qpyl,qpyh,qpzl,qpzh,qvxl,qvxh,qvyl,qvyh,qvzl,qvzh,qml,qmh]),(qb+1+1+1,40,#[u]),(qb+1+1+1+1,38,iC [0,0,0,0,0,0,0,0,0,0,0,0,0,0,0]),(qb+1+1+1+1+1,40,#[.slice none 0 0]),(qb+1+1+1+1+1+1,41,iC [0])]:List Ent) ++ lstE 58 u cur) [] W):=HFB0
  clear hgt hsv HFB0 hIW hAx hpl hPB hsp hstep h1 hl h2 hwd hss hln hrk hg hsub hsubB1 hsubB2 hB hBW hall hDl hrec
  gi_wp2_with (first
    | (refine wpLoadFI rfl 160 _ rfl g1 0 rfl _ _ HGM.out #[.int .i64 mul,.int .i64 muh,.int .i64 rl,.int .i64 rh,.int .i64 ol,.int .i64 oh,.int .i64 sl,.int .i64 sh,.int .i64 pxl,.int .i64 pxh,.int .i64 pyl,.int .i64 pyh,.int .i64 pzl,.int .i64 pzh,.int .i64 time,.int .i64 step,.int .i64 tl,.int .i64 th,.int .i64 fl,.int .i64 fh,.int .i64 dxl,.int .i64 dxh,.int .i64 dyl,.int .i64 dyh,.int .i64 dzl,.int .i64 dzh,.slice A na c,.int .i64 dl,.int .i64 dh] rfl _ und_160 rfl info_160 ?_)
    | (refine wpLoadFI rfl 38 _ rfl (qb+1+1) 0 rfl _ _ (HFB.out.getO 0 rfl) #[.int .i64 qt,.int .i64 qpxl,.int .i64 qpxh,.int .i64 qpyl,.int .i64 qpyh,.int .i64 qpzl,.int .i64 qpzh,.int .i64 qvxl,.int .i64 qvxh,.int .i64 qvyl,.int .i64 qvyh,.int .i64 qvzl,.int .i64 qvzh,.int .i64 qml,.int .i64 qmh] rfl _ und_38 rfl info_38 ?_))
  refine ⟨trivial,?_⟩
  refine (CallsIn.inRound l (callsIn_wide.2 (HGW.out _))).mono ?_
  rintro e w101 ⟨rfl,hw⟩
  have HF102:=Lib.hid (HFB.out.below hw)
  clear hw
  obtain ⟨g103,hg103⟩:∃ g,w101.heap.size=g:=⟨_,rfl⟩
  obtain ⟨w103,hw103⟩:∃ u,w101.alloc (.cells #[.int .i64 0,.int .i64 0,.int .i64 0,.int .i64 0,.int .i64 0,.int .i64 0,.int .i64 0,.int .i64 0,.int .i64 0,.int .i64 0,.int .i64 0,.int .i64 0,.int .i64 0,.int .i64 0,.int .i64 0] 38)=u:=⟨_,rfl⟩
  have HF104:=Lib.hid (frE hw103 (HF102.out.alloc hg103.symm 38 #[.int .i64 0,.int .i64 0,.int .i64 0,.int .i64 0,.int .i64 0,.int .i64 0,.int .i64 0,.int .i64 0,.int .i64 0,.int .i64 0,.int .i64 0,.int .i64 0,.int .i64 0,.int .i64 0,.int .i64 0]))
  obtain ⟨g105,hg105⟩:∃ g,w103.heap.size=g:=⟨_,rfl⟩
  obtain ⟨w105,hw105⟩:∃ u,w103.alloc (.cells #[.int .i64 0,.int .i64 0,.int .i64 0,.int .i64 0,.int .i64 0,.int .i64 0,.int .i64 0,.int .i64 0,.int .i64 0,.int .i64 0,.int .i64 0,.int .i64 0,.int .i64 0,.int .i64 0,.int .i64 0,.int .i64 0] 58)=u:=⟨_,rfl⟩
  have HF106:=Lib.hid (frE hw105 (HF104.out.alloc hg105.symm 58 #[.int .i64 0,.int .i64 0,.int .i64 0,.int .i64 0,.int .i64 0,.int .i64 0,.int .i64 0,.int .i64 0,.int .i64 0,.int .i64 0,.int .i64 0,.int .i64 0,.int .i64 0,.int .i64 0,.int .i64 0,.int .i64 0]))
  by_cases he:e2=0
  ·subst he
   gi_wp2_with (first
     | (refine wpStoreFI rfl rfl 38 _ _ rfl g103 0 rfl #[.int .i64 rt,.int .i64 rpxl,.int .i64 rpxh,.int .i64 rpyl,.int .i64 rpyh,.int .i64 rpzl,.int .i64 rpzh,.int .i64 rvxl,.int .i64 rvxh,.int .i64 rvyl,.int .i64 rvyh,.int .i64 rvzl,.int .i64 rvzh,.int .i64 rml,.int .i64 rmh] rfl _ _ (iC [rt,rpxl,rpxh,rpyl,rpyh,rpzl,rpzh,rvxl,rvxh,rvyl,rvyh,rvzl,rvzh,rml,rmh]) (HF106.out.get 0 rfl) rfl (by show 0+15≤15;omega) (one_all rfl) info_38 ?_;intro w107 hk ho;clear hw103 hg103 hw105 hg105;have HF108:=Lib.hid (HF106.out.only 0 rfl ho hk);clear ho hk)
     | (refine wpStoreFI rfl rfl 58 _ _ rfl g105 0 rfl #[.int .i64 yf,.int .i64 yg,.int .i64 ypxl,.int .i64 ypxh,.int .i64 ypyl,.int .i64 ypyh,.int .i64 ypzl,.int .i64 ypzh,.int .i64 yvxl,.int .i64 yvxh,.int .i64 yvyl,.int .i64 yvyh,.int .i64 yvzl,.int .i64 yvzh,.int .i64 yml,.int .i64 ymh] rfl _ _ (iC [yf,yg,ypxl,ypxh,ypyl,ypyh,ypzl,ypzh,yvxl,yvxh,yvyl,yvyh,yvzl,yvzh,yml,ymh]) (HF108.out.get 1 rfl) rfl (by show 0+16≤16;omega) (one_all rfl) info_58 ?_;intro w109 hk ho;have HF110:=Lib.hid (HF108.out.only 1 rfl ho hk);clear ho hk))
   refine wpIn_region_ft _ _ (by kernel_rfl) [.p,.p,.p,.a 0,.c 0,.c 1,.c 2] [4,5,6] [(3,58,fun _=>iC [yf,yg,ypxl,ypxh,ypyl,ypyh,ypzl,ypzh,yvxl,yvxh,yvyl,yvyh,yvzl,yvzh,yml,ymh])] W
    (fun k vs O N=>∃ O2 N2,O=[(qb+1+1,38,if k≤1 then iC [qt,qpxl,qpxh,qpyl,qpyh,qpzl,qpzh,qvxl,qvxh,qvyl,qvyh,qvzl,qvzh,qml,qmh] else iC [rt,rpxl,rpxh,rpyl,rpyh,rpzl,rpzh,rvxl,rvxh,rvyl,rvyh,rvzl,rvzh,rml,rmh]),(qb+1+1+1,40,if k≤2 then #[u] else #[vs 4]),(qb+1+1+1+1,38,iC [0,0,0,0,0,0,0,0,0,0,0,0,0,0,0]),(qb+1+1+1+1+1,40,#[.slice none 0 0]),(qb+1+1+1+1+1+1,41,iC [0])] ++ O2∧N=[(g103,38,iC [rt,rpxl,rpxh,rpyl,rpyh,rpzl,rpzh,rvxl,rvxh,rvyl,rvyh,rvzl,rvzh,rml,rmh]),(g105,58,iC [yf,yg,ypxl,ypxh,ypyl,ypyh,ypzl,ypzh,yvxl,yvxh,yvyl,yvyh,yvzl,yvzh,yml,ymh])] ++ N2∧(k=0→O2=lstE 58 u cur∧N2=[])∧(0<k→LG 58 16 u (vs 4) cur (tbl.length+1) (tbsC tbl ++ (iC [yf,yg,ypxl,ypxh,ypyl,ypyh,ypzl,ypzh,yvxl,yvxh,yvyl,yvyh,yvzl,yvzh,yml,ymh]).toList) O2 N2))
    (fun ix v d=>match ix with
     | 0=>v=.agg #[.int .i64 rt,.int .i64 rpxl,.int .i64 rpxh,.int .i64 rpyl,.int .i64 rpyh,.int .i64 rpzl,.int .i64 rpzh,.int .i64 rvxl,.int .i64 rvxh,.int .i64 rvyl,.int .i64 rvyh,.int .i64 rvzl,.int .i64 rvzh,.int .i64 rml,.int .i64 rmh]
     | 1=>v=u
     | 2=>v=.agg #[.int .i64 yf,.int .i64 yg,.int .i64 ypxl,.int .i64 ypxh,.int .i64 ypyl,.int .i64 ypyh,.int .i64 ypzl,.int .i64 ypzh,.int .i64 yvxl,.int .i64 yvxh,.int .i64 yvyl,.int .i64 yvyh,.int .i64 yvzl,.int .i64 yvzh,.int .i64 yml,.int .i64 ymh]
     | 3=>v=.slice (some ⟨gOf v,0,none⟩) 1 1
     | _=>True)
    (by kernel_rfl) (by kernel_rfl) (by kernel_rfl) [3] rfl (by decide) (by kernel_rfl) (by kernel_rfl) ?_ HF110.out ?_ ?_ ?_
   ·rintro k vs vs' O N hv ⟨O2,N2,h1,h2,h3,h4⟩
    have e4:=hv 4 (by simp)
    refine ⟨O2,N2,?_,h2,h3,?_⟩
    ·rw [e4];exact h1
    ·rw [e4];exact h4
   ·intro vs
    exact ⟨lstE 58 u cur,[],rfl,by rw [List.append_nil];try rfl,fun _=>⟨rfl,rfl⟩,fun h=>absurd h (by decide)⟩
   ·refine ⟨?_,?_,?_,?_,?_,?_,?_,trivial⟩
    ·intro a w1 vs dn k O N K S hpre KE DE kk
     obtain ⟨O2,N2,rfl,rfl,h0,h1⟩:=S.t
     have e15:=KE 15 (by decide)
     exact wpo_loadF 38 (.tmp 15) rfl g103 0 (by simpa [Act.eval] using e15) _ _ (S.fr.left.get 0 rfl) #[.int .i64 rt,.int .i64 rpxl,.int .i64 rpxh,.int .i64 rpyl,.int .i64 rpyh,.int .i64 rpzl,.int .i64 rpzh,.int .i64 rvxl,.int .i64 rvxh,.int .i64 rvyl,.int .i64 rvyh,.int .i64 rvzl,.int .i64 rvzh,.int .i64 rml,.int .i64 rmh] rfl _ und_38 rfl info_38 (kk _ _ (by simp) bR rfl)
    ·intro a w1 vs dn k O N K S hpre KE DE kk
     obtain ⟨O2,N2,rfl,rfl,h0,h1⟩:=S.t
     have e9:=KE 9 (by decide)
     have hk0:=S.hi 0 4 rfl rfl
     have ca:=(S.fr.getO 1 rfl).cell 0
     rw [if_pos (by omega)] at ca
     replace ca:w1.cell? ⟨qb+1+1+1,0,none⟩=some u:=ca
     go_simp;exact kk _ _ (by simp) bR rfl
    ·intro a w1 vs dn k O N K S hpre KE DE kk
     obtain ⟨O2,N2,rfl,rfl,h0,h1⟩:=S.t
     have e16:=KE 16 (by decide)
     exact wpo_loadF 58 (.tmp 16) rfl g105 0 (by simpa [Act.eval] using e16) _ _ (S.fr.left.get 1 rfl) #[.int .i64 yf,.int .i64 yg,.int .i64 ypxl,.int .i64 ypxh,.int .i64 ypyl,.int .i64 ypyh,.int .i64 ypzl,.int .i64 ypzh,.int .i64 yvxl,.int .i64 yvxh,.int .i64 yvyl,.int .i64 yvyh,.int .i64 yvzl,.int .i64 yvzh,.int .i64 yml,.int .i64 ymh] rfl _ und_58 rfl info_58 (kk _ _ (by simp) bR rfl)
    ·intro a w1 vs dn k O N K S hpre KE DE kk
     have e39:=dep (DE 2 _ 39 rfl rfl rfl)
     go_simp;exact kk _ _ (by simp) (S.fr.alloc rfl _ _) rfl
    ·intro a w1 vs dn k O N K S hpre KE DE kk
     subst hpre
     obtain ⟨O2,N2,rfl,rfl,h0,h1⟩:=S.t
     obtain ⟨rfl,rfl⟩:=h0 rfl
     have e38:=dep (DE 1 _ 38 rfl rfl rfl)
     have e40:=dep (DE 3 _ 40 rfl rfl rfl)
     have hbk:=(S.fr.new (gOf (vs 3),58,iC [yf,yg,ypxl,ypxh,ypyl,ypyh,ypzl,ypzh,yvxl,yvxh,yvyl,yvyh,yvzl,yvzh,yml,ymh]) (List.mem_append_right _ (by unfold aTab;exact List.mem_map.2 ⟨(3,58,fun _=>iC [yf,yg,ypxl,ypxh,ypyl,ypyh,ypzl,ypzh,yvxl,yvxh,yvyl,yvyh,yvzl,yvzh,yml,ymh]),List.mem_filter.2 ⟨by simp,S.done 3 rfl⟩,rfl⟩))).2
     refine wpo_pushO (.tmp 38) (.tmp 40) 40 rfl S.fr HLS.out und_40 info_58b rfl (by decide) (by decide) HNT.out (gOf (vs 3)) 1 (iC [yf,yg,ypxl,ypxh,ypyl,ypyh,ypzl,ypzh,yvxl,yvxh,yvyl,yvyh,yvzl,yvzh,yml,ymh]) 58 (by simpa [Act.eval] using e38) (by simpa [Act.eval] using e40) hbk rfl rfl ?_
     intro v' w' O2 N2 hlg hf
     refine kk _ _ (by simp) ⟨_,_,⟨O2,N2,rfl,rfl,fun h=>absurd h (by decide),fun _=>?_⟩,?_⟩ trivial
     ·exact hlg
     ·refine Fr.stage (hf.perm ?_) (by exact ⟨rfl,trivial⟩)
      rw [List.append_assoc,List.append_nil,List.append_assoc]
      exact List.perm_append_comm.append_left _
    ·intro a w1 vs dn k O N K S hpre KE DE kk
     subst hpre
     obtain ⟨O2,N2,rfl,rfl,h0,h1⟩:=S.t
     have e7:=KE 7 (by decide)
     have e37:=dep (DE 0 _ 37 rfl rfl rfl)
     exact wpo_storeF 38 (.tmp 7) (.tmp 37) rfl rfl (qb+1+1) 0 (by simpa [Act.eval] using e7) #[.int .i64 rt,.int .i64 rpxl,.int .i64 rpxh,.int .i64 rpyl,.int .i64 rpyh,.int .i64 rpzl,.int .i64 rpzh,.int .i64 rvxl,.int .i64 rvxh,.int .i64 rvyl,.int .i64 rvyh,.int .i64 rvzl,.int .i64 rvzh,.int .i64 rml,.int .i64 rmh] (by simpa [Act.eval] using e37) _ _ (iC [rt,rpxl,rpxh,rpyl,rpyh,rpzl,rpzh,rvxl,rvxh,rvyl,rvyh,rvzl,rvzh,rml,rmh]) (S.fr.getO 0 rfl) rfl (by show 0+15≤15;omega) (one_all rfl) info_38 fun w' hk ho=>kk _ _ (by simp) ⟨_,_,⟨O2,N2,rfl,rfl,fun h=>absurd h (by decide),fun _=>h1 (by decide)⟩,Fr.stage (S.fr.onlyO 0 rfl ho hk) (by exact ⟨rfl,trivial⟩)⟩ trivial
    ·intro a w1 vs dn k O N K S hpre KE DE kk
     subst hpre
     obtain ⟨O2,N2,rfl,rfl,h0,h1⟩:=S.t
     have e9:=KE 9 (by decide)
     have e41:=(DE 4 _ 41 rfl rfl rfl).1
     exact wpo_storeCell 40 (.tmp 9) (.tmp 41) rfl rfl (qb+1+1+1) 0 (by simpa [Act.eval] using e9) (vs 4) (by simpa [Act.eval] using e41) _ _ (S.fr.getO 1 rfl) (by show 0<1;omega) (by obtain ⟨g,m,c,cur',hv,_⟩:=h1 (by decide);rw [hv];rfl) (by kernel_rfl) fun w' hk ho=>kk _ _ (by simp) ⟨_,_,⟨O2,N2,rfl,rfl,fun h=>absurd h (by decide),fun _=>h1 (by decide)⟩,Fr.stage (S.fr.onlyO 1 rfl ho hk) (by exact ⟨rfl,trivial⟩)⟩ trivial
   ·intro vs wf O N hT hf hR
    obtain ⟨O2,N2,rfl,rfl,_,hlg⟩:=hT
    have hf2:=hf.sub ((List.sublist_append_right _ _).trans (List.sublist_append_left _ _))
    exact HEN.out _ _ _ _ _ trivial (hlg (by decide)) hf2
  ·have hb2:(e2 != 0)=true:=by simpa using he
   have HE:=Lib.hid he
   clear he
   gi_wp2_with (first
     | (refine wpStoreFI rfl rfl 38 _ _ rfl g103 0 rfl #[.int .i64 rt,.int .i64 rpxl,.int .i64 rpxh,.int .i64 rpyl,.int .i64 rpyh,.int .i64 rpzl,.int .i64 rpzh,.int .i64 rvxl,.int .i64 rvxh,.int .i64 rvyl,.int .i64 rvyh,.int .i64 rvzl,.int .i64 rvzh,.int .i64 rml,.int .i64 rmh] rfl _ _ (iC [rt,rpxl,rpxh,rpyl,rpyh,rpzl,rpzh,rvxl,rvxh,rvyl,rvyh,rvzl,rvzh,rml,rmh]) (HF106.out.get 0 rfl) rfl (by show 0+15≤15;omega) (one_all rfl) info_38 ?_;intro w107 hk ho;clear hw103 hg103 hw105 hg105;have HF108:=Lib.hid (HF106.out.only 0 rfl ho hk);clear ho hk)
     | (refine wpStoreFI rfl rfl 58 _ _ rfl g105 0 rfl #[.int .i64 yf,.int .i64 yg,.int .i64 ypxl,.int .i64 ypxh,.int .i64 ypyl,.int .i64 ypyh,.int .i64 ypzl,.int .i64 ypzh,.int .i64 yvxl,.int .i64 yvxh,.int .i64 yvyl,.int .i64 yvyh,.int .i64 yvzl,.int .i64 yvzh,.int .i64 yml,.int .i64 ymh] rfl _ _ (iC [yf,yg,ypxl,ypxh,ypyl,ypyh,ypzl,ypzh,yvxl,yvxh,yvyl,yvyh,yvzl,yvzh,yml,ymh]) (HF108.out.get 1 rfl) rfl (by show 0+16≤16;omega) (one_all rfl) info_58 ?_;intro w109 hk ho;have HF110:=Lib.hid (HF108.out.only 1 rfl ho hk);clear ho hk)
     | (refine wpStoreFI rfl rfl 38 _ _ rfl (qb+1+1+1+1) 0 rfl #[.int .i64 0,.int .i64 0,.int .i64 0,.int .i64 0,.int .i64 0,.int .i64 0,.int .i64 0,.int .i64 0,.int .i64 0,.int .i64 0,.int .i64 0,.int .i64 0,.int .i64 0,.int .i64 0,.int .i64 0] rfl _ _ (iC [0,0,0,0,0,0,0,0,0,0,0,0,0,0,0]) (HF110.out.getO 2 rfl) rfl (by show 0+15≤15;omega) (one_all rfl) info_38 ?_;intro w111 hk ho;have HF112:=Lib.hid (HF110.out.onlyO 2 rfl ho hk);clear ho hk)
     | (refine wpStoreCellI rfl rfl 40 _ _ rfl (qb+1+1+1+1+1) 0 rfl (.slice none 0 0) rfl _ _ (HF112.out.getO 3 rfl) (by show 0<1;omega) rfl (by kernel_rfl) ?_;intro w113 hk ho;have HF114:=Lib.hid (HF112.out.onlyO 3 rfl ho hk);clear ho hk)
     | (refine wpStoreCellI rfl rfl 41 _ _ rfl (qb+1+1+1+1+1+1) 0 rfl (.int .i64 e2) rfl _ _ (HF114.out.getO 4 rfl) (by show 0<1;omega) rfl (by kernel_rfl) ?_;intro w115 hk ho;have HF116:=Lib.hid (HF114.out.onlyO 4 rfl ho hk);clear ho hk))
   exact HER.out _ _ HE.out HF116.out.drop
 case done =>
  intro D ys W hD hys hIW hK
  obtain ⟨h1,u,cur,hl,h2⟩:=(HI.out _ _).1 hIW
  have hlen:ys.length=n:=by
   have:=congrArg List.length hys
   unfold Fin.vals at this
   simpa using this
  have hsp:S ys=RK n:=by rw [HS.out];dsimp only;rw [hlen]
  rw [hsp] at h1 hl h2
  obtain ⟨⟨⟨sd,tbl⟩,e0⟩,hrk⟩:∃ z,RK n=z:=⟨_,rfl⟩
  rw [hrk] at h1 hl h2
  dsimp only at h1 hl h2
  subst h1
  obtain ⟨uq,um,uc,rfl⟩:∃ q m c,u=.slice q m c:=by
   rcases hl.2 with ⟨rfl,_⟩ | ⟨g0,cap,rfl,_⟩ <;> exact ⟨_,_,_,rfl⟩
  obtain ⟨qt,⟨⟨qpxl,qpxh⟩,⟨qpyl,qpyh⟩,⟨qpzl,qpzh⟩⟩,⟨⟨qvxl,qvxh⟩,⟨qvyl,qvyh⟩,⟨qvzl,qvzh⟩⟩,⟨qml,qmh⟩⟩:=sd
  have hsub:List.Sublist (α:=Ent) (([(qb+1+1,38,iC [qt,qpxl,qpxh,qpyl,qpyh,qpzl,qpzh,qvxl,qvxh,qvyl,qvyh,qvzl,qvzh,qml,qmh]),(qb+1+1+1,40,#[.slice uq um uc]),(qb+1+1+1+1,38,iC [0,0,0,0,0,0,0,0,0,0,0,0,0,0,0]),(qb+1+1+1+1+1,40,#[.slice none 0 0]),(qb+1+1+1+1+1+1,41,iC [0])]:List Ent)) ((([(qb,36,iC [mul,muh,rl,rh,ol,oh,sl,sh,pxl,pxh,pyl,pyh,pzl,pzh]),(qb+1,46,#[.int .i64 time,.int .i64 step,.int .i64 tl,.int .i64 th,.int .i64 fl,.int .i64 fh,.int .i64 dxl,.int .i64 dxh,.int .i64 dyl,.int .i64 dyh,.int .i64 dzl,.int .i64 dzh,.slice A na c,.int .i64 dl,.int .i64 dh]),(qb+1+1,38,stA ⟨qt,⟨⟨qpxl,qpxh⟩,⟨qpyl,qpyh⟩,⟨qpzl,qpzh⟩⟩,⟨⟨qvxl,qvxh⟩,⟨qvyl,qvyh⟩,⟨qvzl,qvzh⟩⟩,⟨qml,qmh⟩⟩),(qb+1+1+1,40,#[.slice uq um uc]),(qb+1+1+1+1,38,iC [0,0,0,0,0,0,0,0,0,0,0,0,0,0,0]),(qb+1+1+1+1+1,40,#[.slice none 0 0]),(qb+1+1+1+1+1+1,41,iC [0]),(g1,160,#[.int .i64 mul,.int .i64 muh,.int .i64 rl,.int .i64 rh,.int .i64 ol,.int .i64 oh,.int .i64 sl,.int .i64 sh,.int .i64 pxl,.int .i64 pxh,.int .i64 pyl,.int .i64 pyh,.int .i64 pzl,.int .i64 pzh,.int .i64 time,.int .i64 step,.int .i64 tl,.int .i64 th,.int .i64 fl,.int .i64 fh,.int .i64 dxl,.int .i64 dxh,.int .i64 dyl,.int .i64 dyh,.int .i64 dzl,.int .i64 dzh,.slice A na c,.int .i64 dl,.int .i64 dh]),(B1,46,#[.int .i64 time,.int .i64 step,.int .i64 tl,.int .i64 th,.int .i64 fl,.int .i64 fh,.int .i64 dxl,.int .i64 dxh,.int .i64 dyl,.int .i64 dyh,.int .i64 dzl,.int .i64 dzh,.slice A na c,.int .i64 dl,.int .i64 dh]),(B2,4,#[.bool false])]:List Ent) ++ lstE 58 (.slice uq um uc) cur)):=.cons _ (.cons _ (.cons_cons _ (.cons_cons _ (.cons_cons _ (.cons_cons _ (.cons_cons _ (.cons _ (.cons _ (.cons _ (List.nil_sublist _))))))))))
  have HFB0:=Lib.hid (Fr.startL (O:=([(qb+1+1,38,iC [qt,qpxl,qpxh,qpyl,qpyh,qpzl,qpzh,qvxl,qvxh,qvyl,qvyh,qvzl,qvzh,qml,qmh]),(qb+1+1+1,40,#[.slice uq um uc]),(qb+1+1+1+1,38,iC [0,0,0,0,0,0,0,0,0,0,0,0,0,0,0]),(qb+1+1+1+1+1,40,#[.slice none 0 0]),(qb+1+1+1+1+1+1,41,iC [0])]:List Ent)) (fun y hy=>(h2.new y (hsub.subset hy)).2) (h2.ndN.sublist (hsub.map _)))
  have HFB:Hid (Fr W ([(qb+1+1,38,iC [qt,qpxl,qpxh,qpyl,qpyh,qpzl,qpzh,qvxl,qvxh,qvyl,qvyh,qvzl,qvzh,qml,qmh]),(qb+1+1+1,40,#[.slice uq um uc]),(qb+1+1+1+1,38,iC [0,0,0,0,0,0,0,0,0,0,0,0,0,0,0]),(qb+1+1+1+1+1,40,#[.slice none 0 0]),(qb+1+1+1+1+1+1,41,iC [0])]:List Ent) [] W):=HFB0
  have HEND:Hid (∀ W',Fr W ([(qb+1+1,38,iC [qt,qpxl,qpxh,qpyl,qpyh,qpzl,qpzh,qvxl,qvxh,qvyl,qvyh,qvzl,qvzh,qml,qmh]),(qb+1+1+1,40,#[.slice uq um uc]),(qb+1+1+1+1,38,iC [qt,qpxl,qpxh,qpyl,qpyh,qpzl,qpzh,qvxl,qvxh,qvyl,qvyh,qvzl,qvzh,qml,qmh]),(qb+1+1+1+1+1,40,#[.slice uq um uc]),(qb+1+1+1+1+1+1,41,iC [0])]:List Ent) [] W'→W'.heap[D]?=some (.deferred (some []))∧PQ (.returned (.tuple #[.agg #[.int .i64 qt,.int .i64 qpxl,.int .i64 qpxh,.int .i64 qpyl,.int .i64 qpyh,.int .i64 qpzl,.int .i64 qpzh,.int .i64 qvxl,.int .i64 qvxh,.int .i64 qvyl,.int .i64 qvyh,.int .i64 qvzl,.int .i64 qvzh,.int .i64 qml,.int .i64 qmh],.slice uq um uc,.int .i64 0])) (W'.putObj D (.deferred none))∧Bk (W'.putObj D (.deferred none)) (qb+1+1+1+1) 38 #[.int .i64 qt,.int .i64 qpxl,.int .i64 qpxh,.int .i64 qpyl,.int .i64 qpyh,.int .i64 qpzl,.int .i64 qpzh,.int .i64 qvxl,.int .i64 qvxh,.int .i64 qvyl,.int .i64 qvyh,.int .i64 qvzl,.int .i64 qvzh,.int .i64 qml,.int .i64 qmh]∧Bk (W'.putObj D (.deferred none)) (qb+1+1+1+1+1) 40 #[.slice uq um uc]∧Bk (W'.putObj D (.deferred none)) (qb+1+1+1+1+1+1) 41 #[.int .i64 0]):=Lib.hid fun W' hf=>by
   have hDK:W'.heap[D]?=some (.deferred (some [])):=(hf.keepsOthers (fun y hy=>by
    have hm:y.1 ∈ (([(qb+1+1,38,iC [qt,qpxl,qpxh,qpyl,qpyh,qpzl,qpzh,qvxl,qvxh,qvyl,qvyh,qvzl,qvzh,qml,qmh]),(qb+1+1+1,40,#[.slice uq um uc]),(qb+1+1+1+1,38,iC [0,0,0,0,0,0,0,0,0,0,0,0,0,0,0]),(qb+1+1+1+1+1,40,#[.slice none 0 0]),(qb+1+1+1+1+1+1,41,iC [0])]:List Ent)).map (·.1):=(show y.1 ∈ (([(qb+1+1,38,iC [qt,qpxl,qpxh,qpyl,qpyh,qpzl,qpzh,qvxl,qvxh,qvyl,qvyh,qvzl,qvzh,qml,qmh]),(qb+1+1+1,40,#[.slice uq um uc]),(qb+1+1+1+1,38,iC [qt,qpxl,qpxh,qpyl,qpyh,qpzl,qpzh,qvxl,qvxh,qvyl,qvyh,qvzl,qvzh,qml,qmh]),(qb+1+1+1+1+1,40,#[.slice uq um uc]),(qb+1+1+1+1+1+1,41,iC [0])]:List Ent)).map (·.1) from List.mem_map.2 ⟨y,hy,rfl⟩)
    obtain ⟨z,hz,hzy⟩:=List.mem_map.1 hm
    exact ⟨z.2.1,z.2.2,by rw [← hzy];exact (h2.new z (hsub.subset hz)).2⟩)).same D _ hK rfl
   have h6:=(h2.turns [false,false,true,true,true,true,true,false,false,false] hf ⟨rfl,rfl,rfl,rfl,rfl,trivial⟩).putObj (.deferred none) (by omega) hDK rfl
   exact ⟨hDK,HFIN.out _ _ _ _ _ _ hrk hl (h6.sub (.cons _ (.cons _ (.cons _ (.cons _ (.cons _ (.cons _ (.cons _ (.cons _ (.cons _ (.cons _ (List.Sublist.refl _)))))))))))),h6.get 4 rfl,h6.get 5 rfl,h6.get 6 rfl⟩
  clear HFB0 hsub hD hys hIW hK hl h2 hlen hsp hrk
  go_wp2_with fail
  refine wp_region_fr [Kind.p,Kind.p,Kind.c 0,Kind.c 1,Kind.c 2] [2,3,4] [] W (fun k=>[(qb+1+1,38,iC [qt,qpxl,qpxh,qpyl,qpyh,qpzl,qpzh,qvxl,qvxh,qvyl,qvyh,qvzl,qvzh,qml,qmh]),(qb+1+1+1,40,#[.slice uq um uc]),(qb+1+1+1+1,38,(if k≤0 then iC [0,0,0,0,0,0,0,0,0,0,0,0,0,0,0] else iC [qt,qpxl,qpxh,qpyl,qpyh,qpzl,qpzh,qvxl,qvxh,qvyl,qvyh,qvzl,qvzh,qml,qmh])),(qb+1+1+1+1+1,40,(if k≤1 then #[.slice none 0 0] else #[.slice uq um uc])),(qb+1+1+1+1+1+1,41,iC [0])]) (fun _=>[])
     (fun ix u _=>match ix with
      | 0=>u=.agg #[.int .i64 qt,.int .i64 qpxl,.int .i64 qpxh,.int .i64 qpyl,.int .i64 qpyh,.int .i64 qpzl,.int .i64 qpzh,.int .i64 qvxl,.int .i64 qvxh,.int .i64 qvyl,.int .i64 qvyh,.int .i64 qvzl,.int .i64 qvzh,.int .i64 qml,.int .i64 qmh]
      | 1=>u=.slice uq um uc
      | _=>True)
     (by kernel_rfl) (by kernel_rfl) (by kernel_rfl) [] rfl (by decide) (by kernel_rfl) (by kernel_rfl) HFB.out ?_ ?_
  ·refine ⟨?_,?_,?_,?_,?_,trivial⟩
   all_goals intro a w1 vs dn k K S hpre KE DE kk
   ·have e7:=KE 7 (by decide)
    exact wpo_loadF 38 (.tmp 7) rfl (qb+1+1) 0 (by simpa [Act.eval] using e7) _ _ (S.fr.getO 0 rfl) #[.int .i64 qt,.int .i64 qpxl,.int .i64 qpxh,.int .i64 qpyl,.int .i64 qpyh,.int .i64 qpzl,.int .i64 qpzh,.int .i64 qvxl,.int .i64 qvxh,.int .i64 qvyl,.int .i64 qvyh,.int .i64 qvzl,.int .i64 qvzh,.int .i64 qml,.int .i64 qmh] rfl _ und_38 rfl info_38 (kk _ _ (by simp) bR rfl)
   ·have e9:=KE 9 (by decide)
    have ca:w1.cell? ⟨qb+1+1+1,0,none⟩=some (.slice uq um uc):=(S.fr.getO 1 rfl).cell 0
    go_simp;exact kk _ _ (by simp) bR rfl
   ·subst hpre
    have e10:=KE 10 (by decide)
    have e42:=dep (DE 0 _ 42 rfl rfl rfl)
    exact wpo_storeF 38 (.tmp 10) (.tmp 42) rfl rfl (qb+1+1+1+1) 0 (by simpa [Act.eval] using e10) #[.int .i64 qt,.int .i64 qpxl,.int .i64 qpxh,.int .i64 qpyl,.int .i64 qpyh,.int .i64 qpzl,.int .i64 qpzh,.int .i64 qvxl,.int .i64 qvxh,.int .i64 qvyl,.int .i64 qvyh,.int .i64 qvzl,.int .i64 qvzh,.int .i64 qml,.int .i64 qmh] (by simpa [Act.eval] using e42) _ _ (iC [qt,qpxl,qpxh,qpyl,qpyh,qpzl,qpzh,qvxl,qvxh,qvyl,qvyh,qvzl,qvzh,qml,qmh]) (by have:=S.fr.getO 2 rfl;rw [if_pos (S.hi 0 2 rfl rfl)] at this;exact this) rfl (by show 0+15≤15;omega) (one_all rfl) info_38 fun w' hk ho=>kk _ _ (by simp) (Fr.stage (S.fr.onlyO 2 rfl ho hk) (by exact trivial)) trivial
   ·subst hpre
    have e11:=KE 11 (by decide)
    have e43:=dep (DE 1 _ 43 rfl rfl rfl)
    exact wpo_storeCell 40 (.tmp 11) (.tmp 43) rfl rfl (qb+1+1+1+1+1) 0 (by simpa [Act.eval] using e11) (.slice uq um uc) (by simpa [Act.eval] using e43) _ _ (by have:=S.fr.getO 3 rfl;rw [if_pos (S.hi 1 3 rfl rfl)] at this;exact this) (by show 0<1;omega) rfl (by kernel_rfl) fun w' hk ho=>kk _ _ (by simp) (Fr.stage (S.fr.onlyO 3 rfl ho hk) (by exact trivial)) trivial
   ·subst hpre
    have e12:=KE 12 (by decide)
    exact wpo_storeCell 41 (.tmp 12) _ rfl rfl (qb+1+1+1+1+1+1) 0 (by simpa [Act.eval] using e12) (.int .i64 0) rfl _ _ (S.fr.getO 4 rfl) (by show 0<1;omega) rfl (by kernel_rfl) fun w' hk ho=>kk _ _ (by simp) (Fr.stage (S.fr.onlyO 4 rfl ho hk) (by exact trivial)) trivial
  ·intro vs wf HFr HR
   have HFr':Fr W [(qb+1+1,38,iC [qt,qpxl,qpxh,qpyl,qpyh,qpzl,qpzh,qvxl,qvxh,qvyl,qvyh,qvzl,qvzh,qml,qmh]),(qb+1+1+1,40,#[.slice uq um uc]),(qb+1+1+1+1,38,iC [qt,qpxl,qpxh,qpyl,qpyh,qpzl,qpzh,qvxl,qvxh,qvyl,qvyh,qvzl,qvzh,qml,qmh]),(qb+1+1+1+1+1,40,#[.slice uq um uc]),(qb+1+1+1+1+1+1,41,iC [0])] [] wf:=HFr
   clear HFr HR
   have HF101:=Lib.hid HFr'
   clear HFr'
   simp only [putAll,Act.put,List.setIfInBounds_toArray,List.set_cons_zero,List.set_cons_succ]
   obtain ⟨w101,rfl⟩:∃ u:World,u=wf:=⟨_,rfl⟩
   go_wp2_with fail
   obtain ⟨hd1,hd2,hd3,hd4,hd5⟩:=HEND.out _ HF101.out.drop
   refine ⟨by simp,.inl ⟨_,_,rfl,run_takeDeferred hd1,?_⟩⟩
   exact ⟨_,results_cc1c1 rfl _ _ (qb+1+1+1+1) (qb+1+1+1+1+1) (qb+1+1+1+1+1+1) 38 40 41 _ _ _ _ _ _ rfl rfl rfl hd3 hd4 hd5 und_38 rfl info_38 und_40 rfl und_41 rfl,hd2⟩
 case stop =>
  intro D cd pre W hD hSp hIx hK
  obtain ⟨rfl,h1,h2⟩:=(HIX.out _ _ _).1 hIx
  have hlen:pre.length≤n:=by
   have:=hSp.1.length_le
   unfold Fin.vals at this
   simpa using this
  have hsp:S pre=RK pre.length:=by rw [HS.out]
  rw [hsp] at h1 h2
  have hL:=HSN.out _ h1 hlen
  have hbad:=HSB.out _ h1
  obtain ⟨⟨⟨sd,tbl⟩,e0⟩,hrk⟩:∃ z,RK pre.length=z:=⟨_,rfl⟩
  rw [hrk] at h1 h2 hL hbad
  dsimp only at h1 h2 hL hbad
  injection hbad with hb1 hb2
  subst hb1 hb2
  have h6:=h2.putObj (.deferred none) (by omega) hK rfl
  have HKD:=Lib.hid hK
  have HH:=Lib.hid (And.intro (HFIN.out _ _ _ _ (.slice none 0 0) #[] hL (LstAt.nil 16) h6.drop) (And.intro (h6.get 0 rfl) (And.intro (h6.get 1 rfl) (h6.get 2 rfl))))
  clear hD hSp hIx hK h1 h2 hL hsp h6 hrk hlen
  refine wpIn_wide.2 ?_
  go_wp2_with fail
  refine ⟨by simp,.inl ⟨_,_,rfl,run_takeDeferred HKD.out,?_⟩⟩
  exact ⟨_,results_cc1c1 rfl _ _ (qb+1+1+1+1) (qb+1+1+1+1+1) (qb+1+1+1+1+1+1) 38 40 41 _ _ _ _ _ _ rfl rfl rfl HH.out.2.1 HH.out.2.2.1 HH.out.2.2.2 und_38 rfl info_38 und_40 rfl und_41 rfl,HH.out.1⟩
end Go.Proofs.YtmkoegljnebdiaaGreat
namespace Go.Proofs.YtmkoegljnebdiaaGreat
open Go.RowKit Go.Shelf
set_option maxRecDepth 100000
set_option maxHeartbeats 16000000

def flyF (p:PlanetD) (a:ArcD) (s:StateD) (n:Nat) (G:StateD→(StateD × TubeD) × Int):List TubeD × Int :=
 if flightE p a s ≠ 0 then ([],flightE p a s) else if (runK G s n).2 ≠ 0 then ([],(runK G s n).2) else if (subB (runK G s n).1.1.m a.drop).2 ≠ 0 then ([],(subB (runK G s n).1.1.m a.drop).2) else if (subB (runK G s n).1.1.m a.drop).1.lo≤0 then ([],4) else ((runK G s n).1.2,0)
def FlyPost (r:List TubeD × Int) (w:World) (v:Ending) (w':World):Prop:=∃ st u cur,v=.returned (.tuple #[st,u,.int .i64 r.2])∧LstAt 16 u cur r.1.length (tbsC r.1)∧Fr w [] (lstE 58 u cur) w'
theorem und_39:Tryz.prog.underlying 39=some (.slice 38):=by kernel_rfl
theorem info_38b:(Tryz.prog.info? 38).map (fun i=>(i.zero,i.size,i.bytes))=some (some (stateV noSt),15,120):=by kernel_rfl
theorem fly1_any (p:PlanetD) (a:ArcD) (A:Option Addr) (c:Nat) (s:StateD) (n:Nat) (G:StateD→(StateD × TubeD) × Int) (g t:Nat)
  (hG:∀ s w',I64W s→Calls Tryz.prog 62 #[modelV p a A 0 c,stateV s,.int .i64 a.step] w' fun v w''=>v=.returned (.tuple #[stateV (G s).1.1,tubeV (G s).1.2,.int .i64 (G s).2])∧Below w'.heap.size w' w'')
  (hGw:∀ s,I64W s→I64W (G s).1.1) (hs:I64W s) (hd:WdB a.dir) (hdr:WdS a.drop) (hn:n≤4096) (hst:0<a.step) (hti:a.time=n * a.step) (h64:I64 a.time) (h64s:I64 a.step) (w:World) (hk:Bk w g t (arcV a A 0 c).cells) :
  Calls Tryz.prog 7 #[planetV p,.slice (some ⟨g,0,none⟩) 1 1,stateV s] w (FlyPost (flyF p a s n G) w):=by
 obtain ⟨PQ,hPQ⟩:∃ Q,FlyPost (flyF p a s n G) w=Q:=⟨_,rfl⟩
 have HFIN:Hid (∀ w' st u cur l e,flyF p a s n G=(l,e)→LstAt 16 u cur l.length (tbsC l)→Fr w [] (lstE 58 u cur) w'→PQ (.returned (.tuple #[st,u,.int .i64 e])) w'):=Lib.hid fun w' st u cur l e h h1 h2=>by rw [← hPQ,h];exact ⟨st,u,cur,rfl,h1,h2⟩
 have HBAD:Hid (∀ w' e,flyF p a s n G=([],e)→Fr w [] [] w'→PQ (.returned (.tuple #[.slice none 0 0,.slice none 0 0,.int .i64 e])) w'):=Lib.hid fun w' e h h2=>HFIN.out _ _ (.slice none 0 0) #[] _ _ h (LstAt.nil 16) h2
 have HCK:=Lib.hid (fun w g t hk=>check1_any p a s A c g t hd h64 h64s w hk)
 have HAL:=Lib.hid (fun w=>along_any p a A 0 c s n G hG hGw hs hn hst hti h64 h64s w)
 have HLN:=runK_len G s n
 have hwm:(runK G s n).2=0→WdS (runK G s n).1.1.m:=fun h=>(runK_wd hs hGw n h).2.2.2
 have HK:=Lib.hid hk
 rw [hPQ]
 unfold flyF at HFIN HBAD
 obtain ⟨E,hE⟩:∃ e,flightE p a s=e:=⟨_,rfl⟩
 rw [hE] at HCK HFIN HBAD
 obtain ⟨⟨⟨sd,tbl⟩,e1⟩,hrk⟩:∃ z,runK G s n=z:=⟨_,rfl⟩
 rw [hrk] at HAL HFIN HBAD hwm HLN
 dsimp only at HFIN HBAD hwm HLN
 unfold AlongPost at HAL
 dsimp only at HAL
 obtain ⟨⟨⟨ml,mh⟩,e2⟩,hm⟩:∃ z,subB sd.m a.drop=z:=⟨_,rfl⟩
 have HSU:=Lib.hid (fun (h:e1=0) w=>sub_any sd.m a.drop (hwm h) hdr w)
 rw [hm] at HSU HFIN HBAD
 dsimp only at HFIN HBAD
 obtain ⟨⟨mul,muh⟩,⟨rl,rh⟩,⟨ol,oh⟩,⟨sl,sh⟩,⟨⟨pxl,pxh⟩,⟨pyl,pyh⟩,⟨pzl,pzh⟩⟩⟩:=p
 obtain ⟨st,⟨⟨axl,axh⟩,⟨ayl,ayh⟩,⟨azl,azh⟩⟩,⟨⟨bxl,bxh⟩,⟨byl,byh⟩,⟨bzl,bzh⟩⟩,⟨sml,smh⟩⟩:=s
 obtain ⟨time,step,⟨tl,th⟩,⟨fl,fh⟩,⟨⟨dxl,dxh⟩,⟨dyl,dyh⟩,⟨dzl,dzh⟩⟩,drag,⟨dl,dh⟩⟩:=a
 obtain ⟨qt,⟨⟨qpxl,qpxh⟩,⟨qpyl,qpyh⟩,⟨qpzl,qpzh⟩⟩,⟨⟨qvxl,qvxh⟩,⟨qvyl,qvyh⟩,⟨qvzl,qvzh⟩⟩,⟨qml,qmh⟩⟩:=sd
 unfold planetV stateV at HCK HAL ⊢
 unfold arcV at HAL
 unfold spanV SpPost at HSU
 unfold spanV at HSU
 dsimp only at HCK HAL HSU ⊢
 replace HCK:Hid (∀ w g t,Bk w g t #[.int .i64 time,.int .i64 step,.int .i64 tl,.int .i64 th,.int .i64 fl,.int .i64 fh,.int .i64 dxl,.int .i64 dxh,.int .i64 dyl,.int .i64 dyh,.int .i64 dzl,.int .i64 dzh,.slice A 0 c,.int .i64 dl,.int .i64 dh]→Calls Tryz.prog 22 #[.agg #[.int .i64 mul,.int .i64 muh,.int .i64 rl,.int .i64 rh,.int .i64 ol,.int .i64 oh,.int .i64 sl,.int .i64 sh,.int .i64 pxl,.int .i64 pxh,.int .i64 pyl,.int .i64 pyh,.int .i64 pzl,.int .i64 pzh],.slice (some ⟨g,0,none⟩) 1 1,.agg #[.int .i64 st,.int .i64 axl,.int .i64 axh,.int .i64 ayl,.int .i64 ayh,.int .i64 azl,.int .i64 azh,.int .i64 bxl,.int .i64 bxh,.int .i64 byl,.int .i64 byh,.int .i64 bzl,.int .i64 bzh,.int .i64 sml,.int .i64 smh]] w fun e w'=>e=.returned (.int .i64 E)∧Below w.heap.size w w'):=HCK
 replace HK:Hid (Bk w g t #[.int .i64 time,.int .i64 step,.int .i64 tl,.int .i64 th,.int .i64 fl,.int .i64 fh,.int .i64 dxl,.int .i64 dxh,.int .i64 dyl,.int .i64 dyh,.int .i64 dzl,.int .i64 dzh,.slice A 0 c,.int .i64 dl,.int .i64 dh]):=HK
 clear hPQ hE hrk hm hk hG hGw hs hd hdr hn hst hti h64 h64s hwm HLN
 obtain ⟨qb,hqb⟩:∃ qb,w.heap.size=qb:=⟨_,rfl⟩
 obtain ⟨W0,hW0⟩:∃ W0,(w.alloc (.cells #[.int .i64 mul,.int .i64 muh,.int .i64 rl,.int .i64 rh,.int .i64 ol,.int .i64 oh,.int .i64 sl,.int .i64 sh,.int .i64 pxl,.int .i64 pxh,.int .i64 pyl,.int .i64 pyh,.int .i64 pzl,.int .i64 pzh] 36)).alloc (.cells #[.int .i64 st,.int .i64 axl,.int .i64 axh,.int .i64 ayl,.int .i64 ayh,.int .i64 azl,.int .i64 azh,.int .i64 bxl,.int .i64 bxh,.int .i64 byl,.int .i64 byh,.int .i64 bzl,.int .i64 bzh,.int .i64 sml,.int .i64 smh] 38)=W0:=⟨_,rfl⟩
 have HF0:Hid (Fr w [] [(qb,36,iC [mul,muh,rl,rh,ol,oh,sl,sh,pxl,pxh,pyl,pyh,pzl,pzh]),(qb+1,38,iC [st,axl,axh,ayl,ayh,azl,azh,bxl,bxh,byl,byh,bzl,bzh,sml,smh])] W0):=Lib.hid (by rw [← hW0];exact ((Fr.start w).alloc (by simp [← hqb]) 36 #[.int .i64 mul,.int .i64 muh,.int .i64 rl,.int .i64 rh,.int .i64 ol,.int .i64 oh,.int .i64 sl,.int .i64 sh,.int .i64 pxl,.int .i64 pxh,.int .i64 pyl,.int .i64 pyh,.int .i64 pzl,.int .i64 pzh]).alloc (by simp [← hqb]) 38 #[.int .i64 st,.int .i64 axl,.int .i64 axh,.int .i64 ayl,.int .i64 ayh,.int .i64 azl,.int .i64 azh,.int .i64 bxl,.int .i64 bxh,.int .i64 byl,.int .i64 byh,.int .i64 bzl,.int .i64 bzh,.int .i64 sml,.int .i64 smh])
 go_enter Tryz.func7,Tryz.ntmps7
 go_upto_region 1 with (fail)
 clear hW0 hqb
 have HK1:=Lib.hid (HK.out.below HF0.out.toBelow HK.out.lt)
 go_wp2_with (first
   | (refine wpLoadF rfl 36 _ rfl qb 0 rfl _ _ (HF0.out.get 0 rfl) #[.int .i64 mul,.int .i64 muh,.int .i64 rl,.int .i64 rh,.int .i64 ol,.int .i64 oh,.int .i64 sl,.int .i64 sh,.int .i64 pxl,.int .i64 pxh,.int .i64 pyl,.int .i64 pyh,.int .i64 pzl,.int .i64 pzh] rfl _ und_36 rfl info_36 ?_)
   | (refine wpLoadF rfl 38 _ rfl (qb+1) 0 rfl _ _ (HF0.out.get 1 rfl) #[.int .i64 st,.int .i64 axl,.int .i64 axh,.int .i64 ayl,.int .i64 ayh,.int .i64 azl,.int .i64 azh,.int .i64 bxl,.int .i64 bxh,.int .i64 byl,.int .i64 byh,.int .i64 bzl,.int .i64 bzh,.int .i64 sml,.int .i64 smh] rfl _ und_38 rfl info_38 ?_))
 refine (HCK.out _ g t HK1.out).mono ?_
 rintro e w1 ⟨rfl,hw⟩
 have HF2:=Lib.hid (HF0.out.below hw)
 clear hw
 by_cases hE:E=0
 ·subst hE
  go_wp2_with fail
  refine wp_loop_rounds 2 ?_
  rw [rounds_succ]
  have HK2:=Lib.hid (HK.out.below HF2.out.toBelow HK.out.lt)
  obtain ⟨g3,hg3⟩:∃ g,w1.heap.size=g:=⟨_,rfl⟩
  obtain ⟨w3,hw3⟩:∃ u,w1.alloc (.cells #[.int .i64 0,.int .i64 0,.int .i64 0,.int .i64 0,.int .i64 0,.int .i64 0,.int .i64 0,.int .i64 0,.int .i64 0,.int .i64 0,.int .i64 0,.int .i64 0,.slice none 0 0,.int .i64 0,.int .i64 0] 46)=u:=⟨_,rfl⟩
  have HF4:=Lib.hid (frE hw3 (HF2.out.alloc hg3.symm 46 #[.int .i64 0,.int .i64 0,.int .i64 0,.int .i64 0,.int .i64 0,.int .i64 0,.int .i64 0,.int .i64 0,.int .i64 0,.int .i64 0,.int .i64 0,.int .i64 0,.slice none 0 0,.int .i64 0,.int .i64 0]))
  go_wp2_with (first
    | (refine wpLoadF rfl 46 _ rfl g 0 rfl _ _ HK2.out #[.int .i64 time,.int .i64 step,.int .i64 tl,.int .i64 th,.int .i64 fl,.int .i64 fh,.int .i64 dxl,.int .i64 dxh,.int .i64 dyl,.int .i64 dyh,.int .i64 dzl,.int .i64 dzh,.slice A 0 c,.int .i64 dl,.int .i64 dh] rfl _ und_46 rfl info_46 ?_)
    | (refine wpLoadF rfl 36 _ rfl qb 0 rfl _ _ (HF6.out.get 0 rfl) #[.int .i64 mul,.int .i64 muh,.int .i64 rl,.int .i64 rh,.int .i64 ol,.int .i64 oh,.int .i64 sl,.int .i64 sh,.int .i64 pxl,.int .i64 pxh,.int .i64 pyl,.int .i64 pyh,.int .i64 pzl,.int .i64 pzh] rfl _ und_36 rfl info_36 ?_)
    | (refine wpLoadF rfl 46 _ rfl g3 0 rfl _ _ (HF6.out.get 2 rfl) #[.int .i64 time,.int .i64 step,.int .i64 tl,.int .i64 th,.int .i64 fl,.int .i64 fh,.int .i64 dxl,.int .i64 dxh,.int .i64 dyl,.int .i64 dyh,.int .i64 dzl,.int .i64 dzh,.slice A 0 c,.int .i64 dl,.int .i64 dh] rfl _ und_46 rfl info_46 ?_)
    | (refine wpLoadF rfl 38 _ rfl (qb+1) 0 rfl _ _ (HF6.out.get 1 rfl) #[.int .i64 st,.int .i64 axl,.int .i64 axh,.int .i64 ayl,.int .i64 ayh,.int .i64 azl,.int .i64 azh,.int .i64 bxl,.int .i64 bxh,.int .i64 byl,.int .i64 byh,.int .i64 bzl,.int .i64 bzh,.int .i64 sml,.int .i64 smh] rfl _ und_38 rfl info_38 ?_)
    | (refine wpStoreF rfl rfl 46 _ _ rfl g3 0 rfl #[.int .i64 time,.int .i64 step,.int .i64 tl,.int .i64 th,.int .i64 fl,.int .i64 fh,.int .i64 dxl,.int .i64 dxh,.int .i64 dyl,.int .i64 dyh,.int .i64 dzl,.int .i64 dzh,.slice A 0 c,.int .i64 dl,.int .i64 dh] rfl _ _ #[.int .i64 time,.int .i64 step,.int .i64 tl,.int .i64 th,.int .i64 fl,.int .i64 fh,.int .i64 dxl,.int .i64 dxh,.int .i64 dyl,.int .i64 dyh,.int .i64 dzl,.int .i64 dzh,.slice A 0 c,.int .i64 dl,.int .i64 dh] (HF4.out.get 2 rfl) rfl (by show 0+15≤15;omega) (one_all rfl) info_46 ?_;intro w5 hk ho;clear hw3 hg3;have HF6:=Lib.hid (HF4.out.only 2 rfl ho hk);clear ho hk))
  refine (HAL.out _).mono ?_
  rintro e w7 ⟨u,cur,rfl,hl,hw⟩
  have HF8:=Lib.hid (HF6.out.more hw)
  clear hw
  have HLS:=Lib.hid hl
  clear hl
  by_cases he1:e1=0
  ·subst he1
   have HSU1:=Lib.hid (HSU.out rfl)
   clear HSU
   go_wp2_with (first
     | (refine wpLoadF rfl 31 _ rfl (qb+1) 13 rfl _ _ (HF10.out.get 1 rfl) #[.int .i64 qml,.int .i64 qmh] rfl _ und_span rfl info_span ?_)
     | (refine wpLoadF rfl 31 _ rfl g3 13 rfl _ _ (HF10.out.get 2 rfl) #[.int .i64 dl,.int .i64 dh] rfl _ und_span rfl info_span ?_)
     | (refine wpStoreF rfl rfl 38 _ _ rfl (qb+1) 0 rfl #[.int .i64 qt,.int .i64 qpxl,.int .i64 qpxh,.int .i64 qpyl,.int .i64 qpyh,.int .i64 qpzl,.int .i64 qpzh,.int .i64 qvxl,.int .i64 qvxh,.int .i64 qvyl,.int .i64 qvyh,.int .i64 qvzl,.int .i64 qvzh,.int .i64 qml,.int .i64 qmh] rfl _ _ (iC [qt,qpxl,qpxh,qpyl,qpyh,qpzl,qpzh,qvxl,qvxh,qvyl,qvyh,qvzl,qvzh,qml,qmh]) (HF8.out.get 1 rfl) rfl (by show 0+15≤15;omega) (one_all rfl) info_38 ?_;intro w9 hk ho;have HF10:=Lib.hid (HF8.out.only 1 rfl ho hk);clear ho hk))
   refine (HSU1.out _).mono ?_
   rintro e w11 ⟨rfl,hw⟩
   have HF12:=Lib.hid (HF10.out.below hw)
   clear hw
   by_cases he2:e2=0
   ·subst he2
    by_cases hml:ml≤0
    ·have hg:decide (ml≤0)=true:=decide_eq_true hml
     have HE:=Lib.hid hml
     clear hml
     go_wp2_with (refine wpStoreF rfl rfl 31 _ _ rfl (qb+1) 13 rfl #[.int .i64 ml,.int .i64 mh] rfl _ _ (iC [qt,qpxl,qpxh,qpyl,qpyh,qpzl,qpzh,qvxl,qvxh,qvyl,qvyh,qvzl,qvzh,ml,mh]) (HF12.out.get 1 rfl) rfl (by show 13+2≤15;omega) (one_all rfl) info_span ?_;intro w13 hk ho;have HF14:Hid (Fr w [] ([(qb,36,iC [mul,muh,rl,rh,ol,oh,sl,sh,pxl,pxh,pyl,pyh,pzl,pzh]),(qb+1,38,iC [qt,qpxl,qpxh,qpyl,qpyh,qpzl,qpzh,qvxl,qvxh,qvyl,qvyh,qvzl,qvzh,ml,mh]),(g3,46,#[.int .i64 time,.int .i64 step,.int .i64 tl,.int .i64 th,.int .i64 fl,.int .i64 fh,.int .i64 dxl,.int .i64 dxh,.int .i64 dyl,.int .i64 dyh,.int .i64 dzl,.int .i64 dzh,.slice A 0 c,.int .i64 dl,.int .i64 dh])] ++ lstE 58 u cur) w13):=Lib.hid (HF12.out.only 1 rfl ho hk);clear ho hk;have c15:w13.cell? ⟨qb+1,13,none⟩=some (.int .i64 ml):=(HF14.out.get 1 rfl).cell 13)
     clear c15
     refine bodyPost_ret (results_tmp3 rfl _ _ _) rfl ?_
     exact HBAD.out _ _ (by rw [if_neg (by simp),if_neg (by simp),if_neg (by simp),if_pos HE.out]) (HF14.out.sub (List.nil_sublist _))
    ·have hg:decide (ml≤0)=false:=decide_eq_false hml
     have HE:=Lib.hid hml
     clear hml
     go_wp2_with (first
       | (refine wpLoadF rfl 38 _ rfl (qb+1) 0 rfl _ _ (HF14.out.get 1 rfl) #[.int .i64 qt,.int .i64 qpxl,.int .i64 qpxh,.int .i64 qpyl,.int .i64 qpyh,.int .i64 qpzl,.int .i64 qpzh,.int .i64 qvxl,.int .i64 qvxh,.int .i64 qvyl,.int .i64 qvyh,.int .i64 qvzl,.int .i64 qvzh,.int .i64 ml,.int .i64 mh] rfl _ und_38 rfl info_38 ?_)
       | (refine wpStoreF rfl rfl 31 _ _ rfl (qb+1) 13 rfl #[.int .i64 ml,.int .i64 mh] rfl _ _ (iC [qt,qpxl,qpxh,qpyl,qpyh,qpzl,qpzh,qvxl,qvxh,qvyl,qvyh,qvzl,qvzh,ml,mh]) (HF12.out.get 1 rfl) rfl (by show 13+2≤15;omega) (one_all rfl) info_span ?_;intro w13 hk ho;have HF14:Hid (Fr w [] ([(qb,36,iC [mul,muh,rl,rh,ol,oh,sl,sh,pxl,pxh,pyl,pyh,pzl,pzh]),(qb+1,38,iC [qt,qpxl,qpxh,qpyl,qpyh,qpzl,qpzh,qvxl,qvxh,qvyl,qvyh,qvzl,qvzh,ml,mh]),(g3,46,#[.int .i64 time,.int .i64 step,.int .i64 tl,.int .i64 th,.int .i64 fl,.int .i64 fh,.int .i64 dxl,.int .i64 dxh,.int .i64 dyl,.int .i64 dyh,.int .i64 dzl,.int .i64 dzh,.slice A 0 c,.int .i64 dl,.int .i64 dh])] ++ lstE 58 u cur) w13):=Lib.hid (HF12.out.only 1 rfl ho hk);clear ho hk;have c15:w13.cell? ⟨qb+1,13,none⟩=some (.int .i64 ml):=(HF14.out.get 1 rfl).cell 13;obtain ⟨g16,hg16⟩:∃ g,w13.heap.size=g:=⟨_,rfl⟩;obtain ⟨w16,hw16⟩:∃ u,w13.alloc (.cells #[.int .i64 qt,.int .i64 qpxl,.int .i64 qpxh,.int .i64 qpyl,.int .i64 qpyh,.int .i64 qpzl,.int .i64 qpzh,.int .i64 qvxl,.int .i64 qvxh,.int .i64 qvyl,.int .i64 qvyh,.int .i64 qvzl,.int .i64 qvzh,.int .i64 ml,.int .i64 mh] 38)=u:=⟨_,rfl⟩;have HF17:=Lib.hid (frE hw16 (HF14.out.allocM hg16.symm 38 #[.int .i64 qt,.int .i64 qpxl,.int .i64 qpxh,.int .i64 qpyl,.int .i64 qpyh,.int .i64 qpzl,.int .i64 qpzh,.int .i64 qvxl,.int .i64 qvxh,.int .i64 qvyl,.int .i64 qvyh,.int .i64 qvzl,.int .i64 qvzh,.int .i64 ml,.int .i64 mh])))
       | (refine wpList_push (e:=38) (v:=.slice none 0 0) (cur:=#[]) (n:=0) (xs:=[]) (Y:=lstE 58 u cur) (N:=[(qb,36,iC [mul,muh,rl,rh,ol,oh,sl,sh,pxl,pxh,pyl,pyh,pzl,pzh]),(qb+1,38,iC [qt,qpxl,qpxh,qpyl,qpyh,qpzl,qpzh,qvxl,qvxh,qvyl,qvyh,qvzl,qvzh,ml,mh]),(g3,46,#[.int .i64 time,.int .i64 step,.int .i64 tl,.int .i64 th,.int .i64 fl,.int .i64 fh,.int .i64 dxl,.int .i64 dxh,.int .i64 dyl,.int .i64 dyh,.int .i64 dzl,.int .i64 dzh,.slice A 0 c,.int .i64 dl,.int .i64 dh]),(g16,38,iC [qt,qpxl,qpxh,qpyl,qpyh,qpzl,qpzh,qvxl,qvxh,qvyl,qvyh,qvzl,qvzh,ml,mh])]) rfl (.tmp 56) (.tmp 58) 39 rfl HF17.out (LstAt.nil 15) und_39 info_38b rfl (by decide) (by decide) (by decide) g16 1 #[.int .i64 qt,.int .i64 qpxl,.int .i64 qpxh,.int .i64 qpyl,.int .i64 qpyh,.int .i64 qpzl,.int .i64 qpzh,.int .i64 qvxl,.int .i64 qvxh,.int .i64 qvyl,.int .i64 qvyh,.int .i64 qvzl,.int .i64 qvzh,.int .i64 ml,.int .i64 mh] 38 rfl rfl (HF17.out.get 3 rfl) rfl rfl ?_;intro v' w' cur' h2 h3;have HP:=Lib.hid h3;clear h2 h3))
     clear c15 hw16 hg16
     rw [rounds_succ]
     go_wp2_with fail
     refine bodyPost_ret (results_tmp3 rfl _ _ _) rfl ?_
     exact HFIN.out _ _ _ _ _ _ (by rw [if_neg (by simp),if_neg (by simp),if_neg (by simp),if_neg (show ¬ ml≤0 from by have:=HE.out;omega)]) HLS.out (HP.out.sub ((List.sublist_append_right _ _).trans (List.sublist_append_right _ _)))
   ·have hb2:(e2 == 0)=false:=by simpa using he2
    have hb3:(e2 != 0)=true:=by simpa using he2
    have HE:=Lib.hid he2
    clear he2
    go_wp2_with (refine wpStoreF rfl rfl 31 _ _ rfl (qb+1) 13 rfl #[.int .i64 ml,.int .i64 mh] rfl _ _ (iC [qt,qpxl,qpxh,qpyl,qpyh,qpzl,qpzh,qvxl,qvxh,qvyl,qvyh,qvzl,qvzh,ml,mh]) (HF12.out.get 1 rfl) rfl (by show 13+2≤15;omega) (one_all rfl) info_span ?_;intro w13 hk ho;have HF14:Hid (Fr w [] ([(qb,36,iC [mul,muh,rl,rh,ol,oh,sl,sh,pxl,pxh,pyl,pyh,pzl,pzh]),(qb+1,38,iC [qt,qpxl,qpxh,qpyl,qpyh,qpzl,qpzh,qvxl,qvxh,qvyl,qvyh,qvzl,qvzh,ml,mh]),(g3,46,#[.int .i64 time,.int .i64 step,.int .i64 tl,.int .i64 th,.int .i64 fl,.int .i64 fh,.int .i64 dxl,.int .i64 dxh,.int .i64 dyl,.int .i64 dyh,.int .i64 dzl,.int .i64 dzh,.slice A 0 c,.int .i64 dl,.int .i64 dh])] ++ lstE 58 u cur) w13):=Lib.hid (HF12.out.only 1 rfl ho hk);clear ho hk)
    refine bodyPost_ret (results_tmp3 rfl _ _ _) rfl ?_
    exact HBAD.out _ _ (by rw [if_neg (by simp),if_neg (by simp),if_pos HE.out]) (HF14.out.sub (List.nil_sublist _))
  ·have hb2:(e1 == 0)=false:=by simpa using he1
   have hb3:(e1 != 0)=true:=by simpa using he1
   have HE:=Lib.hid he1
   clear he1
   go_wp2_with (refine wpStoreF rfl rfl 38 _ _ rfl (qb+1) 0 rfl #[.int .i64 qt,.int .i64 qpxl,.int .i64 qpxh,.int .i64 qpyl,.int .i64 qpyh,.int .i64 qpzl,.int .i64 qpzh,.int .i64 qvxl,.int .i64 qvxh,.int .i64 qvyl,.int .i64 qvyh,.int .i64 qvzl,.int .i64 qvzh,.int .i64 qml,.int .i64 qmh] rfl _ _ (iC [qt,qpxl,qpxh,qpyl,qpyh,qpzl,qpzh,qvxl,qvxh,qvyl,qvyh,qvzl,qvzh,qml,qmh]) (HF8.out.get 1 rfl) rfl (by show 0+15≤15;omega) (one_all rfl) info_38 ?_;intro w9 hk ho;have HF10:=Lib.hid (HF8.out.only 1 rfl ho hk);clear ho hk)
   refine bodyPost_ret (results_tmp3 rfl _ _ _) rfl ?_
   exact HBAD.out _ _ (by rw [if_neg (by simp),if_pos HE.out]) (HF10.out.sub (List.nil_sublist _))
 ·have hb2:(E != 0)=true:=by simpa using hE
  have HE:=Lib.hid hE
  clear hE
  go_wp2_with fail
  refine bodyPost_ret (results_tmp3 rfl _ _ _) rfl ?_
  exact HBAD.out _ _ (by rw [if_pos HE.out]) HF2.out.drop
end Go.Proofs.YtmkoegljnebdiaaGreat
