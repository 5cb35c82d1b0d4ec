/- What is proved: the texts Mi Mj, one behind the other; each says at its head what it proves, and under which conditions. -/
import Derived.Test.YtmkoegljnebdiaaGreatdPAborts13
namespace Go.Proofs.YtmkoegljnebdiaaGreat
open Go.RowKit Go.Shelf
set_option maxRecDepth 100000
set_option maxHeartbeats 16000000

def valA (n:Nat) (f:Nat→Value):Array Value:=((List.range n).map f).toArray
theorem valA_size (n:Nat) (f:Nat→Value):(valA n f).size=n:=by simp [valA]
theorem valA_get (n:Nat) (f:Nat→Value) (i:Nat) (hi:i<n):(valA n f)[i]?=some (f i):=by simp [valA,hi]
theorem valA_set (n:Nat) (f:Nat→Value) (i:Nat) (v:Value):(valA n f).setIfInBounds i v=valA n fun k=>if k=i then v else f k:=by
 apply Array.ext_getElem?
 intro j;rw [Array.getElem?_setIfInBounds];by_cases hj:j<n
 ·rw [valA_get _ _ _ hj];by_cases e:i=j
  ·subst e;rw [if_pos rfl,if_pos (by rw [valA_size];exact hj),valA_get _ _ _ hj,if_pos rfl]
  ·rw [if_neg e,valA_get _ _ _ hj,if_neg (fun h=>e h.symm)]
 ·rw [Array.getElem?_eq_none (xs:=valA n fun k=>if k=i then v else f k) (by rw [valA_size];omega)]
  split
  ·rw [if_neg (by rw [valA_size];omega)]
  ·exact Array.getElem?_eq_none (by rw [valA_size];omega)
theorem made_valA (z:Value) (hz:z.cells=#[z]) (n:Nat):madeCells z.cells n=valA n fun _=>z:=by
 rw [hz];apply Array.ext_getElem?
 intro i;by_cases hi:i<n
 ·rw [valA_get _ _ _ hi];unfold madeCells;simp only [Array.getElem?_map];rw [Array.getElem?_eq_getElem (by simpa using hi)]
  simp [Nat.mod_one]
 ·rw [Array.getElem?_eq_none (by rw [size_madeCells];omega),Array.getElem?_eq_none (by rw [valA_size];omega)]
theorem make_one {t e:TypeId} {z:Value} {b:Nat} (ht:Tryz.prog.underlying t=some (.slice e)) (hi:(Tryz.prog.info? e).map (fun i=>(i.zero,i.size,i.bytes))=some (some z,1,b)) (hz:z.cells=#[z]) (hb:b≤1024) (n:Nat) (hn:n≤4096) (w:World) :
  (Instr.makeSlice t (.int .i64 (n:Int)) (.int .i64 (n:Int))).run Tryz.prog w=.ok (.slice (some ⟨w.heap.size,0,none⟩) n n) (w.alloc (.cells (valA n fun _=>z) e)):=by
 obtain ⟨i,h1,h2,h3,h4⟩:=info_parts hi;have h5:i.bytes * n≤1024 * 4096:=Nat.mul_le_mul (by omega) hn
 have hm:=run_makeSlice (P:=Tryz.prog) (w:=w) t e i z ht h1 h2 .i64 .i64 (n:Int) (n:Int) (by omega) (by omega) (by rw [h3];simp only [Int.toNat_natCast];omega) (by rw [← Int.natCast_mul];omega) (by omega)
 rw [hm,h3,← made_valA z hz];simp
theorem makeInts (n:Nat) (hn:n≤4096) (w:World):(Instr.makeSlice 77 (.int .i64 (n:Int)) (.int .i64 (n:Int))).run Tryz.prog w=.ok (.slice (some ⟨w.heap.size,0,none⟩) n n) (w.alloc (.cells (valA n fun _=>.int .i64 0) 3)) :=
 make_one (b:=8) (by kernel_rfl) (by kernel_rfl) rfl (by omega) n hn w
theorem makeBools (n:Nat) (hn:n≤4096) (w:World):(Instr.makeSlice 134 (.int .i64 (n:Int)) (.int .i64 (n:Int))).run Tryz.prog w=.ok (.slice (some ⟨w.heap.size,0,none⟩) n n) (w.alloc (.cells (valA n fun _=>.bool false) 4)) :=
 make_one (b:=1) (by kernel_rfl) (by kernel_rfl) rfl (by omega) n hn w
theorem index103_any (g off n c:Nat) (b:Nat→Bool) (hn:n≤4096) (w:World) (hs:∀ k,k<n→w.cell? ⟨g,off+k,none⟩=some (.bool (b k))) :
  Calls Tryz.prog 103 #[.slice (some ⟨g,off,none⟩) n c,.bool false] w fun e w'=>(∃ r:Int,e=.returned (.int .i64 r)∧(r<0→∀ k,k<n→b k=true))∧Below w.heap.size w w':=by
 refine pQ fun PQ hPQ=>?_
 have HFIN:Hid (∀ (r:Int),(r<0→∀ k,k<n→b k=true)→PQ (.returned (.int .i64 r)) w):=hZ fun r h=>by rw [← hPQ];exact ⟨⟨r,rfl,h⟩,Below.refl _ _⟩
 have HS:=hZ hs;clear hPQ hs;go_enter Tryz.func103,Tryz.ntmps103;go_wp2_with fail
 go_loopw [8] (fun p wr=>∃ k:Nat,k≤n∧p=.int .i64 (k:Int)∧Hid (wr=w∧∀ j,j<k→b j=true)) (fun p _=>n - (intOf p).toNat)
 case atStart=>exact ⟨0,Nat.zero_le _,rfl,hZ ⟨rfl,fun j h=>absurd h (by omega)⟩⟩
 case round =>
  obtain ⟨k,hk,rfl,hs⟩:=hrel;obtain rfl:wr=w:=hs.out.1;by_cases hlt:k<n
  ·have hki:(k:Int)<(n:Int):=by omega
   have h0k:(0:Int)≤(k:Int):=by omega
   have hce:=HS.out k hlt;have HLT:=hZ hlt;obtain ⟨bk,hb⟩:=eX (b k);rw [hb] at hce;have HB:=hZ hb;clear hb;cases bk with
   | false =>
    go_wp2_with fail
    exact HFIN.out _ (fun h=>absurd h (by omega))
   | true =>
    have HH:Hid (∀ j,j<k+1→b j=true):=hZ fun j hj=>by
     rcases Nat.lt_or_ge j k with h | h
     ·exact hs.out.2 j h
     ·rw [show j=k by omega];exact HB.out
    go_wp2_with fail
    go_roundw
    case rel=>exact ⟨k+1,by have:=HLT.out;omega,by go_num,hZ ⟨by trivial,HH.out⟩⟩
    case measure=>simp [intOf];omega
  ·obtain rfl:k=n:=by omega
   have hneg:¬ (k:Int)<(k:Int):=by omega
   go_wp2_with fail
   exact HFIN.out _ (fun _=>hs.out.2)
theorem cont47_any (g off n c:Nat) (b:Nat→Bool) (hn:n≤4096) (w:World) (hs:∀ k,k<n→w.cell? ⟨g,off+k,none⟩=some (.bool (b k))) :
  Calls Tryz.prog 47 #[.slice (some ⟨g,off,none⟩) n c,.bool false] w fun e w'=>(∃ r,e=.returned (.bool r)∧(r=false→∀ k,k<n→b k=true))∧Below w.heap.size w w':=by
 have H1:=hZ (index103_any g off n c b hn w hs);refine pQ fun PQ hPQ=>?_
 have HFIN:Hid (∀ w' r,(r=false→∀ k,k<n→b k=true)→Below w.heap.size w w'→PQ (.returned (.bool r)) w'):=hZ fun w' b h hb=>by rw [← hPQ];exact ⟨⟨b,rfl,h⟩,hb⟩
 clear hPQ hs;go_enter Tryz.func47,Tryz.ntmps47;go_wp2_with fail
 refine H1.out.mono ?_
 rintro e w2 ⟨⟨r,rfl,hr⟩,hw⟩;have HR:=hZ hr;have HW:=hZ hw;clear hr hw;by_cases h0:0≤r
 ·go_wp2_with fail
  exact HFIN.out _ _ (fun h=>by cases h) HW.out
 ·go_wp2_with fail
  exact HFIN.out _ _ (fun _=>HR.out (by omega)) HW.out
theorem orBit_all:((List.range 16).all fun s=>(List.range 4).all fun m=>decide (bits .or .i64 (s:Int) (IntKind.i64.wrap (2 ^ m))=((s ||| (1 <<< m):Nat):Int)))=true:=by kernel_rfl
theorem orBit_one {s m:Nat} (hs:s<16) (hm:m<4):bits .or .i64 (s:Int) (IntKind.i64.wrap (2 ^ m))=((s ||| (1 <<< m):Nat):Int):=by
 have h:=List.all_eq_true.1 orBit_all s (List.mem_range.2 hs);exact of_decide_eq_true (List.all_eq_true.1 h m (List.mem_range.2 hm))

theorem w64_succ {j n:Nat} (h:j<n) (hn:n≤4096):wrap64 ((j:Int)+1)=((j+1:Nat):Int):=by rw [w64_in (by omega) (by omega)];omega
theorem wi_succ {j n:Nat} (h:j<n) (hn:n≤4096):IntKind.i64.wrap ((j:Int)+1)=((j+1:Nat):Int):=by rw [IntWalk.i64_in _ (by omega)];omega
structure ModesAt (w:World) (A:Option Addr) (n:Nat) (v:Nat→ModeD):Prop where
 el:ElAt w w.heap.size A n 14 (fun k=>modeA (v k))
 arcs:∀ i,i<n→ArcsAt w w.heap.size (v i).A (v i).n (v i).v
theorem ModesAt.to {w w':World} {A:Option Addr} {n:Nat} {v:Nat→ModeD} (h:ModesAt w A n v) (hb:Below w.heap.size w w'):ModesAt w' A n v :=
 ⟨(h.el.to hb).grow hb.size (Nat.le_refl _),fun i hi=>(h.arcs i hi).to hb⟩
def MaskI (p:PlanetD) (v:Nat→ModeD) (t:Nat→TubeD) (F:Int) (n i:Nat) (M:Nat→Nat):Prop :=
 ∀ k,k<n→M k<2 ^ i∧∀ x,(M k).testBit x=true→bits .andNot .i64 F (v x).failures=0∧Sure p (v x) (stOf (t k))
theorem MaskI.zero {p:PlanetD} {v:Nat→ModeD} {t:Nat→TubeD} {F:Int} {n:Nat}:MaskI p v t F n 0 (fun _=>0):=fun k _=>⟨by show (0:Nat)<1;omega,fun x h=>by simp at h⟩
theorem MaskI.grow {p:PlanetD} {v:Nat→ModeD} {t:Nat→TubeD} {F:Int} {n i:Nat} {M:Nat→Nat} (h:MaskI p v t F n i M):MaskI p v t F n (i+1) M:=fun k hk =>
 ⟨Nat.lt_of_lt_of_le (h k hk).1 (Nat.pow_le_pow_right (by omega) (by omega)),(h k hk).2⟩
theorem MaskI.set {p:PlanetD} {v:Nat→ModeD} {t:Nat→TubeD} {F:Int} {n i j:Nat} {M:Nat→Nat} (h:MaskI p v t F n (i+1) M) (h1:bits .andNot .i64 F (v i).failures=0) (h2:Sure p (v i) (stOf (t j))) :
  MaskI p v t F n (i+1) (fun k=>if k=j then M j ||| (1 <<< i) else M k):=fun k hk=>by
 by_cases e:k=j
 ·subst e;simp only [if_true];refine ⟨Nat.or_lt_two_pow (h k hk).1 (by rw [Nat.one_shiftLeft];exact Nat.pow_lt_pow_right (by omega) (by omega)),fun x hx=>?_⟩
  rw [Nat.testBit_or] at hx;rcases (Bool.or_eq_true _ _).mp hx with hx | hx
  ·exact (h k hk).2 x hx
  ·rw [Nat.one_shiftLeft,Nat.testBit_two_pow] at hx;obtain rfl:=of_decide_eq_true hx;exact ⟨h1,h2⟩
 ·simp only [if_neg e];exact h k hk
def ReadyPost (p:PlanetD) (nm:Nat) (v:Nat→ModeD) (n:Nat) (t:Nat→TubeD) (F:Int) (w:World) (e:Ending) (w':World):Prop :=
 (e=.returned (.tuple #[.slice none 0 0,.int .i64 2])∧Below w.heap.size w w') ∨
 ∃ g M,e=.returned (.tuple #[.slice (some ⟨g,0,none⟩) n n,.int .i64 0])∧FlownTo t n∧planetB p=true∧(∀ i,i<nm→ModeOk (v i))∧MaskI p v t F n nm M∧Fr w [] [(g,3,valA n fun k=>.int .i64 (M k:Nat))] w'
theorem ready_any (p:PlanetD) (A:Option Addr) (nm c:Nat) (v:Nat→ModeD) (gt n cap:Nat) (ct:Array Value) (t:Nat→TubeD) (F:Int) (wp:WdP p) (wv:∀ i,WdM (v i)) (wt:∀ i,i<n→I64W (stOf (t i))) (hnm:nm≤3) (w:World) (hM:ModesAt w A nm v) (hT:TbAt w gt n ct t) (_:n≤cap) (_:cap≤maxLen) :
  Calls Tryz.prog 14 #[planetV p,.slice none 0 0,.slice A nm c,.slice (some ⟨gt,0,none⟩) n cap,.int .i64 F] w (ReadyPost p nm v n t F w):=by
 have HEV:=hZ fun w1 (hb:Below w.heap.size w w1)=>every_mode 41 #[] A nm c v (fun i=>ModeOk (v i)) (fun _=>True) (fun _ _=>rfl) w1 (hM.to hb).el fun k hk w2 h2=>ready1_any (v k) (wv k) w2 (((hM.to hb).to h2).arcs k hk);have HCP:=hZ (fun w=>checkPlanet_any p w);have HFL:=hZ fun w1 (hb:Below w.heap.size w w1)=>flown_any gt n cap ct t w1 (hT.to hb);have HFI:=hZ fun i j (hi:i<nm) (hj:j<n) w1 (hb:Below w.heap.size w w1)=>fits_any p (v i) (t j) wp (wv i) (wt j hj) w1 ((hM.to hb).arcs i hi);have HM:=hZ hM;have HT:=hZ hT;have hn:=hT.le;refine pQ fun PQ hPQ=>?_
 have HERR:Hid (∀ w',Fr w [] [] w'→PQ (.returned (.tuple #[.slice none 0 0,.int .i64 2])) w'):=hZ fun w' h=>by rw [← hPQ];exact .inl ⟨rfl,h.toBelow⟩
 have HOK:Hid (∀ g M w',FlownTo t n→planetB p=true→(∀ i,i<nm→ModeOk (v i))→MaskI p v t F n nm M→Fr w [] [(g,3,valA n fun k=>.int .i64 (M k:Nat))] w'→PQ (.returned (.tuple #[.slice (some ⟨g,0,none⟩) n n,.int .i64 0])) w') :=
  hZ fun g M w' h1 h2 h3 h4 h5=>by rw [← hPQ];exact .inr ⟨g,M,rfl,h1,h2,h3,h4,h5⟩
 obtain ⟨PP,hPP⟩:=eX p;have HPP:=hZ hPP;obtain ⟨bp,hbp⟩:=eX (planetB p);have HBP:=hZ hbp;rw [hbp] at HCP;rw [hPP] at HCP HFI ⊢;obtain ⟨⟨mul,muh⟩,⟨rl,rh⟩,⟨ol,oh⟩,⟨sl,sh⟩,⟨⟨pxl,pxh⟩,⟨pyl,pyh⟩,⟨pzl,pzh⟩⟩⟩:=PP;unfold planetV at HCP HFI ⊢;dsimp only at HCP HFI ⊢;clear hPQ hPP hbp hM hT wp wv wt;obtain ⟨qb,W0,hqb,hW0,HF0⟩:=fM (Fr.start w) [(#[mul,muh,rl,rh,ol,oh,sl,sh,pxl,pxh,pyl,pyh,pzl,pzh],36)];go_enter Tryz.func14,Tryz.ntmps14;go_upto_region 3 with (fail);clear hW0 hqb;go_wp2_with fail
 refine (HEV.out _ HF0.out.toBelow).mono ?_
 rintro e we ⟨⟨b,rfl,hb,-⟩,hw⟩;have HB:=hZ hb;have HF1:=hZ (HF0.out.below hw);clear hw hb;go_wp2_with (refine lF (gN HF1 0) #[mul,muh,rl,rh,ol,oh,sl,sh,pxl,pxh,pyl,pyh,pzl,pzh] u_36 i_36 ?_)
 cases bp with
 | false =>
  refine mB HF1.out (HCP.out _) fun w2 HF3=>?_;go_wp2_with fail
  exact HERR.out _ HF3.out.drop
 | true =>
  refine mB HF1.out (HCP.out _) fun w2 HF3=>?_;go_wp2_with fail
  refine mB HF3.out (airs_none _) fun w4 HF5=>?_;cases b with
  | false =>
   go_wp2_with fail
   exact HERR.out _ HF5.out.drop
  | true =>
   have HOKM:=hZ (HB.out rfl);go_wp2_with fail
   refine (HFL.out _ HF5.out.toBelow).mono ?_
   rintro e wf ⟨⟨bf,rfl,hbf⟩,hw⟩;have HBF:=hZ hbf;have HF6:=hZ (HF5.out.below hw);clear hw hbf;cases bf with
   | false =>
    go_wp2_with fail
    exact HERR.out _ HF6.out.drop
   | true =>
    by_cases hF0:F<0
    ·skip
     go_wp2_with fail
     exact HERR.out _ HF6.out.drop
    by_cases hF1:65535<F
    ·skip
     go_wp2_with fail
     exact HERR.out _ HF6.out.drop
    have HFLN:=hZ (HBF.out.1 rfl);obtain ⟨g7,hg7⟩:=eX wf.heap.size;obtain ⟨w7,hw7⟩:∃ u,wf.alloc (.cells (valA n fun _=>.int .i64 0) 3)=u:=⟨_,rfl⟩;have kw7:=makeInts n hn wf;rw [hg7,hw7] at kw7;have HF8:=fE hw7 (HF6.out.alloc hg7.symm 3 (valA n fun _=>.int .i64 0));go_wp2_with fail
    clear kw7 hw7 hg7;have HR0:Hid (∃ M,Fr w [] [(qb,36,iC [mul,muh,rl,rh,ol,oh,sl,sh,pxl,pxh,pyl,pyh,pzl,pzh]),(g7,3,valA n fun k=>.int .i64 (M k:Nat))] w7∧MaskI p v t F n 0 M):=hZ ⟨fun _=>0,HF8.out,MaskI.zero⟩;go_loopw [62] (fun iv wr=>∃ i:Nat,i≤nm∧iv=.int .i64 i∧Hid (∃ M,Fr w [] [(qb,36,iC [mul,muh,rl,rh,ol,oh,sl,sh,pxl,pxh,pyl,pyh,pzl,pzh]),(g7,3,valA n fun k=>.int .i64 (M k:Nat))] wr∧MaskI p v t F n i M)) (fun iv _=>nm - (intOf iv).toNat)
    case atStart=>exact ⟨0,Nat.zero_le _,rfl,HR0⟩
    case round =>
     obtain ⟨wo,rfl⟩:∃ wo:World,wo=wr:=⟨_,rfl⟩;obtain ⟨i,hi,rfl,hs⟩:=hrel;obtain ⟨M,hfr,hmi⟩:=hs.out;have HFO:Hid (Fr w [] [(qb,36,iC [mul,muh,rl,rh,ol,oh,sl,sh,pxl,pxh,pyl,pyh,pzl,pzh]),(g7,3,valA n fun k=>.int .i64 (M k:Nat))] wo):=hZ hfr;have HMI:=hZ hmi;clear HR0 hs hfr hmi HF8;have h0i:(0:Int)≤(i:Int):=by omega
     by_cases hlt:i<nm
     rotate_left
     ·obtain rfl:nm=i:=by omega
      have hneg:¬ (nm:Int)<(nm:Int):=by omega
      go_wp2_with fail
      exact HOK.out _ M _ HFLN.out HBP.out HOKM.out HMI.out (HFO.out.sub (List.sublist_cons_self _ _))
     ·have hni:(i:Int)<(nm:Int):=by omega
      have HLT:=hZ hlt;obtain ⟨gm,off,hA,hgw,-,hcl⟩:=HM.out.el.2 (by omega)
      have HSC:Hid (∀ w1,Below w.heap.size w w1→∀ j u,(modeA (v i))[j]?=some u→w1.cell? ⟨gm,off+i * 14+j,none⟩=some u):=hZ fun w1 hb j u hu=>(hb.cell (p:=⟨gm,off+i * 14+j,none⟩) hgw).trans (hcl i hlt j u hu);subst hA;have HFII:=hZ fun j hj w1 hb=>HFI.out i j hlt hj w1 hb;have HMST:Hid (∀ M j,MaskI p v t F n (i+1) M→bits .andNot .i64 F (v i).failures=0→Sure p (v i) (stOf (t j))→MaskI p v t F n (i+1) (fun k=>if k=j then M j ||| (1 <<< i) else M k)):=hZ fun M j h h1 h2=>h.set h1 h2
      obtain ⟨z,hz⟩:=eX (v i);have HZ:=hZ hz;rw [hz] at HSC HFII HMST;have HSV:Hid (∀ j,Sure p (v i) (stOf (t j)) ↔ Sure p z (stOf (t j))):=hZ fun j=>by rw [hz]
      obtain ⟨⟨hl,hh⟩,⟨pl,ph⟩,⟨ql,qh⟩,mf,mt,ms,md,mn,mv,mA,mc,mo,mr,mu⟩:=z;unfold modeA at HSC;unfold modeV modeA at HFII;dsimp only at HSC HFII HMST;clear hz hgw hcl;obtain ⟨q,hq⟩:=eX (bits .andNot .i64 F ms);have HQ:=hZ hq;obtain ⟨g9,w9,hg9,hw9,HF10⟩:=fA HFO.out #[(0:Int),(0:Int),(0:Int),(0:Int),(0:Int),(0:Int),(0:Int),(0:Int),(0:Int),(0:Int),.slice none 0 0,(0:Int),(0:Int),(0:Int)] 89;by_cases hq0:q=0
      rotate_left
      ·have hqn:(q != 0)=true:=by simpa using hq0
       go_wp2_with (first
         | (refine wpLoadK rfl 89 _ rfl gm (off+i * 14) rfl #[hl,hh,pl,ph,ql,qh,mf,mt,ms,md,.slice mA mn mc,mo,mr,mu] _ (HSC.out _ HFO.out.toBelow) u_89 rfl i_89 ?_)
         | (refine sW 2 HF10.out i_89 fun w11 HF12=>?_;clear hw9 hg9;have c13:=cA (gN HF12 2) 8))
       clear c13;go_roundw
       case rel=>exact ⟨i+1,by have:=HLT.out;omega,by go_num,hZ ⟨M,HF12.out.sub (List.sublist_append_left [_,_] _),HMI.out.grow⟩⟩
       case measure=>simp [intOf];omega
      ·subst hq0;go_wp2_with (first
         | (refine wpLoadK rfl 89 _ rfl gm (off+i * 14) rfl #[hl,hh,pl,ph,ql,qh,mf,mt,ms,md,.slice mA mn mc,mo,mr,mu] _ (HSC.out _ HFO.out.toBelow) u_89 rfl i_89 ?_)
         | (refine sW 2 HF10.out i_89 fun w11 HF12=>?_;clear hw9 hg9;have c13:=cA (gN HF12 2) 8;obtain ⟨g14,hg14⟩:=eX w11.heap.size;obtain ⟨w14,hw14⟩:∃ u,w11.alloc (.cells (valA n fun _=>.bool false) 4)=u:=⟨_,rfl⟩;have kw14:=makeBools n hn w11;rw [hg14,hw14] at kw14;have HF15:=fE hw14 (HF12.out.alloc hg14.symm 4 (valA n fun _=>.bool false))))
       clear c13 kw14 hw14 hg14;have HR1:Hid (∃ b:Nat→Bool,Fr w [] [(qb,36,iC [mul,muh,rl,rh,ol,oh,sl,sh,pxl,pxh,pyl,pyh,pzl,pzh]),(g7,3,valA n fun k=>.int .i64 (M k:Nat)),(g9,89,#[hl,hh,pl,ph,ql,qh,mf,mt,ms,md,.slice mA mn mc,mo,mr,mu]),(g14,4,valA n fun k=>.bool (b k))] w14∧∀ x,x<0→b x=true→Sure p (v i) (stOf (t x))):=hZ ⟨fun _=>false,HF15.out,fun x hx=>absurd hx (by omega)⟩
       go_loopw [77] (fun jv wr=>∃ j:Nat,j≤n∧jv=.int .i64 j∧Hid (∃ b:Nat→Bool,Fr w [] [(qb,36,iC [mul,muh,rl,rh,ol,oh,sl,sh,pxl,pxh,pyl,pyh,pzl,pzh]),(g7,3,valA n fun k=>.int .i64 (M k:Nat)),(g9,89,#[hl,hh,pl,ph,ql,qh,mf,mt,ms,md,.slice mA mn mc,mo,mr,mu]),(g14,4,valA n fun k=>.bool (b k))] wr∧∀ x,x<j→b x=true→Sure p (v i) (stOf (t x)))) (fun jv _=>n - (intOf jv).toNat)
       case atStart=>exact ⟨0,Nat.zero_le _,rfl,HR1⟩
       case round =>
        obtain ⟨wa,rfl⟩:∃ wa:World,wa=wr:=⟨_,rfl⟩;obtain ⟨j,hj,rfl,hs⟩:=hrel;obtain ⟨b,hfr,hbs⟩:=hs.out;have HFA:Hid (Fr w [] [(qb,36,iC [mul,muh,rl,rh,ol,oh,sl,sh,pxl,pxh,pyl,pyh,pzl,pzh]),(g7,3,valA n fun k=>.int .i64 (M k:Nat)),(g9,89,#[hl,hh,pl,ph,ql,qh,mf,mt,ms,md,.slice mA mn mc,mo,mr,mu]),(g14,4,valA n fun k=>.bool (b k))] wa):=hZ hfr;have HBS:=hZ hbs;clear HR1 hs hfr hbs HF15;have h0j:(0:Int)≤(j:Int):=by omega
        by_cases hjt:j<n
        ·have hnj:(j:Int)<(n:Int):=by omega
         have HSEG:=hZ (HT.out.seg j hjt);have HFJ:=hZ fun w1 hb=>HFII.out j hjt w1 hb;obtain ⟨y,hy⟩:=eX (t j);have HY:=hZ hy;rw [hy] at HSEG HFJ;have HSY:Hid (Sure p (v i) (stOf (t j)) ↔ Sure ⟨⟨mul,muh⟩,⟨rl,rh⟩,⟨ol,oh⟩,⟨sl,sh⟩,⟨⟨pxl,pxh⟩,⟨pyl,pyh⟩,⟨pzl,pzh⟩⟩⟩ ⟨⟨hl,hh⟩,⟨pl,ph⟩,⟨ql,qh⟩,mf,mt,ms,md,mn,mv,mA,mc,mo,mr,mu⟩ (stOf y)):=hZ (by rw [hy,HZ.out,HPP.out])
         obtain ⟨tf,tg,⟨⟨axl,axh⟩,⟨ayl,ayh⟩,⟨azl,azh⟩⟩,⟨⟨bxl,bxh⟩,⟨byl,byh⟩,⟨bzl,bzh⟩⟩,⟨ml,mh⟩⟩:=y;unfold tbA tubeV at HSEG;unfold tubeV at HFJ;dsimp only [Value.cells] at HSEG;dsimp only at HFJ;clear hy;have HJT:=hZ hjt;obtain ⟨g16,w16,hg16,hw16,HF17⟩:=fA HFA.out #[(0:Int),(0:Int),(0:Int),(0:Int),(0:Int),(0:Int),(0:Int),(0:Int),(0:Int),(0:Int),(0:Int),(0:Int),(0:Int),(0:Int),(0:Int),(0:Int)] 58;go_wp2_with (first
           | (refine wpLoadF rfl 58 _ rfl gt (j * 16) rfl _ _ (HT.out.to HFA.out.toBelow).bk #[tf,tg,axl,axh,ayl,ayh,azl,azh,bxl,bxh,byl,byh,bzl,bzh,ml,mh] (HSEG.out) _ u_58 rfl i_58 ?_)
           | (refine lF (gN HF19 0) #[mul,muh,rl,rh,ol,oh,sl,sh,pxl,pxh,pyl,pyh,pzl,pzh] u_36 i_36 ?_)
           | (refine lF (gN HF19 2) #[hl,hh,pl,ph,ql,qh,mf,mt,ms,md,.slice mA mn mc,mo,mr,mu] u_89 i_89 ?_)
           | (refine lF (gN HF19 4) #[tf,tg,axl,axh,ayl,ayh,azl,azh,bxl,bxh,byl,byh,bzl,bzh,ml,mh] u_58 i_58 ?_)
           | (refine sW 4 HF17.out i_58 fun w18 HF19=>?_;clear hw16 hg16))
         refine (HFJ.out _ HF19.out.toBelow).mono ?_
         rintro e wz ⟨⟨r,rfl,hr⟩,hw⟩;have HRR:=hZ hr;have HF20:=hZ (HF19.out.below hw);clear hw hr;have hsz:j<(valA n fun k=>.bool (b k)).size:=by rw [valA_size];exact hjt
         go_wp2_with (refine wpStoreCell rfl rfl 4 _ _ rfl g14 j rfl (.bool r) rfl _ _ (HF20.out.get 3 rfl) hsz rfl (by kernel_rfl) ?_;intro wk hk ho;rw [valA_set] at hk;have HFK:=fN (HF20.out.only 3 rfl ho hk);clear ho hk)
         go_roundw
         case rel =>
          refine ⟨j+1,by have:=HJT.out;omega,by go_num,hZ ⟨fun k=>if k=j then r else b k,?_,fun x hx hb=>?_⟩⟩
          ·have h:=HFK.out.sub (List.sublist_append_left [_,_,_,_] _);rw [show (valA n fun k=>Value.bool (if k=j then r else b k))=valA n fun k=>if k=j then .bool r else .bool (b k) from by congr 1;funext k;split <;> rfl]
           exact h
          ·by_cases e:x=j
           ·subst e;simp only [if_true] at hb;exact HSY.out.2 (HRR.out hb)
           ·simp only [if_neg e] at hb;exact HBS.out x (by omega) hb
         case measure=>simp [intOf];omega
        ·obtain rfl:n=j:=by omega
         have hneg:¬ (n:Int)<(n:Int):=by omega
         go_wp2_with fail
         have HR2:Hid (∃ M:Nat→Nat,Fr w [] [(qb,36,iC [mul,muh,rl,rh,ol,oh,sl,sh,pxl,pxh,pyl,pyh,pzl,pzh]),(g7,3,valA n fun k=>.int .i64 (M k:Nat)),(g9,89,#[hl,hh,pl,ph,ql,qh,mf,mt,ms,md,.slice mA mn mc,mo,mr,mu]),(g14,4,valA n fun k=>.bool (b k))] wa∧MaskI p v t F n (i+1) M):=hZ ⟨M,HFA.out,HMI.out.grow⟩;go_loopw [93] (fun kv wr=>∃ k:Nat,k≤n∧kv=.int .i64 k∧Hid (∃ M:Nat→Nat,Fr w [] [(qb,36,iC [mul,muh,rl,rh,ol,oh,sl,sh,pxl,pxh,pyl,pyh,pzl,pzh]),(g7,3,valA n fun k=>.int .i64 (M k:Nat)),(g9,89,#[hl,hh,pl,ph,ql,qh,mf,mt,ms,md,.slice mA mn mc,mo,mr,mu]),(g14,4,valA n fun k=>.bool (b k))] wr∧MaskI p v t F n (i+1) M)) (fun kv _=>n - (intOf kv).toNat)
         case atStart=>exact ⟨0,Nat.zero_le _,rfl,HR2⟩
         case round =>
          obtain ⟨wb,rfl⟩:∃ wb:World,wb=wr:=⟨_,rfl⟩;obtain ⟨j,hj,rfl,hs⟩:=hrel;obtain ⟨M,hfr,hmi⟩:=hs.out;have HFB:Hid (Fr w [] [(qb,36,iC [mul,muh,rl,rh,ol,oh,sl,sh,pxl,pxh,pyl,pyh,pzl,pzh]),(g7,3,valA n fun k=>.int .i64 (M k:Nat)),(g9,89,#[hl,hh,pl,ph,ql,qh,mf,mt,ms,md,.slice mA mn mc,mo,mr,mu]),(g14,4,valA n fun k=>.bool (b k))] wb):=hZ hfr;have HMI:=hZ hmi;clear HR2 hs hfr hmi HFA;have h0j:(0:Int)≤(j:Int):=by omega
          by_cases hjt:j<n
          rotate_left
          ·obtain rfl:n=j:=by omega
           have hneg:¬ (n:Int)<(n:Int):=by omega
           go_wp2_with fail
           go_roundw
           case rel=>exact ⟨i+1,by have:=HLT.out;omega,by go_num,hZ ⟨M,HFB.out.sub (List.sublist_append_left [_,_] _),HMI.out⟩⟩
           case measure=>simp [intOf];omega
          ·have hnj:(j:Int)<(n:Int):=by omega
           have HSEG:=hZ (HT.out.seg j hjt);have HFJ:=hZ fun w1 hb=>HFII.out j hjt w1 hb;obtain ⟨y,hy⟩:=eX (t j);have HY:=hZ hy;rw [hy] at HSEG HFJ;have HSY:Hid (Sure p (v i) (stOf (t j)) ↔ Sure ⟨⟨mul,muh⟩,⟨rl,rh⟩,⟨ol,oh⟩,⟨sl,sh⟩,⟨⟨pxl,pxh⟩,⟨pyl,pyh⟩,⟨pzl,pzh⟩⟩⟩ ⟨⟨hl,hh⟩,⟨pl,ph⟩,⟨ql,qh⟩,mf,mt,ms,md,mn,mv,mA,mc,mo,mr,mu⟩ (stOf y)):=hZ (by rw [hy,HZ.out,HPP.out])
           obtain ⟨tf,tg,⟨⟨axl,axh⟩,⟨ayl,ayh⟩,⟨azl,azh⟩⟩,⟨⟨bxl,bxh⟩,⟨byl,byh⟩,⟨bzl,bzh⟩⟩,⟨ml,mh⟩⟩:=y;unfold tbA tubeV at HSEG;unfold tubeV at HFJ;dsimp only [Value.cells] at HSEG;dsimp only at HFJ;clear hy;have HJT:=hZ hjt;obtain ⟨g16,w16,hg16,hw16,HF17⟩:=fA HFB.out #[(0:Int),(0:Int),(0:Int),(0:Int),(0:Int),(0:Int),(0:Int),(0:Int),(0:Int),(0:Int),(0:Int),(0:Int),(0:Int),(0:Int),(0:Int),(0:Int)] 58;have hj1:=w64_succ hjt hn;have hj1':=wi_succ hjt hn;go_wp2_with (first
             | (refine wpLoadF rfl 58 _ rfl gt (j * 16) rfl _ _ (HT.out.to HFB.out.toBelow).bk #[tf,tg,axl,axh,ayl,ayh,azl,azh,bxl,bxh,byl,byh,bzl,bzh,ml,mh] (HSEG.out) _ u_58 rfl i_58 ?_)
             | (refine sW 4 HF17.out i_58 fun w18 HF19=>?_;clear hw16 hg16))
           clear hj1 hj1';obtain ⟨wB,hwB⟩:=eX w18;clear hwB;have HR3:Hid (Fr w [] [(qb,36,iC [mul,muh,rl,rh,ol,oh,sl,sh,pxl,pxh,pyl,pyh,pzl,pzh]),(g7,3,valA n fun k=>.int .i64 (M k:Nat)),(g9,89,#[hl,hh,pl,ph,ql,qh,mf,mt,ms,md,.slice mA mn mc,mo,mr,mu]),(g14,4,valA n fun k=>.bool (b k)),(g16,58,iC [tf,tg,axl,axh,ayl,ayh,azl,azh,bxl,bxh,byl,byh,bzl,bzh,ml,mh])] w18):=HF19;go_loopw [21] (fun lv wr=>∃ l:Nat,j+1≤l∧l≤n∧lv=.int .i64 l∧Hid (Fr w [] [(qb,36,iC [mul,muh,rl,rh,ol,oh,sl,sh,pxl,pxh,pyl,pyh,pzl,pzh]),(g7,3,valA n fun k=>.int .i64 (M k:Nat)),(g9,89,#[hl,hh,pl,ph,ql,qh,mf,mt,ms,md,.slice mA mn mc,mo,mr,mu]),(g14,4,valA n fun k=>.bool (b k)),(g16,58,iC [tf,tg,axl,axh,ayl,ayh,azl,azh,bxl,bxh,byl,byh,bzl,bzh,ml,mh])] wr)) (fun lv _=>n - (intOf lv).toNat)
           case atStart=>exact ⟨j+1,by omega,by omega,rfl,HR3⟩
           case round =>
            obtain ⟨wc,rfl⟩:∃ wc:World,wc=wr:=⟨_,rfl⟩;obtain ⟨l,hl1,hl2,rfl,hs⟩:=hrel;have HFC:Hid (Fr w [] [(qb,36,iC [mul,muh,rl,rh,ol,oh,sl,sh,pxl,pxh,pyl,pyh,pzl,pzh]),(g7,3,valA n fun k=>.int .i64 (M k:Nat)),(g9,89,#[hl,hh,pl,ph,ql,qh,mf,mt,ms,md,.slice mA mn mc,mo,mr,mu]),(g14,4,valA n fun k=>.bool (b k)),(g16,58,iC [tf,tg,axl,axh,ayl,ayh,azl,azh,bxl,bxh,byl,byh,bzl,bzh,ml,mh])] wc):=hs;clear HR3 hs HF19;have h0l:(0:Int)≤(l:Int):=by omega
            by_cases hlt2:l<n
            rotate_left
            ·obtain rfl:n=l:=by omega
             have hneg:¬ (n:Int)<(n:Int):=by omega
             go_upto_region 21 with (fail);refine wr0 (rM [(0,.int .i64 (n:Int)),(1,.slice (some ⟨gt,0,none⟩) n cap),(2,.int .i64 (n:Int)),(3,.bool false),(4,.bool false),(11,undef),(24,.bool false)]) HFC.out ?_ ?_
             ·refine ⟨?_,?_,?_,?_,?_,?_,?_,?_,?_,?_,?_,?_,?_,?_,?_,?_,?_,?_,?_,?_,?_,?_,?_,?_,?_,trivial⟩
              all_goals intro a w1 vs dn k K S hpre KE DE kk
              ·have e21:=KE 21;go_simp;exact kk _ _
              ·have e3:=KE 3;go_simp;exact kk _ _
              ·have e101:=dep (DE 1 101);go_simp;exact kk _ _
              ·have e100:=dep (DE 0 100);have e102:=dep (DE 2 102);go_simp;exact kk _ _
              ·have e103:=dep (DE 3 103);go_simp;exact kk _ _
              iterate 7 exact wN 4 true (dep (DE 4 104)) (kk undef _)
              iterate 11 exact wU 11 false (dep (DE 11 111)) (kk undef _)
              ·have e111:=dep (DE 11 111);exact wN 4 true (dep (DE 4 104)) (kk undef _)
              ·have e104:=dep (DE 4 104);go_simp;exact kk _ _
             ·intro vs w20 HFr HR;have v24:vs 24=.bool false:=HR 24 _ rfl;have HF20:=hZ HFr;clear HFr HR;simp only [putAll,Act.put,List.setIfInBounds_toArray,List.set_cons_zero,List.set_cons_succ,v24];clear v24;have hjl:j≤n:=by omega
              have hjn:j<n:=hjt;have hil:(j:Int)≤(n:Int):=by omega
              have hiln:(n:Int)≤(n:Int):=by omega
              go_wp2_with fail
              refine (cont47_any g14 j (n - j) (n - j) (fun x=>b (j+x)) (by omega) _ (fun k hk=>((HF20.out.get 3 rfl).cell (j+k)).trans (valA_get _ _ _ (by omega)))).mono ?_
              rintro e wz ⟨⟨r,rfl,hr⟩,hw⟩;have HRR:Hid (r=false→b j=true):=hZ fun h=>by have:=hr h 0 (by omega);simpa using this
              have HF21:=hZ (HF20.out.below hw);clear hw hr;cases r with
              | true =>
               go_wp2_with fail
               go_roundw
               case rel=>exact ⟨j+1,by have:=HJT.out;omega,by go_num,hZ ⟨M,HF21.out.sub (List.sublist_append_left [_,_,_,_] _),HMI.out⟩⟩
               case measure=>simp [intOf];omega
              | false =>
               have HSU:=hZ ((HSV.out j).1 (HBS.out j hjt (HRR.out rfl)));have HMJ:=hZ (HMST.out M j HMI.out HQ.out HSU.out);have hsz2:j<(valA n fun k=>.int .i64 (M k:Nat)).size:=by rw [valA_size];exact hjt
               have hM16:M j<16:=Nat.lt_of_lt_of_le (HMI.out j hjt).1 (Nat.le_trans (Nat.pow_le_pow_right (by omega) (show i+1≤3 by have:=HLT.out;omega)) (by decide))
               have hi4:i<4:=by have:=HLT.out;omega
               have hor:=orBit_one hM16 hi4;obtain ⟨or,hor2⟩:=eX (M j ||| (1 <<< i));rw [hor2] at hor;have HOR:=hZ hor2;clear hor2 hM16;go_upto_region 24 with (fail);refine wrf [.p,.p,.p,.p,.p,.p,.p,.p,.c 0] [8] [] (fun _=>[]) (fun k=>[(qb,36,iC [mul,muh,rl,rh,ol,oh,sl,sh,pxl,pxh,pyl,pyh,pzl,pzh]),(g7,3,(if k≤0 then valA n fun k=>.int .i64 (M k:Nat) else valA n fun k=>if k=j then .int .i64 (or:Nat) else .int .i64 (M k:Nat))),(g9,89,#[hl,hh,pl,ph,ql,qh,mf,mt,ms,md,.slice mA mn mc,mo,mr,mu]),(g14,4,valA n fun k=>.bool (b k)),(g16,58,iC [tf,tg,axl,axh,ayl,ayh,azl,azh,bxl,bxh,byl,byh,bzl,bzh,ml,mh])]) (rV [.slice (some ⟨g7,0,none⟩) n n,.int .i64 (j:Int),.pointer (some ⟨g7,j,none⟩),.int .i64 (M j:Nat),.int .i64 (i:Int),.int .i64 (IntKind.i64.wrap (2 ^ i)),.int .i64 (or:Nat),.pointer (some ⟨g7,j,none⟩)]) [] HF21.out ?_ ?_
               ·refine ⟨?_,?_,?_,?_,?_,?_,?_,?_,?_,trivial⟩
                all_goals intro a w1 vs dn k K S hpre KE DE kk
                ·have e13:=KE 13;go_simp;exact kk _ _
                ·have e19:=KE 19;go_simp;exact kk _ _
                ·have e133:=dep (DE 0 133);have e134:=dep (DE 1 134);go_simp;exact kk _ _
                ·have e135:=dep (DE 2 135);have ca:w1.cell? ⟨g7,j,none⟩=some (.int .i64 (M j:Nat)):=(Bk.cell (gI (S.hi 0 8 rfl rfl) (S.fr.left.get 1 rfl)) j).trans (valA_get _ _ _ hjt);go_simp;exact kk _ _
                ·have e14:=KE 14;go_simp;exact kk _ _
                ·have e137:=dep (DE 4 137);go_simp;exact kk _ _
                ·have e136:=dep (DE 3 136);have e138:=dep (DE 5 138);go_simp;exact kk _ _
                ·have e133:=dep (DE 0 133);have e134:=dep (DE 1 134);go_simp;exact kk _ _
                ·subst hpre;have e140:=dep (DE 7 140);have e139:=dep (DE 6 139);exact wpo_storeCell 3 (.tmp 140) (.tmp 139) rfl rfl g7 j (by simpa [Act.eval] using e140) (.int .i64 (or:Nat)) (by simpa [Act.eval] using e139) _ _ (gI (S.hi 0 8 rfl rfl) (S.fr.left.get 1 rfl)) hsz2 rfl (by kernel_rfl) fun w' hk ho=>kk _ _ (by simp) (Fr.stage (S.fr.only 1 rfl ho (by rw [valA_set] at hk;exact hk)) (by exact trivial))
               ·intro vs w22 HFr HR;have HF22:=fW HFr;clear HFr HR;simp only [putAll,Act.put,List.setIfInBounds_toArray,List.set_cons_zero,List.set_cons_succ];go_wp2_with fail
                go_roundw
                case rel =>
                 refine ⟨j+1,by have:=HJT.out;omega,by go_num,hZ ⟨fun k=>if k=j then M j ||| (1 <<< i) else M k,?_,HMJ.out⟩⟩
                 have h:=HF22.out.sub (List.sublist_append_left [_,_,_,_] _);rw [show (valA n fun k=>Value.int .i64 ((if k=j then M j ||| (1 <<< i) else M k:Nat):Int))=valA n fun k=>if k=j then .int .i64 (or:Nat) else .int .i64 (M k:Nat) from by rw [← HOR.out];congr 1;funext k;split <;> rfl]
                 exact h
                case measure=>simp [intOf];omega
            ·have hln:(l:Int)<(n:Int):=by omega
             obtain ⟨q9,hq9⟩:=eX (IntKind.i64.wrap (9223372036854775807 - md));obtain ⟨q21,hq21⟩:=eX (IntKind.i64.wrap (tg+md));obtain ⟨fz,hfz⟩:=eX ((t l).frm);have HFZ:Hid (ct[l * 16]?=some (.int .i64 fz)):=hZ (by
              have h1:=HT.out.cell (k:=l) hlt2 0 (by omega)
              rw [HT.out.bk.cell] at h1;rw [show l * 16=l * 16+0 from rfl,h1,← hfz];rfl)
             clear hfz;obtain ⟨x1,hx1⟩:∃ x:Bool,decide (q9<tg)=x:=⟨_,rfl⟩;obtain ⟨x2,hx2⟩:∃ x:Bool,decide (fz<q21)=x:=⟨_,rfl⟩;cases x1 with
             | true =>
              go_upto_region 21 with (fail);refine wr0 (rM [(0,.int .i64 (l:Int)),(1,.slice (some ⟨gt,0,none⟩) n cap),(2,.int .i64 (n:Int)),(3,.bool true),(4,.bool true),(5,.pointer (some ⟨g16,1,none⟩)),(6,.int .i64 tg),(7,.pointer (some ⟨g9,9,none⟩)),(8,.int .i64 md),(9,.int .i64 q9),(10,.bool true),(11,.bool true),(23,.bool true),(24,.bool true)]) HFC.out ?_ ?_
              ·refine ⟨?_,?_,?_,?_,?_,?_,?_,?_,?_,?_,?_,?_,?_,?_,?_,?_,?_,?_,?_,?_,?_,?_,?_,?_,?_,trivial⟩
               all_goals intro a w1 vs dn k K S hpre KE DE kk
               ·have e21:=KE 21;go_simp;exact kk _ _
               ·have e3:=KE 3;go_simp;exact kk _ _
               ·have e101:=dep (DE 1 101);go_simp;exact kk _ _
               ·have e100:=dep (DE 0 100);have e102:=dep (DE 2 102);go_simp;exact kk _ _
               ·have e103:=dep (DE 3 103);go_simp;exact kk _ _
               ·have e20:=KE 20;refine wY 4 true (dep (DE 4 104)) ?_
                go_simp;exact kk _ _
               ·have e105:=dep (DE 5 105);refine wY 4 true (dep (DE 4 104)) ?_
                have ca:w1.cell? ⟨g16,1,none⟩=some (.int .i64 tg):=(S.fr.left.get 4 rfl).cell 1;go_simp;exact kk _ _
               ·have e15:=KE 15;refine wY 4 true (dep (DE 4 104)) ?_
                go_simp;exact kk _ _
               ·have e107:=dep (DE 7 107);refine wY 4 true (dep (DE 4 104)) ?_
                have ca:w1.cell? ⟨g9,9,none⟩=some (.int .i64 md):=(S.fr.left.get 2 rfl).cell 9;go_simp;exact kk _ _
               ·have e108:=dep (DE 8 108);refine wY 4 true (dep (DE 4 104)) ?_
                go_simp;exact kk _ _
               ·have e106:=dep (DE 6 106);have e109:=dep (DE 9 109);refine wY 4 true (dep (DE 4 104)) ?_
                go_simp;exact kk _ _
               ·have e110:=dep (DE 10 110);refine wY 4 true (dep (DE 4 104)) ?_
                go_simp;exact kk _ _
               iterate 11 exact wN 11 false (dep (DE 11 111)) (kk undef _)
               ·have e111:=dep (DE 11 111);refine wY 4 true (dep (DE 4 104)) ?_
                go_simp;exact kk _ _
               ·have e104:=dep (DE 4 104);have e123:=dep (DE 23 123);go_simp;exact kk _ _
              ·intro vs w20 HFr HR;have v24:vs 24=.bool true:=HR 24 _ rfl;have HF20:=hZ HFr;clear HFr HR;simp only [putAll,Act.put,List.setIfInBounds_toArray,List.set_cons_zero,List.set_cons_succ,v24];clear v24;go_wp2_with fail
               go_roundw
               case rel=>exact ⟨l+1,by omega,by omega,by go_num,hZ HF20.out⟩
               case measure=>simp [intOf];omega
             | false =>
              go_upto_region 21 with (fail);refine wr0 (rV [.int .i64 (l:Int),.slice (some ⟨gt,0,none⟩) n cap,.int .i64 (n:Int),.bool true,.bool true,.pointer (some ⟨g16,1,none⟩),.int .i64 tg,.pointer (some ⟨g9,9,none⟩),.int .i64 md,.int .i64 q9,.bool false,.bool false,.slice (some ⟨gt,0,none⟩) n cap,.int .i64 (l:Int),.pointer (some ⟨gt,l * 16,none⟩),.pointer (some ⟨gt,l * 16,none⟩),.int .i64 fz,.pointer (some ⟨g16,1,none⟩),.int .i64 tg,.pointer (some ⟨g9,9,none⟩),.int .i64 md,.int .i64 q21,.bool x2,.bool x2,.bool x2]) HFC.out ?_ ?_
              ·refine ⟨?_,?_,?_,?_,?_,?_,?_,?_,?_,?_,?_,?_,?_,?_,?_,?_,?_,?_,?_,?_,?_,?_,?_,?_,?_,trivial⟩
               all_goals intro a w1 vs dn k K S hpre KE DE kk
               ·have e21:=KE 21;go_simp;exact kk _ _
               ·have e3:=KE 3;go_simp;exact kk _ _
               ·have e101:=dep (DE 1 101);go_simp;exact kk _ _
               ·have e100:=dep (DE 0 100);have e102:=dep (DE 2 102);go_simp;exact kk _ _
               ·have e103:=dep (DE 3 103);go_simp;exact kk _ _
               ·have e20:=KE 20;refine wY 4 true (dep (DE 4 104)) ?_
                go_simp;exact kk _ _
               ·have e105:=dep (DE 5 105);refine wY 4 true (dep (DE 4 104)) ?_
                have ca:w1.cell? ⟨g16,1,none⟩=some (.int .i64 tg):=(S.fr.left.get 4 rfl).cell 1;go_simp;exact kk _ _
               ·have e15:=KE 15;refine wY 4 true (dep (DE 4 104)) ?_
                go_simp;exact kk _ _
               ·have e107:=dep (DE 7 107);refine wY 4 true (dep (DE 4 104)) ?_
                have ca:w1.cell? ⟨g9,9,none⟩=some (.int .i64 md):=(S.fr.left.get 2 rfl).cell 9;go_simp;exact kk _ _
               ·have e108:=dep (DE 8 108);refine wY 4 true (dep (DE 4 104)) ?_
                go_simp;exact kk _ _
               ·have e106:=dep (DE 6 106);have e109:=dep (DE 9 109);refine wY 4 true (dep (DE 4 104)) ?_
                go_simp;exact kk _ _
               ·have e110:=dep (DE 10 110);refine wY 4 true (dep (DE 4 104)) ?_
                go_simp;exact kk _ _
               ·have e3:=KE 3;refine wY 11 false (dep (DE 11 111)) ?_
                go_simp;exact kk _ _
               ·have e21:=KE 21;refine wY 11 false (dep (DE 11 111)) ?_
                go_simp;exact kk _ _
               ·have e112:=dep (DE 12 112);have e113:=dep (DE 13 113);refine wY 11 false (dep (DE 11 111)) ?_
                go_simp;exact kk _ _
               ·have e114:=dep (DE 14 114);refine wY 11 false (dep (DE 11 111)) ?_
                go_simp;exact kk _ _
               ·have e115:=dep (DE 15 115);have e115:=dep (DE 15 115);rw [if_pos (wanted_yes 11 false rfl rfl rfl (dep (DE 11 111)))];have ca:w1.cell? ⟨gt,l * 16,none⟩=some (.int .i64 fz):=(Bk.cell (HT.out.to S.fr.toBelow).bk _).trans HFZ.out;go_simp;exact kk _ _
               ·have e20:=KE 20;refine wY 11 false (dep (DE 11 111)) ?_
                go_simp;exact kk _ _
               ·have e117:=dep (DE 17 117);refine wY 11 false (dep (DE 11 111)) ?_
                have ca:w1.cell? ⟨g16,1,none⟩=some (.int .i64 tg):=(S.fr.left.get 4 rfl).cell 1;go_simp;exact kk _ _
               ·have e15:=KE 15;refine wY 11 false (dep (DE 11 111)) ?_
                go_simp;exact kk _ _
               ·have e119:=dep (DE 19 119);refine wY 11 false (dep (DE 11 111)) ?_
                have ca:w1.cell? ⟨g9,9,none⟩=some (.int .i64 md):=(S.fr.left.get 2 rfl).cell 9;go_simp;exact kk _ _
               ·have e118:=dep (DE 18 118);have e120:=dep (DE 20 120);refine wY 11 false (dep (DE 11 111)) ?_
                go_simp;exact kk _ _
               ·have e116:=dep (DE 16 116);have e121:=dep (DE 21 121);refine wY 11 false (dep (DE 11 111)) ?_
                go_simp;exact kk _ _
               ·have e111:=dep (DE 11 111);have e122:=dep (DE 22 122);refine wY 4 true (dep (DE 4 104)) ?_
                go_simp;exact kk _ _
               ·have e104:=dep (DE 4 104);have e123:=dep (DE 23 123);go_simp;exact kk _ _
              ·intro vs w20 HFr HR;have v24:vs 24=.bool x2:=HR 24 _ rfl;have HF20:=hZ HFr;clear HFr HR;simp only [putAll,Act.put,List.setIfInBounds_toArray,List.set_cons_zero,List.set_cons_succ,v24];clear v24;clear hx2 hx1 hq9 hq21;cases x2 with
               | true =>
                go_wp2_with fail
                go_roundw
                case rel=>exact ⟨l+1,by omega,by omega,by go_num,hZ HF20.out⟩
                case measure=>simp [intOf];omega
               | false =>
                have hjl:j≤l:=by omega
                have hjn:j<n:=hjt;have hil:(j:Int)≤(l:Int):=by omega
                have hiln:(l:Int)≤(n:Int):=by omega
                go_wp2_with fail
                refine (cont47_any g14 j (l - j) (n - j) (fun x=>b (j+x)) (by omega) _ (fun k hk=>((HF20.out.get 3 rfl).cell (j+k)).trans (valA_get _ _ _ (by omega)))).mono ?_
                rintro e wz ⟨⟨r,rfl,hr⟩,hw⟩;have HRR:Hid (r=false→b j=true):=hZ fun h=>by have:=hr h 0 (by omega);simpa using this
                have HF21:=hZ (HF20.out.below hw);clear hw hr;cases r with
                | true =>
                 go_wp2_with fail
                 go_roundw
                 case rel=>exact ⟨j+1,by have:=HJT.out;omega,by go_num,hZ ⟨M,HF21.out.sub (List.sublist_append_left [_,_,_,_] _),HMI.out⟩⟩
                 case measure=>simp [intOf];omega
                | false =>
                 have HSU:=hZ ((HSV.out j).1 (HBS.out j hjt (HRR.out rfl)));have HMJ:=hZ (HMST.out M j HMI.out HQ.out HSU.out);have hsz2:j<(valA n fun k=>.int .i64 (M k:Nat)).size:=by rw [valA_size];exact hjt
                 have hM16:M j<16:=Nat.lt_of_lt_of_le (HMI.out j hjt).1 (Nat.le_trans (Nat.pow_le_pow_right (by omega) (show i+1≤3 by have:=HLT.out;omega)) (by decide))
                 have hi4:i<4:=by have:=HLT.out;omega
                 have hor:=orBit_one hM16 hi4;obtain ⟨or,hor2⟩:=eX (M j ||| (1 <<< i));rw [hor2] at hor;have HOR:=hZ hor2;clear hor2 hM16;go_upto_region 24 with (fail);refine wrf [.p,.p,.p,.p,.p,.p,.p,.p,.c 0] [8] [] (fun _=>[]) (fun k=>[(qb,36,iC [mul,muh,rl,rh,ol,oh,sl,sh,pxl,pxh,pyl,pyh,pzl,pzh]),(g7,3,(if k≤0 then valA n fun k=>.int .i64 (M k:Nat) else valA n fun k=>if k=j then .int .i64 (or:Nat) else .int .i64 (M k:Nat))),(g9,89,#[hl,hh,pl,ph,ql,qh,mf,mt,ms,md,.slice mA mn mc,mo,mr,mu]),(g14,4,valA n fun k=>.bool (b k)),(g16,58,iC [tf,tg,axl,axh,ayl,ayh,azl,azh,bxl,bxh,byl,byh,bzl,bzh,ml,mh])]) (rV [.slice (some ⟨g7,0,none⟩) n n,.int .i64 (j:Int),.pointer (some ⟨g7,j,none⟩),.int .i64 (M j:Nat),.int .i64 (i:Int),.int .i64 (IntKind.i64.wrap (2 ^ i)),.int .i64 (or:Nat),.pointer (some ⟨g7,j,none⟩)]) [] HF21.out ?_ ?_
                 ·refine ⟨?_,?_,?_,?_,?_,?_,?_,?_,?_,trivial⟩
                  all_goals intro a w1 vs dn k K S hpre KE DE kk
                  ·have e13:=KE 13;go_simp;exact kk _ _
                  ·have e19:=KE 19;go_simp;exact kk _ _
                  ·have e133:=dep (DE 0 133);have e134:=dep (DE 1 134);go_simp;exact kk _ _
                  ·have e135:=dep (DE 2 135);have ca:w1.cell? ⟨g7,j,none⟩=some (.int .i64 (M j:Nat)):=(Bk.cell (gI (S.hi 0 8 rfl rfl) (S.fr.left.get 1 rfl)) j).trans (valA_get _ _ _ hjt);go_simp;exact kk _ _
                  ·have e14:=KE 14;go_simp;exact kk _ _
                  ·have e137:=dep (DE 4 137);go_simp;exact kk _ _
                  ·have e136:=dep (DE 3 136);have e138:=dep (DE 5 138);go_simp;exact kk _ _
                  ·have e133:=dep (DE 0 133);have e134:=dep (DE 1 134);go_simp;exact kk _ _
                  ·subst hpre;have e140:=dep (DE 7 140);have e139:=dep (DE 6 139);exact wpo_storeCell 3 (.tmp 140) (.tmp 139) rfl rfl g7 j (by simpa [Act.eval] using e140) (.int .i64 (or:Nat)) (by simpa [Act.eval] using e139) _ _ (gI (S.hi 0 8 rfl rfl) (S.fr.left.get 1 rfl)) hsz2 rfl (by kernel_rfl) fun w' hk ho=>kk _ _ (by simp) (Fr.stage (S.fr.only 1 rfl ho (by rw [valA_set] at hk;exact hk)) (by exact trivial))
                 ·intro vs w22 HFr HR;have HF22:=fW HFr;clear HFr HR;simp only [putAll,Act.put,List.setIfInBounds_toArray,List.set_cons_zero,List.set_cons_succ];go_wp2_with fail
                  go_roundw
                  case rel =>
                   refine ⟨j+1,by have:=HJT.out;omega,by go_num,hZ ⟨fun k=>if k=j then M j ||| (1 <<< i) else M k,?_,HMJ.out⟩⟩
                   have h:=HF22.out.sub (List.sublist_append_left [_,_,_,_] _);rw [show (valA n fun k=>Value.int .i64 ((if k=j then M j ||| (1 <<< i) else M k:Nat):Int))=valA n fun k=>if k=j then .int .i64 (or:Nat) else .int .i64 (M k:Nat) from by rw [← HOR.out];congr 1;funext k;split <;> rfl]
                   exact h
                  case measure=>simp [intOf];omega
end Go.Proofs.YtmkoegljnebdiaaGreat
