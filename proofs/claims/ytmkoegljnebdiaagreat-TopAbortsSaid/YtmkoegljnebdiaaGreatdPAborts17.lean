/- What is proved: the texts Ms Mt Mu Ob, one behind the other; each says at its head what it proves, and under which conditions. -/
import Derived.Test.YtmkoegljnebdiaaGreatdPAborts16
namespace Go.Proofs.YtmkoegljnebdiaaGreat
open Go.RowKit Go.Shelf
set_option maxRecDepth 100000
set_option maxHeartbeats 16000000

theorem arc87_any (a:ArcD) (A:Option Addr) (n c:Nat) (v:Nat→PointD) (h64:n≤64) (w:World) (hT:PtsAt w w.heap.size A n v):Calls Tryz.prog 87 #[arcV a A n c] w fun e w'=>∃ r:Int,e=.returned (.int .i64 r)∧(r=0→0<a.time∧0<a.step)∧Below w.heap.size w w':=by
 refine pQ fun PQ hPQ=>?_
 have HBAD:Hid (∀ w',Fr w [] [] w'→PQ (.returned (.int .i64 2)) w'):=hZ fun w' h=>by rw [← hPQ];exact ⟨2,rfl,fun e=>absurd e (by decide),h.toBelow⟩
 have HGOOD:Hid (∀ w',0<a.time→0<a.step→Fr w [] [] w'→PQ (.returned (.int .i64 0)) w'):=hZ fun w' h1 h2 h=>by rw [← hPQ];exact ⟨0,rfl,fun _=>⟨h1,h2⟩,h.toBelow⟩
 have HTB:=hZ fun w' (hb:Below w.heap.size w w') (h0:0<n)=>table150_any w' A n c v (hT.to hb) h0 h64;have HWI:=hZ fun x y w=>within148_any x y w;have HLE:=hZ fun x y w=>least149_any x y w;clear hPQ hT;obtain ⟨time,step,⟨tl,th⟩,⟨fl,fh⟩,⟨⟨dxl,dxh⟩,⟨dyl,dyh⟩,⟨dzl,dzh⟩⟩,drag,⟨dl,dh⟩⟩:=a;unfold arcV;dsimp only at HGOOD ⊢;obtain ⟨qb,W0,hqb,hW0,HF0⟩:=fM (Fr.start w) [(#[time,step,tl,th,fl,fh,dxl,dxh,dyl,dyh,dzl,dzh,.slice A n c,dl,dh],46)];go_enter Tryz.func87,Tryz.ntmps87;go_upto_region 1 with (fail);clear hW0 hqb;go_wp2_with fail
 go_loopw [3] (fun iv wr=>∃ k:Nat,k≤3∧iv=.int .i64 (k:Int)∧Hid (Fr w [] [(qb,46,#[time,step,tl,th,fl,fh,dxl,dxh,dyl,dyh,dzl,dzh,.slice A n c,dl,dh])] wr)) (fun iv _=>3 - (intOf iv).toNat)
 case atStart=>exact ⟨0,Nat.zero_le _,rfl,HF0⟩
 case round =>
  obtain ⟨wo,rfl⟩:∃ wo:World,wo=wr:=⟨_,rfl⟩;obtain ⟨k,hk,rfl,HF⟩:=hrel;clear HF0;obtain rfl | rfl | rfl | rfl:k=0 ∨ k=1 ∨ k=2 ∨ k=3:=by omega
  ·skip
   go_wp2_with (refine lS (gN HF 0) dxl dxh ?_)
   refine (HWI.out ⟨dxl,dxh⟩ ⟨-4294967296,4294967296⟩ _).mono ?_
   rintro e wb ⟨b,rfl,hw⟩;have HF1:=hZ (HF.out.below hw);clear hw;cases b with
   | false =>
    go_wp2_with fail
    exact HBAD.out _ HF1.out.drop
   | true =>
    go_wp2_with fail
    go_roundw
    case rel=>exact ⟨1,by omega,by go_num,HF1⟩
    case measure=>simp [intOf] <;> omega
  ·skip
   go_wp2_with (refine lS (gN HF 0) dyl dyh ?_)
   refine (HWI.out ⟨dyl,dyh⟩ ⟨-4294967296,4294967296⟩ _).mono ?_
   rintro e wb ⟨b,rfl,hw⟩;have HF1:=hZ (HF.out.below hw);clear hw;cases b with
   | false =>
    go_wp2_with fail
    exact HBAD.out _ HF1.out.drop
   | true =>
    go_wp2_with fail
    go_roundw
    case rel=>exact ⟨2,by omega,by go_num,HF1⟩
    case measure=>simp [intOf] <;> omega
  ·skip
   go_wp2_with (refine lS (gN HF 0) dzl dzh ?_)
   refine (HWI.out ⟨dzl,dzh⟩ ⟨-4294967296,4294967296⟩ _).mono ?_
   rintro e wb ⟨b,rfl,hw⟩;have HF1:=hZ (HF.out.below hw);clear hw;cases b with
   | false =>
    go_wp2_with fail
    exact HBAD.out _ HF1.out.drop
   | true =>
    go_wp2_with fail
    go_roundw
    case rel=>exact ⟨3,by omega,by go_num,HF1⟩
    case measure=>simp [intOf] <;> omega
  ·skip
   go_wp2_with (refine lS (gN HF 0) tl th ?_)
   refine (HLE.out ⟨tl,th⟩ 0 _).mono ?_
   rintro e wb1 ⟨b1,rfl,hw⟩;have HF1:=hZ (HF.out.below hw);clear hw;cases b1 with
   | false =>
    by_cases hn0:n=0
    ·have hni:(n:Int)=0:=by omega
     have hnb:((n:Int) == 0)=true:=by simpa using hni
     subst hn0;have c2:=cA (gN HF1 0) 12;by_cases ht:time≤0
     ·skip
      have c3:=cA (gN HF1 0) 0;go_wp2_with fail
      clear c2 c3;exact HBAD.out _ HF1.out.drop
     by_cases hs:step≤0
     ·skip
      have c3:=cA (gN HF1 0) 0;have c4:=cA (gN HF1 0) 1;go_wp2_with fail
      clear c2 c3 c4;exact HBAD.out _ HF1.out.drop
     have HT1:=hZ ht;have HS1:=hZ hs;have c3:=cA (gN HF1 0) 0;have c4:=cA (gN HF1 0) 1;go_wp2_with fail
     clear c2 c3 c4;first
     | exact HBAD.out _ HF1.out.drop
     | exact HGOOD.out _ (by have:=HT1.out;omega) (by have:=HS1.out;omega) HF1.out.drop
    have hni:¬ (n:Int)=0:=by omega
    have hnb:((n:Int) == 0)=false:=by simpa using hni
    have c2:=cA (gN HF1 0) 12;have c3:=cA (gN HF1 0) 12;go_wp2_with fail
    clear c2 c3;refine (HTB.out _ HF1.out.toBelow (by omega)).mono ?_
    rintro e wt ⟨r,rfl,hw⟩;have HF4:=hZ (HF1.out.below hw);clear hw;by_cases hr:r=0
    ·have hrb:(r == 0)=true:=by simpa using hr
     subst hr;by_cases ht:time≤0
     ·skip
      have c5:=cA (gN HF4 0) 0;go_wp2_with fail
      clear c5;exact HBAD.out _ HF4.out.drop
     by_cases hs:step≤0
     ·skip
      have c5:=cA (gN HF4 0) 0;have c6:=cA (gN HF4 0) 1;go_wp2_with fail
      clear c5 c6;exact HBAD.out _ HF4.out.drop
     have HT1:=hZ ht;have HS1:=hZ hs;have c5:=cA (gN HF4 0) 0;have c6:=cA (gN HF4 0) 1;go_wp2_with fail
     clear c5 c6;first
     | exact HBAD.out _ HF4.out.drop
     | exact HGOOD.out _ (by have:=HT1.out;omega) (by have:=HS1.out;omega) HF4.out.drop
    have hrb:(r == 0)=false:=by simpa using hr
    by_cases ht:time≤0
    ·skip
     have c5:=cA (gN HF4 0) 0;go_wp2_with fail
     clear c5;exact HBAD.out _ HF4.out.drop
    by_cases hs:step≤0
    ·skip
     have c5:=cA (gN HF4 0) 0;have c6:=cA (gN HF4 0) 1;go_wp2_with fail
     clear c5 c6;exact HBAD.out _ HF4.out.drop
    have HT1:=hZ ht;have HS1:=hZ hs;have c5:=cA (gN HF4 0) 0;have c6:=cA (gN HF4 0) 1;go_wp2_with fail
    clear c5 c6;first
    | exact HBAD.out _ HF4.out.drop
    | exact HGOOD.out _ (by have:=HT1.out;omega) (by have:=HS1.out;omega) HF4.out.drop
   | true =>
    go_wp2_with (refine wpLoadFG rfl 31 _ rfl qb 4 rfl _ _ (HF1.out.get 0 rfl) #[fl,fh] rfl _ u_span rfl i_span ?_)
    refine (HLE.out ⟨fl,fh⟩ 0 _).mono ?_
    rintro e wb2 ⟨b2,rfl,hw⟩;have HF2:=hZ (HF1.out.below hw);clear hw;cases b2 with
    | false =>
     by_cases hn0:n=0
     ·have hni:(n:Int)=0:=by omega
      have hnb:((n:Int) == 0)=true:=by simpa using hni
      subst hn0;have c3:=cA (gN HF2 0) 12;by_cases ht:time≤0
      ·skip
       have c4:=cA (gN HF2 0) 0;go_wp2_with fail
       clear c3 c4;exact HBAD.out _ HF2.out.drop
      by_cases hs:step≤0
      ·skip
       have c4:=cA (gN HF2 0) 0;have c5:=cA (gN HF2 0) 1;go_wp2_with fail
       clear c3 c4 c5;exact HBAD.out _ HF2.out.drop
      have HT1:=hZ ht;have HS1:=hZ hs;have c4:=cA (gN HF2 0) 0;have c5:=cA (gN HF2 0) 1;go_wp2_with fail
      clear c3 c4 c5;first
      | exact HBAD.out _ HF2.out.drop
      | exact HGOOD.out _ (by have:=HT1.out;omega) (by have:=HS1.out;omega) HF2.out.drop
     have hni:¬ (n:Int)=0:=by omega
     have hnb:((n:Int) == 0)=false:=by simpa using hni
     have c3:=cA (gN HF2 0) 12;have c4:=cA (gN HF2 0) 12;go_wp2_with fail
     clear c3 c4;refine (HTB.out _ HF2.out.toBelow (by omega)).mono ?_
     rintro e wt ⟨r,rfl,hw⟩;have HF5:=hZ (HF2.out.below hw);clear hw;by_cases hr:r=0
     ·have hrb:(r == 0)=true:=by simpa using hr
      subst hr;by_cases ht:time≤0
      ·skip
       have c6:=cA (gN HF5 0) 0;go_wp2_with fail
       clear c6;exact HBAD.out _ HF5.out.drop
      by_cases hs:step≤0
      ·skip
       have c6:=cA (gN HF5 0) 0;have c7:=cA (gN HF5 0) 1;go_wp2_with fail
       clear c6 c7;exact HBAD.out _ HF5.out.drop
      have HT1:=hZ ht;have HS1:=hZ hs;have c6:=cA (gN HF5 0) 0;have c7:=cA (gN HF5 0) 1;go_wp2_with fail
      clear c6 c7;first
      | exact HBAD.out _ HF5.out.drop
      | exact HGOOD.out _ (by have:=HT1.out;omega) (by have:=HS1.out;omega) HF5.out.drop
     have hrb:(r == 0)=false:=by simpa using hr
     by_cases ht:time≤0
     ·skip
      have c6:=cA (gN HF5 0) 0;go_wp2_with fail
      clear c6;exact HBAD.out _ HF5.out.drop
     by_cases hs:step≤0
     ·skip
      have c6:=cA (gN HF5 0) 0;have c7:=cA (gN HF5 0) 1;go_wp2_with fail
      clear c6 c7;exact HBAD.out _ HF5.out.drop
     have HT1:=hZ ht;have HS1:=hZ hs;have c6:=cA (gN HF5 0) 0;have c7:=cA (gN HF5 0) 1;go_wp2_with fail
     clear c6 c7;first
     | exact HBAD.out _ HF5.out.drop
     | exact HGOOD.out _ (by have:=HT1.out;omega) (by have:=HS1.out;omega) HF5.out.drop
    | true =>
     go_wp2_with (refine wpLoadFG rfl 31 _ rfl qb 13 rfl _ _ (HF2.out.get 0 rfl) #[dl,dh] rfl _ u_span rfl i_span ?_)
     refine (HLE.out ⟨dl,dh⟩ 0 _).mono ?_
     rintro e wb3 ⟨b3,rfl,hw⟩;have HF3:=hZ (HF2.out.below hw);clear hw;cases b3 with
     | false =>
      by_cases hn0:n=0
      ·have hni:(n:Int)=0:=by omega
       have hnb:((n:Int) == 0)=true:=by simpa using hni
       subst hn0;have c4:=cA (gN HF3 0) 12;by_cases ht:time≤0
       ·skip
        have c5:=cA (gN HF3 0) 0;go_wp2_with fail
        clear c4 c5;exact HBAD.out _ HF3.out.drop
       by_cases hs:step≤0
       ·skip
        have c5:=cA (gN HF3 0) 0;have c6:=cA (gN HF3 0) 1;go_wp2_with fail
        clear c4 c5 c6;exact HBAD.out _ HF3.out.drop
       have HT1:=hZ ht;have HS1:=hZ hs;have c5:=cA (gN HF3 0) 0;have c6:=cA (gN HF3 0) 1;go_wp2_with fail
       clear c4 c5 c6;first
       | exact HBAD.out _ HF3.out.drop
       | exact HGOOD.out _ (by have:=HT1.out;omega) (by have:=HS1.out;omega) HF3.out.drop
      have hni:¬ (n:Int)=0:=by omega
      have hnb:((n:Int) == 0)=false:=by simpa using hni
      have c4:=cA (gN HF3 0) 12;have c5:=cA (gN HF3 0) 12;go_wp2_with fail
      clear c4 c5;refine (HTB.out _ HF3.out.toBelow (by omega)).mono ?_
      rintro e wt ⟨r,rfl,hw⟩;have HF6:=hZ (HF3.out.below hw);clear hw;by_cases hr:r=0
      ·have hrb:(r == 0)=true:=by simpa using hr
       subst hr;by_cases ht:time≤0
       ·skip
        have c7:=cA (gN HF6 0) 0;go_wp2_with fail
        clear c7;exact HBAD.out _ HF6.out.drop
       by_cases hs:step≤0
       ·skip
        have c7:=cA (gN HF6 0) 0;have c8:=cA (gN HF6 0) 1;go_wp2_with fail
        clear c7 c8;exact HBAD.out _ HF6.out.drop
       have HT1:=hZ ht;have HS1:=hZ hs;have c7:=cA (gN HF6 0) 0;have c8:=cA (gN HF6 0) 1;go_wp2_with fail
       clear c7 c8;first
       | exact HBAD.out _ HF6.out.drop
       | exact HGOOD.out _ (by have:=HT1.out;omega) (by have:=HS1.out;omega) HF6.out.drop
      have hrb:(r == 0)=false:=by simpa using hr
      by_cases ht:time≤0
      ·skip
       have c7:=cA (gN HF6 0) 0;go_wp2_with fail
       clear c7;exact HBAD.out _ HF6.out.drop
      by_cases hs:step≤0
      ·skip
       have c7:=cA (gN HF6 0) 0;have c8:=cA (gN HF6 0) 1;go_wp2_with fail
       clear c7 c8;exact HBAD.out _ HF6.out.drop
      have HT1:=hZ ht;have HS1:=hZ hs;have c7:=cA (gN HF6 0) 0;have c8:=cA (gN HF6 0) 1;go_wp2_with fail
      clear c7 c8;first
      | exact HBAD.out _ HF6.out.drop
      | exact HGOOD.out _ (by have:=HT1.out;omega) (by have:=HS1.out;omega) HF6.out.drop
     | true =>
      by_cases hn0:n=0
      ·have hni:(n:Int)=0:=by omega
       have hnb:((n:Int) == 0)=true:=by simpa using hni
       subst hn0;have c4:=cA (gN HF3 0) 12;by_cases ht:time≤0
       ·skip
        have c5:=cA (gN HF3 0) 0;go_wp2_with fail
        clear c4 c5;exact HBAD.out _ HF3.out.drop
       by_cases hs:step≤0
       ·skip
        have c5:=cA (gN HF3 0) 0;have c6:=cA (gN HF3 0) 1;go_wp2_with fail
        clear c4 c5 c6;exact HBAD.out _ HF3.out.drop
       have HT1:=hZ ht;have HS1:=hZ hs;have c5:=cA (gN HF3 0) 0;have c6:=cA (gN HF3 0) 1;go_wp2_with fail
       clear c4 c5 c6;first
       | exact HBAD.out _ HF3.out.drop
       | exact HGOOD.out _ (by have:=HT1.out;omega) (by have:=HS1.out;omega) HF3.out.drop
      have hni:¬ (n:Int)=0:=by omega
      have hnb:((n:Int) == 0)=false:=by simpa using hni
      have c4:=cA (gN HF3 0) 12;have c5:=cA (gN HF3 0) 12;go_wp2_with fail
      clear c4 c5;refine (HTB.out _ HF3.out.toBelow (by omega)).mono ?_
      rintro e wt ⟨r,rfl,hw⟩;have HF6:=hZ (HF3.out.below hw);clear hw;by_cases hr:r=0
      ·have hrb:(r == 0)=true:=by simpa using hr
       subst hr;by_cases ht:time≤0
       ·skip
        have c7:=cA (gN HF6 0) 0;go_wp2_with fail
        clear c7;exact HBAD.out _ HF6.out.drop
       by_cases hs:step≤0
       ·skip
        have c7:=cA (gN HF6 0) 0;have c8:=cA (gN HF6 0) 1;go_wp2_with fail
        clear c7 c8;exact HBAD.out _ HF6.out.drop
       have HT1:=hZ ht;have HS1:=hZ hs;have c7:=cA (gN HF6 0) 0;have c8:=cA (gN HF6 0) 1;go_wp2_with fail
       clear c7 c8;first
       | exact HBAD.out _ HF6.out.drop
       | exact HGOOD.out _ (by have:=HT1.out;omega) (by have:=HS1.out;omega) HF6.out.drop
      have hrb:(r == 0)=false:=by simpa using hr
      by_cases ht:time≤0
      ·skip
       have c7:=cA (gN HF6 0) 0;go_wp2_with fail
       clear c7;exact HBAD.out _ HF6.out.drop
      by_cases hs:step≤0
      ·skip
       have c7:=cA (gN HF6 0) 0;have c8:=cA (gN HF6 0) 1;go_wp2_with fail
       clear c7 c8;exact HBAD.out _ HF6.out.drop
      have HT1:=hZ ht;have HS1:=hZ hs;have c7:=cA (gN HF6 0) 0;have c8:=cA (gN HF6 0) 1;go_wp2_with fail
      clear c7 c8;first
      | exact HBAD.out _ HF6.out.drop
      | exact HGOOD.out _ (by have:=HT1.out;omega) (by have:=HS1.out;omega) HF6.out.drop

theorem steps39_any (a:ArcD) (A:Option Addr) (n c:Nat) (v:Nat→PointD) (h64:n≤64) (ht:I64 a.time) (hst:I64 a.step) (w:World) (hT:PtsAt w w.heap.size A n v):Calls Tryz.prog 39 #[arcV a A n c] w fun e w'=>∃ q r:Int,e=.returned (.tuple #[.int .i64 q,.int .i64 r])∧Below w.heap.size w w':=by
 refine pQ fun PQ hPQ=>?_
 have HFIN:Hid (∀ w' q r,Fr w [] [] w'→PQ (.returned (.tuple #[.int .i64 q,.int .i64 r])) w'):=hZ fun w' q r h=>by rw [← hPQ];exact ⟨q,r,rfl,h.toBelow⟩
 have HCA:=hZ fun w' (hb:Below w.heap.size w w')=>arc87_any a A n c v h64 w' (hT.to hb);clear hPQ hT;obtain ⟨time,step,⟨tl,th⟩,⟨fl,fh⟩,⟨⟨dxl,dxh⟩,⟨dyl,dyh⟩,⟨dzl,dzh⟩⟩,drag,⟨dl,dh⟩⟩:=a;unfold arcV at HCA ⊢;dsimp only at HCA ht hst ⊢;obtain ⟨qb,W0,hqb,hW0,HF0⟩:=fM (Fr.start w) [(#[time,step,tl,th,fl,fh,dxl,dxh,dyl,dyh,dzl,dzh,.slice A n c,dl,dh],46)];go_enter Tryz.func39,Tryz.ntmps39;go_upto_region 1 with (fail);clear hW0 hqb;go_wp2_with (refine lF (gN HF0 0) #[time,step,tl,th,fl,fh,dxl,dxh,dyl,dyh,dzl,dzh,.slice A n c,dl,dh] u_46 i_46 ?_)
 refine (HCA.out _ HF0.out.toBelow).mono ?_
 rintro e wz ⟨r,rfl,hr,hw⟩;have HF1:=hZ (HF0.out.below hw);clear hw;by_cases h0:r=0
 rotate_left
 ·have hrb:(r != 0)=true:=by simpa using h0
  clear h0 hr;go_wp2_with fail
  exact HFIN.out _ _ _ HF1.out.drop
 ·have hpos:=hr h0;subst h0;have d3:(step == 0)=false:=by simp;omega
  have d4:¬ step=0:=by omega
  obtain ⟨q,hq⟩:=eX (time.tdiv step);obtain ⟨s,hs⟩:=eX (time.tmod step);have hqr:0≤q∧q≤9223372036854775807:=by
   rw [← hq,Int.tdiv_eq_ediv_of_nonneg (by omega)]
   have h1:=Int.ediv_nonneg (a:=time) (b:=step) (by omega) (by omega)
   have h2:=Int.ediv_le_self step (show 0≤time by omega)
   unfold I64 at ht;omega
  have hsr:I64 s:=by
   rw [← hs,Int.tmod_eq_emod_of_nonneg (by omega)]
   have h1:=Int.emod_nonneg time d4;have h2:=Int.emod_lt_of_pos time hpos.2;unfold I64 at *;omega
  have m2:IntKind.i64.wrap q=q:=IntWalk.i64_in _ (by omega)
  have m2':wrap64 q=q:=w64_in (by omega) (by omega)
  have m3:IntKind.i64.wrap s=s:=IntWalk.i64_in _ hsr;have m3':wrap64 s=s:=w64_in (by unfold I64 at hsr;omega) (by unfold I64 at hsr;omega)
  obtain ⟨q3,hq3⟩:=eX (wrap64 (q+1));clear hpos hr hsr ht hst hqr;have c2:=cA (gN HF1 0) 0;have c3:=cA (gN HF1 0) 1;by_cases hs0:s=0
  ·subst hs0;have c4:=cA (gN HF1 0) 0;have c5:=cA (gN HF1 0) 1;by_cases hg:4096<q
   ·skip
    go_wp2_with fail
    clear c2 c3 c4 c5;exact HFIN.out _ _ _ HF1.out.drop
   ·skip
    go_wp2_with fail
    clear c2 c3 c4 c5;exact HFIN.out _ _ _ HF1.out.drop
  ·have hsb:(s != 0)=true:=by simpa using hs0
   clear hs0;have c4:=cA (gN HF1 0) 0;have c5:=cA (gN HF1 0) 1;by_cases hg:4096<q3
   ·skip
    go_wp2_with fail
    clear c2 c3 c4 c5;exact HFIN.out _ _ _ HF1.out.drop
   ·skip
    go_wp2_with fail
    clear c2 c3 c4 c5;exact HFIN.out _ _ _ HF1.out.drop
theorem long13_any (A:Option Addr) (nm c:Nat) (v:Nat→ModeD) (most:Int) (wv:∀ i,WdM (v i)) (w:World) (hM:nm≤18→ModesAt w A nm v):Calls Tryz.prog 13 #[.slice A nm c,.int .i64 most] w (AnyB w):=by
 refine pQ fun PQ hPQ=>?_
 have HFIN:Hid (∀ w' r,Fr w [] [] w'→PQ (.returned (.bool r)) w'):=hZ fun w' r h=>by rw [← hPQ];exact ⟨r,rfl,h.toBelow⟩
 clear hPQ;by_cases h18:18<nm
 ·clear hM;have h18i:(18:Int)<(nm:Int):=by omega
  go_enter Tryz.func13,Tryz.ntmps13;go_wp2_with fail
  exact HFIN.out _ _ (Fr.start w)
 have h18i:¬ (18:Int)<(nm:Int):=by omega
 have HM:=hZ (hM (by omega))
 have HWV:=hZ wv;clear hM wv;go_enter Tryz.func13,Tryz.ntmps13;go_wp2_with fail
 go_loopw [5,6] (fun nv iv wr=>∃ (i:Nat) (x:Int),i≤nm∧iv=.int .i64 (i:Int)∧nv=.int .i64 x∧Hid (Fr w [] [] wr)) (fun _ iv _=>nm - (intOf iv).toNat)
 case atStart=>exact ⟨0,0,Nat.zero_le _,rfl,rfl,hZ (Fr.start w)⟩
 case round =>
  obtain ⟨wo,rfl⟩:∃ wo:World,wo=wr:=⟨_,rfl⟩;obtain ⟨i,x,hi,rfl,rfl,HF⟩:=hrel;have h0i:(0:Int)≤(i:Int):=by omega
  by_cases hlt:i<nm
  rotate_left
  ·obtain rfl:nm=i:=by omega
   have hneg:¬ (nm:Int)<(nm:Int):=by omega
   go_wp2_with fail
   exact HFIN.out _ _ HF.out
  ·have hii:(i:Int)<(nm:Int):=by omega
   have HLT:=hZ hlt;obtain ⟨gm,off,hA,hgw,-,hcl⟩:=HM.out.el.2 (by omega)
   have HAR:=hZ (HM.out.arcs i hlt);have HWA:=hZ (HWV.out i).arcs;have hcl2:∀ j u,(modeA (v i))[j]?=some u→w.cell? ⟨gm,off+i * 14+j,none⟩=some u:=hcl i hlt;obtain ⟨⟨z1,z2,z3,z4,z5,z6,z7,n',v',A',c',z8,z9,z10⟩,hz⟩:=eX (v i);rw [hz] at HAR HWA hcl2;dsimp only at HAR HWA;have HC10:Hid (∀ w',Below w.heap.size w w'→w'.cell? ⟨gm,off+i * 14+10,none⟩=some (.slice A' n' c')):=hZ fun w' hb=>(hb.cell (p:=⟨gm,off+i * 14+10,none⟩) hgw).trans (hcl2 10 _ rfl);subst hA;clear hz hcl hcl2 hgw;have c10:=HC10.out wo HF.out.toBelow;by_cases h34:34<n'
   ·have h34i:(34:Int)<(n':Int):=by omega
    go_wp2_with fail
    exact HFIN.out _ _ HF.out
   have h34i:¬ (34:Int)<(n':Int):=by omega
   go_wp2_with fail
   clear c10;go_loopw [5,7] (fun nv kv wr=>∃ (k:Nat) (x:Int),k≤n'∧kv=.int .i64 (k:Int)∧nv=.int .i64 x∧Hid (Fr w [] [] wr)) (fun _ kv _=>n' - (intOf kv).toNat)
   case atStart=>exact ⟨0,x,Nat.zero_le _,rfl,rfl,HF⟩
   case round =>
    clear HF;obtain ⟨wi,rfl⟩:∃ wi:World,wi=wr:=⟨_,rfl⟩;obtain ⟨k,x,hk,rfl,rfl,HF⟩:=hrel;have c10:=HC10.out wi HF.out.toBelow;have h0k:(0:Int)≤(k:Int):=by omega
    by_cases hkt:k<n'
    rotate_left
    ·obtain rfl:n'=k:=by omega
     have hneg:¬ (n':Int)<(n':Int):=by omega
     go_wp2_with fail
     go_roundw
     case rel=>exact ⟨i+1,x,by have:=HLT.out;omega,by go_num,rfl,HF⟩
     case measure=>simp [intOf] <;> omega
    ·have hki:(k:Int)<(n':Int):=by omega
     have HKT:=hZ hkt;obtain ⟨b,off2,rfl,-,-⟩:=HAR.out.1.2 (by omega)
     have hcs:=HAR.out.cells rfl hkt HF.out;have HPT:=hZ fun w' (hb:Below w.heap.size w w')=>(HAR.out.2 k hkt).to hb;have HWK:=hZ (HWA.out k);obtain ⟨⟨⟨time,step,⟨tl,th⟩,⟨fl,fh⟩,⟨⟨dxl,dxh⟩,⟨dyl,dyh⟩,⟨dzl,dzh⟩⟩,drag,⟨dl,dh⟩⟩,A1,c1⟩,hvk⟩:=eX (v' k);simp only [hvk] at hcs HPT HWK;dsimp only [arcA] at hcs HPT HWK;obtain ⟨n1,hn1⟩:=eX drag.length;rw [hn1] at hcs HPT;have HCS:=hZ hcs;have c12:wi.cell? ⟨b,off2+k * 15+12,none⟩=some (.slice A1 n1 c1):=hcs 12 _ rfl;clear hvk hcs;by_cases h8:8<n1
     ·have h8i:(8:Int)<(n1:Int):=by omega
      go_wp2_with (refine wpLoadK rfl 46 _ rfl b (off2+k * 15) rfl #[time,step,tl,th,fl,fh,dxl,dxh,dyl,dyh,dzl,dzh,.slice A1 n1 c1,dl,dh] _ HCS.out u_46 rfl i_46 ?_)
      exact HFIN.out _ _ HF.out
     have h8i:¬ (8:Int)<(n1:Int):=by omega
     have HST:=hZ fun w' (hb:Below w.heap.size w w')=>steps39_any ⟨time,step,⟨tl,th⟩,⟨fl,fh⟩,⟨⟨dxl,dxh⟩,⟨dyl,dyh⟩,⟨dzl,dzh⟩⟩,drag,⟨dl,dh⟩⟩ A1 n1 c1 (ptL drag) (by omega) HWK.out.time HWK.out.step w' (HPT.out w' hb)
     unfold arcV at HST;dsimp only at HST;clear hn1;go_wp2_with (refine wpLoadK rfl 46 _ rfl b (off2+k * 15) rfl #[time,step,tl,th,fl,fh,dxl,dxh,dyl,dyh,dzl,dzh,.slice A1 n1 c1,dl,dh] _ HCS.out u_46 rfl i_46 ?_)
     clear c10 c12;refine (HST.out _ HF.out.toBelow).mono ?_
     rintro e wz ⟨q,r,rfl,hw⟩;have HF2:=hZ (HF.out.below hw);clear hw HF;go_wp2_with fail
     go_roundw
     case rel=>first | exact ⟨k+1,_,by have:=HKT.out;omega,by go_num,rfl,HF2⟩ | trace_state
     case measure=>simp [intOf] <;> omega

theorem u_72:Tryz.prog.underlying 72=some (.struct (match Tryz.prog.underlying 72 with | some (.struct f)=>f | _=>#[])):=by kernel_rfl
theorem i_72:(Tryz.prog.info? 72).map (·.size)=some 30:=by kernel_rfl
theorem u_47:Tryz.prog.underlying 47=some (.slice 46):=by kernel_rfl
theorem i_46z:(Tryz.prog.info? 46).map (fun i=>(i.zero,i.size,i.bytes))=some (some (arcV ⟨0,0,zeroS,zeroS,zeroB3,[],zeroS⟩ none 0 0),15,136):=by kernel_rfl
def tripA (p:PlanetD) (u:Value) (s:StateD):Array Value:=(planetV p).cells ++ #[u] ++ (stA s)
def oneR (r:ArcR):ArcR:=⟨⟨r.a.time,r.a.time,r.a.thrust,r.a.flow,r.a.dir,r.a.drag,r.a.drop⟩,r.A,r.c⟩
def arcsC (v:Nat→ArcR) (k:Nat):List Value:=(List.range k).flatMap fun i=>(arcA (oneR (v i))).toList
theorem arcsC_succ (v:Nat→ArcR) (k:Nat):arcsC v (k+1)=arcsC v k ++ (arcA (oneR (v k))).toList:=by unfold arcsC;rw [List.range_succ,List.flatMap_append];simp
def BriefPost (p:PlanetD) (n:Nat) (v:Nat→ArcR) (s:StateD) (w:World) (e:Ending) (w':World):Prop :=
 (∃ u,u.oneCell'=true∧e=.returned (.tuple #[.agg (tripA p u s),.bool false])∧Below w.heap.size w w') ∨
 ∃ u cur,e=.returned (.tuple #[.agg (tripA p u s),.bool true])∧n≤4∧(∀ i,i<n→(v i).a.drag.length≤8)∧LstAt 15 u cur n (arcsC v n)∧Fr w [] (lstE 46 u cur) w'
theorem brief_any (p:PlanetD) (A:Option Addr) (n c:Nat) (v:Nat→ArcR) (s:StateD) (w:World) (hA:n≤4→ArcsAt w w.heap.size A n v):Calls Tryz.prog 12 #[.agg (tripA p (.slice A n c) s),.int .i64 4] w (BriefPost p n v s w):=by
 refine pQ fun PQ hPQ=>?_
 have HNO:Hid (∀ w' u,u.oneCell'=true→Fr w [] [] w'→PQ (.returned (.tuple #[.agg (tripA p u s),.bool false])) w'):=hZ fun w' u h1 h=>by rw [← hPQ];exact .inl ⟨u,h1,rfl,h.toBelow⟩
 have HYES:Hid (∀ w' u cur,n≤4→(∀ i,i<n→(v i).a.drag.length≤8)→LstAt 15 u cur n (arcsC v n)→Fr w [] (lstE 46 u cur) w'→PQ (.returned (.tuple #[.agg (tripA p u s),.bool true])) w') :=
  hZ fun w' u cur h1 h2 h3 h4=>by rw [← hPQ];exact .inr ⟨u,cur,rfl,h1,h2,h3,h4⟩
 clear hPQ;have HA:=hZ hA;clear hA;obtain ⟨⟨mul,muh⟩,⟨rl,rh⟩,⟨ol,oh⟩,⟨sl,sh⟩,⟨⟨pxl,pxh⟩,⟨pyl,pyh⟩,⟨pzl,pzh⟩⟩⟩:=p;obtain ⟨t,⟨⟨axl,axh⟩,⟨ayl,ayh⟩,⟨azl,azh⟩⟩,⟨⟨bxl,bxh⟩,⟨byl,byh⟩,⟨bzl,bzh⟩⟩,⟨ml,mh⟩⟩:=s;unfold tripA planetV stA stateV at HNO HYES ⊢;dsimp only [Value.cells] at HNO HYES ⊢;simp only [List.append_toArray,List.cons_append,List.nil_append] at HNO HYES ⊢;obtain ⟨qb,W0,hqb,hW0,HF0⟩:=fM (Fr.start w) [(#[.int .i64 mul,.int .i64 muh,.int .i64 rl,.int .i64 rh,.int .i64 ol,.int .i64 oh,.int .i64 sl,.int .i64 sh,.int .i64 pxl,.int .i64 pxh,.int .i64 pyl,.int .i64 pyh,.int .i64 pzl,.int .i64 pzh,.slice A n c,.int .i64 t,.int .i64 axl,.int .i64 axh,.int .i64 ayl,.int .i64 ayh,.int .i64 azl,.int .i64 azh,.int .i64 bxl,.int .i64 bxh,.int .i64 byl,.int .i64 byh,.int .i64 bzl,.int .i64 bzh,.int .i64 ml,.int .i64 mh],72),(#[.int .i64 0,.int .i64 0,.int .i64 0,.int .i64 0,.int .i64 0,.int .i64 0,.int .i64 0,.int .i64 0,.int .i64 0,.int .i64 0,.int .i64 0,.int .i64 0,.int .i64 0,.int .i64 0,.slice none 0 0,.int .i64 0,.int .i64 0,.int .i64 0,.int .i64 0,.int .i64 0,.int .i64 0,.int .i64 0,.int .i64 0,.int .i64 0,.int .i64 0,.int .i64 0,.int .i64 0,.int .i64 0,.int .i64 0,.int .i64 0],72)];go_enter Tryz.func12,Tryz.ntmps12;go_upto_region 1 with (fail);clear hW0 hqb;by_cases h4:4<n
 ·have h4i:(4:Int)<(n:Int):=by omega
  have c1:W0.cell? ⟨qb,14,none⟩=some (.slice A n c):=(HF0.out.get 0 rfl).cell 14;go_wp2_with (first
    | (refine lF (gN HF0 0) #[.int .i64 mul,.int .i64 muh,.int .i64 rl,.int .i64 rh,.int .i64 ol,.int .i64 oh,.int .i64 sl,.int .i64 sh,.int .i64 pxl,.int .i64 pxh,.int .i64 pyl,.int .i64 pyh,.int .i64 pzl,.int .i64 pzh,.slice A n c,.int .i64 t,.int .i64 axl,.int .i64 axh,.int .i64 ayl,.int .i64 ayh,.int .i64 azl,.int .i64 azh,.int .i64 bxl,.int .i64 bxh,.int .i64 byl,.int .i64 byh,.int .i64 bzl,.int .i64 bzh,.int .i64 ml,.int .i64 mh] u_72 i_72 ?_)
    | (refine wpStoreF rfl rfl 72 _ _ rfl (qb+1) 0 rfl #[.int .i64 mul,.int .i64 muh,.int .i64 rl,.int .i64 rh,.int .i64 ol,.int .i64 oh,.int .i64 sl,.int .i64 sh,.int .i64 pxl,.int .i64 pxh,.int .i64 pyl,.int .i64 pyh,.int .i64 pzl,.int .i64 pzh,.slice A n c,.int .i64 t,.int .i64 axl,.int .i64 axh,.int .i64 ayl,.int .i64 ayh,.int .i64 azl,.int .i64 azh,.int .i64 bxl,.int .i64 bxh,.int .i64 byl,.int .i64 byh,.int .i64 bzl,.int .i64 bzh,.int .i64 ml,.int .i64 mh] rfl _ _ #[.int .i64 mul,.int .i64 muh,.int .i64 rl,.int .i64 rh,.int .i64 ol,.int .i64 oh,.int .i64 sl,.int .i64 sh,.int .i64 pxl,.int .i64 pxh,.int .i64 pyl,.int .i64 pyh,.int .i64 pzl,.int .i64 pzh,.slice A n c,.int .i64 t,.int .i64 axl,.int .i64 axh,.int .i64 ayl,.int .i64 ayh,.int .i64 azl,.int .i64 azh,.int .i64 bxl,.int .i64 bxh,.int .i64 byl,.int .i64 byh,.int .i64 bzl,.int .i64 bzh,.int .i64 ml,.int .i64 mh] (HF0.out.get 1 rfl) rfl (by show 0+30≤30;omega) (one_all rfl) i_72 ?_;intro w2 hk ho;clear c1;have HF3:Hid (Fr w [] [(qb,72,#[.int .i64 mul,.int .i64 muh,.int .i64 rl,.int .i64 rh,.int .i64 ol,.int .i64 oh,.int .i64 sl,.int .i64 sh,.int .i64 pxl,.int .i64 pxh,.int .i64 pyl,.int .i64 pyh,.int .i64 pzl,.int .i64 pzh,.slice A n c,.int .i64 t,.int .i64 axl,.int .i64 axh,.int .i64 ayl,.int .i64 ayh,.int .i64 azl,.int .i64 azh,.int .i64 bxl,.int .i64 bxh,.int .i64 byl,.int .i64 byh,.int .i64 bzl,.int .i64 bzh,.int .i64 ml,.int .i64 mh]),(qb+1,72,#[.int .i64 mul,.int .i64 muh,.int .i64 rl,.int .i64 rh,.int .i64 ol,.int .i64 oh,.int .i64 sl,.int .i64 sh,.int .i64 pxl,.int .i64 pxh,.int .i64 pyl,.int .i64 pyh,.int .i64 pzl,.int .i64 pzh,.slice A n c,.int .i64 t,.int .i64 axl,.int .i64 axh,.int .i64 ayl,.int .i64 ayh,.int .i64 azl,.int .i64 azh,.int .i64 bxl,.int .i64 bxh,.int .i64 byl,.int .i64 byh,.int .i64 bzl,.int .i64 bzh,.int .i64 ml,.int .i64 mh])] w2):=hZ (HF0.out.only 1 rfl ho hk);clear ho hk))
  refine ret_agg2 rfl rfl rfl (HF3.out.get 1 rfl) rfl u_72 rfl i_72 ?_
  exact HNO.out _ _ rfl HF3.out.drop
 have h4i:¬ (4:Int)<(n:Int):=by omega
 have HAA:=hZ (HA.out (by omega))
 have H4:=hZ h4;clear HA;have c1:W0.cell? ⟨qb,14,none⟩=some (.slice A n c):=(HF0.out.get 0 rfl).cell 14;have c2:W0.cell? ⟨qb,14,none⟩=some (.slice A n c):=(HF0.out.get 0 rfl).cell 14;go_wp2_with fail
 clear c1 c2;go_loopw [6,18] (fun u iv wr=>∃ (k:Nat) (cur:Array Value),k≤n∧iv=.int .i64 (k:Int)∧Hid (LstAt 15 u cur k (arcsC v k)∧Fr w [] ([(qb,72,#[.int .i64 mul,.int .i64 muh,.int .i64 rl,.int .i64 rh,.int .i64 ol,.int .i64 oh,.int .i64 sl,.int .i64 sh,.int .i64 pxl,.int .i64 pxh,.int .i64 pyl,.int .i64 pyh,.int .i64 pzl,.int .i64 pzh,.slice A n c,.int .i64 t,.int .i64 axl,.int .i64 axh,.int .i64 ayl,.int .i64 ayh,.int .i64 azl,.int .i64 azh,.int .i64 bxl,.int .i64 bxh,.int .i64 byl,.int .i64 byh,.int .i64 bzl,.int .i64 bzh,.int .i64 ml,.int .i64 mh]),(qb+1,72,#[.int .i64 0,.int .i64 0,.int .i64 0,.int .i64 0,.int .i64 0,.int .i64 0,.int .i64 0,.int .i64 0,.int .i64 0,.int .i64 0,.int .i64 0,.int .i64 0,.int .i64 0,.int .i64 0,.slice none 0 0,.int .i64 0,.int .i64 0,.int .i64 0,.int .i64 0,.int .i64 0,.int .i64 0,.int .i64 0,.int .i64 0,.int .i64 0,.int .i64 0,.int .i64 0,.int .i64 0,.int .i64 0,.int .i64 0,.int .i64 0])] ++ (lstE 46 (u) cur ++ [])) wr∧∀ i,i<k→(v i).a.drag.length≤8)) (fun _ iv _=>n - (intOf iv).toNat)
 case atStart=>exact ⟨0,#[],Nat.zero_le _,rfl,hZ ⟨LstAt.nil 15,HF0.out,fun i h=>absurd h (by omega)⟩⟩
 case round =>
  obtain ⟨wo,rfl⟩:∃ wo:World,wo=wr:=⟨_,rfl⟩;obtain ⟨k,cur,hk,rfl,hs⟩:=hrel;obtain ⟨q1,m1,k1,rfl⟩:=lst_slice hs.out.1;have HL:=hZ hs.out.1;have HFO:Hid (Fr w [] ([(qb,72,#[.int .i64 mul,.int .i64 muh,.int .i64 rl,.int .i64 rh,.int .i64 ol,.int .i64 oh,.int .i64 sl,.int .i64 sh,.int .i64 pxl,.int .i64 pxh,.int .i64 pyl,.int .i64 pyh,.int .i64 pzl,.int .i64 pzh,.slice A n c,.int .i64 t,.int .i64 axl,.int .i64 axh,.int .i64 ayl,.int .i64 ayh,.int .i64 azl,.int .i64 azh,.int .i64 bxl,.int .i64 bxh,.int .i64 byl,.int .i64 byh,.int .i64 bzl,.int .i64 bzh,.int .i64 ml,.int .i64 mh]),(qb+1,72,#[.int .i64 0,.int .i64 0,.int .i64 0,.int .i64 0,.int .i64 0,.int .i64 0,.int .i64 0,.int .i64 0,.int .i64 0,.int .i64 0,.int .i64 0,.int .i64 0,.int .i64 0,.int .i64 0,.slice none 0 0,.int .i64 0,.int .i64 0,.int .i64 0,.int .i64 0,.int .i64 0,.int .i64 0,.int .i64 0,.int .i64 0,.int .i64 0,.int .i64 0,.int .i64 0,.int .i64 0,.int .i64 0,.int .i64 0,.int .i64 0])] ++ (lstE 46 (.slice q1 m1 k1) cur ++ [])) wo):=hZ hs.out.2.1;have HDR:=hZ hs.out.2.2;clear hs HF0;have h0k:(0:Int)≤(k:Int):=by omega
  by_cases hlt:k<n
  ·have hki:(k:Int)<(n:Int):=by omega
   have HLT:=hZ hlt;obtain ⟨b,off,hA,-,-⟩:=HAA.out.1.2 (by omega)
   have hcs:=HAA.out.cells hA hlt HFO.out;subst hA;have HSUC:=hZ (arcsC_succ v k);obtain ⟨⟨⟨time,step,⟨tl,th⟩,⟨fl,fh⟩,⟨⟨dxl,dxh⟩,⟨dyl,dyh⟩,⟨dzl,dzh⟩⟩,drag,⟨dl,dh⟩⟩,A1,c1⟩,hvk⟩:=eX (v k);have HVK:=hZ hvk;simp only [hvk] at hcs;rw [hvk] at HSUC;unfold oneR at HSUC;dsimp only [arcA] at hcs HSUC;obtain ⟨n1,hn1⟩:=eX drag.length;rw [hn1] at hcs HSUC;have HN1:=hZ hn1;have HCS:=hZ hcs;clear hvk hcs hn1;have HF:Hid (Fr w [] ([(qb,72,#[.int .i64 mul,.int .i64 muh,.int .i64 rl,.int .i64 rh,.int .i64 ol,.int .i64 oh,.int .i64 sl,.int .i64 sh,.int .i64 pxl,.int .i64 pxh,.int .i64 pyl,.int .i64 pyh,.int .i64 pzl,.int .i64 pzh,.slice (some ⟨b,off,none⟩) n c,.int .i64 t,.int .i64 axl,.int .i64 axh,.int .i64 ayl,.int .i64 ayh,.int .i64 azl,.int .i64 azh,.int .i64 bxl,.int .i64 bxh,.int .i64 byl,.int .i64 byh,.int .i64 bzl,.int .i64 bzh,.int .i64 ml,.int .i64 mh]),(qb+1,72,#[.int .i64 0,.int .i64 0,.int .i64 0,.int .i64 0,.int .i64 0,.int .i64 0,.int .i64 0,.int .i64 0,.int .i64 0,.int .i64 0,.int .i64 0,.int .i64 0,.int .i64 0,.int .i64 0,.slice none 0 0,.int .i64 0,.int .i64 0,.int .i64 0,.int .i64 0,.int .i64 0,.int .i64 0,.int .i64 0,.int .i64 0,.int .i64 0,.int .i64 0,.int .i64 0,.int .i64 0,.int .i64 0,.int .i64 0,.int .i64 0])] ++ (lstE 46 (.slice q1 m1 k1) cur ++ [])) wo):=HFO;obtain ⟨g3,w3,hg3,hw3,HF4⟩:=fAT HF.out #[(0:Int),(0:Int),(0:Int),(0:Int),(0:Int),(0:Int),(0:Int),(0:Int),(0:Int),(0:Int),(0:Int),(0:Int),.slice none 0 0,(0:Int),(0:Int)] 46;by_cases h8:8<n1
   ·have h8i:(8:Int)<(n1:Int):=by omega
    go_wp2_with (first
      | (refine wpLoadK rfl 46 _ rfl b (off+k * 15) rfl #[time,step,tl,th,fl,fh,dxl,dxh,dyl,dyh,dzl,dzh,.slice A1 n1 c1,dl,dh] _ HCS.out u_46 rfl i_46 ?_)
      | (refine lF (gN HF6 0) #[.int .i64 mul,.int .i64 muh,.int .i64 rl,.int .i64 rh,.int .i64 ol,.int .i64 oh,.int .i64 sl,.int .i64 sh,.int .i64 pxl,.int .i64 pxh,.int .i64 pyl,.int .i64 pyh,.int .i64 pzl,.int .i64 pzh,.slice (some ⟨b,off,none⟩) n c,.int .i64 t,.int .i64 axl,.int .i64 axh,.int .i64 ayl,.int .i64 ayh,.int .i64 azl,.int .i64 azh,.int .i64 bxl,.int .i64 bxh,.int .i64 byl,.int .i64 byh,.int .i64 bzl,.int .i64 bzh,.int .i64 ml,.int .i64 mh] u_72 i_72 ?_)
      | (refine wpStoreF rfl rfl 46 _ _ rfl g3 0 rfl #[time,step,tl,th,fl,fh,dxl,dxh,dyl,dyh,dzl,dzh,.slice A1 n1 c1,dl,dh] rfl _ _ #[time,step,tl,th,fl,fh,dxl,dxh,dyl,dyh,dzl,dzh,.slice A1 n1 c1,dl,dh] (HF4.out.get 2 rfl) rfl (by show 0+15≤15;omega) (one_all rfl) i_46 ?_;intro w5 hk ho;clear hw3 hg3;have HF6:=fNT (HF4.out.only 2 rfl ho hk);clear ho hk;have c7:=cA (gN HF6 2) 12)
      | (refine wpStoreF rfl rfl 72 _ _ rfl (qb+1) 0 rfl #[.int .i64 mul,.int .i64 muh,.int .i64 rl,.int .i64 rh,.int .i64 ol,.int .i64 oh,.int .i64 sl,.int .i64 sh,.int .i64 pxl,.int .i64 pxh,.int .i64 pyl,.int .i64 pyh,.int .i64 pzl,.int .i64 pzh,.slice (some ⟨b,off,none⟩) n c,.int .i64 t,.int .i64 axl,.int .i64 axh,.int .i64 ayl,.int .i64 ayh,.int .i64 azl,.int .i64 azh,.int .i64 bxl,.int .i64 bxh,.int .i64 byl,.int .i64 byh,.int .i64 bzl,.int .i64 bzh,.int .i64 ml,.int .i64 mh] rfl _ _ #[.int .i64 mul,.int .i64 muh,.int .i64 rl,.int .i64 rh,.int .i64 ol,.int .i64 oh,.int .i64 sl,.int .i64 sh,.int .i64 pxl,.int .i64 pxh,.int .i64 pyl,.int .i64 pyh,.int .i64 pzl,.int .i64 pzh,.slice (some ⟨b,off,none⟩) n c,.int .i64 t,.int .i64 axl,.int .i64 axh,.int .i64 ayl,.int .i64 ayh,.int .i64 azl,.int .i64 azh,.int .i64 bxl,.int .i64 bxh,.int .i64 byl,.int .i64 byh,.int .i64 bzl,.int .i64 bzh,.int .i64 ml,.int .i64 mh] (HF6.out.get 1 rfl) rfl (by show 0+30≤30;omega) (one_all rfl) i_72 ?_;intro w8 hk ho;clear c7;have HF9:=fNT (HF6.out.only 1 rfl ho hk);clear ho hk))
    refine ret_agg2 rfl rfl rfl (HF9.out.get 1 rfl) rfl u_72 rfl i_72 ?_
    exact HNO.out _ _ rfl HF9.out.drop
   have h8i:¬ (8:Int)<(n1:Int):=by omega
   have H8:=hZ h8;go_wp2_with (first
     | (refine wpLoadK rfl 46 _ rfl b (off+k * 15) rfl #[time,step,tl,th,fl,fh,dxl,dxh,dyl,dyh,dzl,dzh,.slice A1 n1 c1,dl,dh] _ HCS.out u_46 rfl i_46 ?_)
     | (refine wpStoreF rfl rfl 46 _ _ rfl g3 0 rfl #[time,step,tl,th,fl,fh,dxl,dxh,dyl,dyh,dzl,dzh,.slice A1 n1 c1,dl,dh] rfl _ _ #[time,step,tl,th,fl,fh,dxl,dxh,dyl,dyh,dzl,dzh,.slice A1 n1 c1,dl,dh] (HF4.out.get 2 rfl) rfl (by show 0+15≤15;omega) (one_all rfl) i_46 ?_;intro w5 hk ho;clear hw3 hg3;have HF6:=fNT (HF4.out.only 2 rfl ho hk);clear ho hk;have c7:=cA (gN HF6 2) 12;have c8:=cA (gN HF6 2) 0)
     | (refine lF (gN HF10 2) #[time,time,tl,th,fl,fh,dxl,dxh,dyl,dyh,dzl,dzh,.slice A1 n1 c1,dl,dh] u_46 i_46 ?_)
     | (refine wpStoreCell rfl rfl 29 _ _ rfl g3 1 rfl (.int .i64 time) rfl _ _ (HF6.out.get 2 rfl) (by show 1<15;omega) rfl (by kernel_rfl) ?_;intro w9 hk ho;clear c7 c8;have HF10:=fNT (HF6.out.only 2 rfl ho hk);clear ho hk;obtain ⟨g11,w11,hg11,hw11,HF12⟩:=fAT HF10.out #[time,time,tl,th,fl,fh,dxl,dxh,dyl,dyh,dzl,dzh,.slice A1 n1 c1,dl,dh] 46)
     | (refine wpList_push (e:=46) (v:=.slice q1 m1 k1) (cur:=cur) (n:=k) (xs:=arcsC v k) (Y:=[]) (N:=[(qb,72,#[.int .i64 mul,.int .i64 muh,.int .i64 rl,.int .i64 rh,.int .i64 ol,.int .i64 oh,.int .i64 sl,.int .i64 sh,.int .i64 pxl,.int .i64 pxh,.int .i64 pyl,.int .i64 pyh,.int .i64 pzl,.int .i64 pzh,.slice (some ⟨b,off,none⟩) n c,.int .i64 t,.int .i64 axl,.int .i64 axh,.int .i64 ayl,.int .i64 ayh,.int .i64 azl,.int .i64 azh,.int .i64 bxl,.int .i64 bxh,.int .i64 byl,.int .i64 byh,.int .i64 bzl,.int .i64 bzh,.int .i64 ml,.int .i64 mh]),(qb+1,72,#[.int .i64 0,.int .i64 0,.int .i64 0,.int .i64 0,.int .i64 0,.int .i64 0,.int .i64 0,.int .i64 0,.int .i64 0,.int .i64 0,.int .i64 0,.int .i64 0,.int .i64 0,.int .i64 0,.slice none 0 0,.int .i64 0,.int .i64 0,.int .i64 0,.int .i64 0,.int .i64 0,.int .i64 0,.int .i64 0,.int .i64 0,.int .i64 0,.int .i64 0,.int .i64 0,.int .i64 0,.int .i64 0,.int .i64 0,.int .i64 0]),(g3,46,#[time,time,tl,th,fl,fh,dxl,dxh,dyl,dyh,dzl,dzh,.slice A1 n1 c1,dl,dh]),(g11,46,#[time,time,tl,th,fl,fh,dxl,dxh,dyl,dyh,dzl,dzh,.slice A1 n1 c1,dl,dh])]) rfl (.tmp 30) (.tmp 32) 47 rfl HF12.out HL.out u_47 i_46z rfl (by decide) (by decide) (by have:=HLT.out;have:=H4.out;omega) g11 1 #[time,time,tl,th,fl,fh,dxl,dxh,dyl,dyh,dzl,dzh,.slice A1 n1 c1,dl,dh] 46 rfl rfl (HF12.out.get 3 rfl) rfl rfl ?_;intro v' w' cur' h2 h3;have HP:=hZ (And.intro h2 h3);clear h2 h3))
   clear hw11 hg11;go_roundw
   case rel =>
    have HNEW:Hid (LstAt 15 v' cur' (k+1) (arcsC v (k+1))∧Fr w [] ([(qb,72,#[.int .i64 mul,.int .i64 muh,.int .i64 rl,.int .i64 rh,.int .i64 ol,.int .i64 oh,.int .i64 sl,.int .i64 sh,.int .i64 pxl,.int .i64 pxh,.int .i64 pyl,.int .i64 pyh,.int .i64 pzl,.int .i64 pzh,.slice (some ⟨b,off,none⟩) n c,.int .i64 t,.int .i64 axl,.int .i64 axh,.int .i64 ayl,.int .i64 ayh,.int .i64 azl,.int .i64 azh,.int .i64 bxl,.int .i64 bxh,.int .i64 byl,.int .i64 byh,.int .i64 bzl,.int .i64 bzh,.int .i64 ml,.int .i64 mh]),(qb+1,72,#[.int .i64 0,.int .i64 0,.int .i64 0,.int .i64 0,.int .i64 0,.int .i64 0,.int .i64 0,.int .i64 0,.int .i64 0,.int .i64 0,.int .i64 0,.int .i64 0,.int .i64 0,.int .i64 0,.slice none 0 0,.int .i64 0,.int .i64 0,.int .i64 0,.int .i64 0,.int .i64 0,.int .i64 0,.int .i64 0,.int .i64 0,.int .i64 0,.int .i64 0,.int .i64 0,.int .i64 0,.int .i64 0,.int .i64 0,.int .i64 0])] ++ (lstE 46 v' cur' ++ [])) w'∧∀ i,i<k+1→(v i).a.drag.length≤8):=hZ ⟨by rw [HSUC.out];exact HP.out.1,HP.out.2.sub ((List.sublist_append_left [_,_] _).append_right _),fun i hi=>by
     rcases Nat.lt_or_ge i k with h | h
     ·exact HDR.out i h
     ·obtain rfl:i=k:=by omega
      rw [HVK.out];show drag.length≤8;have:=HN1.out;have:=H8.out;omega⟩
    first
    | exact ⟨k+1,cur',by have:=HLT.out;omega,by go_num,HNEW⟩
    | exact ⟨v',_,_,⟨k+1,cur',by have:=HLT.out;omega,rfl,HNEW⟩,rfl,rfl,by go_num⟩
    | trace_state
   case measure=>simp [intOf] <;> omega
  ·obtain rfl:n=k:=by omega
   have hneg:¬ (n:Int)<(n:Int):=by omega
   go_wp2_with (first
     | (refine lF (gN HF4 0) #[.int .i64 mul,.int .i64 muh,.int .i64 rl,.int .i64 rh,.int .i64 ol,.int .i64 oh,.int .i64 sl,.int .i64 sh,.int .i64 pxl,.int .i64 pxh,.int .i64 pyl,.int .i64 pyh,.int .i64 pzl,.int .i64 pzh,.slice q1 m1 k1,.int .i64 t,.int .i64 axl,.int .i64 axh,.int .i64 ayl,.int .i64 ayh,.int .i64 azl,.int .i64 azh,.int .i64 bxl,.int .i64 bxh,.int .i64 byl,.int .i64 byh,.int .i64 bzl,.int .i64 bzh,.int .i64 ml,.int .i64 mh] u_72 i_72 ?_)
     | (refine wpStoreCell rfl rfl 47 _ _ rfl qb 14 rfl (.slice q1 m1 k1) rfl _ _ (HFO.out.get 0 rfl) (by show 14<30;omega) rfl (by kernel_rfl) ?_;intro w3 hk ho;have HF4:=fNT (HFO.out.only 0 rfl ho hk);clear ho hk)
     | (refine wpStoreF rfl rfl 72 _ _ rfl (qb+1) 0 rfl #[.int .i64 mul,.int .i64 muh,.int .i64 rl,.int .i64 rh,.int .i64 ol,.int .i64 oh,.int .i64 sl,.int .i64 sh,.int .i64 pxl,.int .i64 pxh,.int .i64 pyl,.int .i64 pyh,.int .i64 pzl,.int .i64 pzh,.slice q1 m1 k1,.int .i64 t,.int .i64 axl,.int .i64 axh,.int .i64 ayl,.int .i64 ayh,.int .i64 azl,.int .i64 azh,.int .i64 bxl,.int .i64 bxh,.int .i64 byl,.int .i64 byh,.int .i64 bzl,.int .i64 bzh,.int .i64 ml,.int .i64 mh] rfl _ _ #[.int .i64 mul,.int .i64 muh,.int .i64 rl,.int .i64 rh,.int .i64 ol,.int .i64 oh,.int .i64 sl,.int .i64 sh,.int .i64 pxl,.int .i64 pxh,.int .i64 pyl,.int .i64 pyh,.int .i64 pzl,.int .i64 pzh,.slice q1 m1 k1,.int .i64 t,.int .i64 axl,.int .i64 axh,.int .i64 ayl,.int .i64 ayh,.int .i64 azl,.int .i64 azh,.int .i64 bxl,.int .i64 bxh,.int .i64 byl,.int .i64 byh,.int .i64 bzl,.int .i64 bzh,.int .i64 ml,.int .i64 mh] (HF4.out.get 1 rfl) rfl (by show 0+30≤30;omega) (one_all rfl) i_72 ?_;intro w5 hk ho;have HF6:=fNT (HF4.out.only 1 rfl ho hk);clear ho hk))
   refine ret_agg2 rfl rfl rfl (HF6.out.get 1 rfl) rfl u_72 rfl i_72 ?_
   exact HYES.out _ _ cur (by have:=H4.out;omega) HDR.out HL.out (by have h:=HF6.out.sub (List.sublist_append_right _ _);rw [List.append_nil] at h;exact h)

theorem arcs_of {w w':World} {u:Value} {cur:Array Value} {n:Nat} {v:Nat→ArcR} {A:Option Addr} (hn:n≤4096) (hl:LstAt 15 u cur n (arcsC v n)) (hf:Fr w [] (lstE 46 u cur) w') (hA:ArcsAt w w.heap.size A n v) :
  ∃ A' cap,u=.slice A' n cap∧ArcsAt w' w'.heap.size A' n (fun i=>oneR (v i)):=by
 have hb:Below w.heap.size w w':=hf.toBelow;have hp:∀ i,i<n→PtsAt w' w'.heap.size (oneR (v i)).A (oneR (v i)).a.drag.length (ptL (oneR (v i)).a.drag):=fun i hi=>(hA.2 i hi:PtsAt w w.heap.size (v i).A (v i).a.drag.length (ptL (v i).a.drag)).to hb;rcases hl.2 with ⟨rfl,h0⟩ | ⟨g,cap,rfl,h1⟩
 ·subst h0;exact ⟨none,0,rfl,⟨by omega,fun h=>absurd h (by omega)⟩,hp⟩
 ·refine ⟨some ⟨g,0,none⟩,cap,rfl,⟨by omega,fun _=>⟨g,0,rfl,?_,fun i hi j hj=>?_⟩⟩,hp⟩
  ·exact (hf.get 0 rfl).lt
  ·have hk:Bk w' g 46 cur:=hf.get 0 rfl;have hs:=lst_seg (fun i=>arcA (oneR (v i))) (fun _=>rfl) hl (i:=i) (a:=i) (by simp [hi]) hi
   have e:(cur.toList.drop (i * 15)).take 15=(arcA (oneR (v i))).toList:=hs;rw [show 0+i * 15+j=i * 15+j by omega,hk.cell (i * 15+j),← Array.getElem?_toList]
   have h2:((cur.toList.drop (i * 15)).take 15)[j]?=(arcA (oneR (v i))).toList[j]?:=by rw [e]
   rw [List.getElem?_take,if_pos hj,List.getElem?_drop] at h2;rw [h2,Array.getElem?_toList];have h3:j<(arcA (oneR (v i))).size:=hj;rw [Array.getElem?_eq_getElem h3];simp [Array.getD,h3]
theorem tubes_of {w w':World} {us ut:Value} {cs ct:Array Value} {l:List TubeD} (h0:0<l.length) (hn:l.length≤4096) (hl:LstAt 16 ut ct l.length (tbsC l)) (hf:Fr w [] (lstE 38 us cs ++ lstE 58 ut ct) w') :
  ∃ g cap,ut=.slice (some ⟨g,0,none⟩) l.length cap∧l.length≤cap∧cap≤maxLen∧TbAt w' g l.length ct (fun k=>l.getD k noTb):=by
 rcases hl.2 with ⟨_,h⟩ | ⟨g,cap,rfl,h1,h2,h3,h4⟩
 ·omega
 ·refine ⟨g,cap,rfl,h1,h2,(hf.new (g,58,ct) (List.mem_append_right _ (by simp [lstE]))).2,hn,by rw [h3];omega,fun k hk=>?_⟩
  have hg:l[k]?=some (l.getD k noTb):=by rw [List.getD_eq_getElem?_getD,List.getElem?_eq_getElem hk];rfl
  exact lst_seg tbA (fun _=>rfl) hl hg hk
theorem stops_of {w w':World} {us ut:Value} {cs ct:Array Value} {l:List StateD} (h0:0<l.length) (hl:LstAt 15 us cs l.length (stsC l)) (hf:Fr w [] (lstE 38 us cs ++ lstE 58 ut ct) w') :
  ∃ g cap,us=.slice (some ⟨g,0,none⟩) l.length cap∧Bk w' g 38 cs∧∀ k S,l[k]?=some S→(cs.toList.drop (k * 15)).take 15=(stA S).toList:=by
 rcases hl.2 with ⟨_,h⟩ | ⟨g,cap,rfl,h1,h2,h3,h4⟩
 ·omega
 ·exact ⟨g,cap,rfl,(hf.new (g,38,cs) (List.mem_append_left _ (by simp [lstE]))).2,fun k S hk=>lst_seg stA (fun _=>rfl) hl hk (List.getElem?_eq_some_iff.1 hk).1⟩
end Go.Proofs.YtmkoegljnebdiaaGreat
