/- What is proved: the texts Me Mf Mg Mh, one behind the other; each says at its head what it proves, and under which conditions. -/
import Derived.Test.YtmkoegljnebdiaaGreatdPAborts12
namespace Go.Proofs.YtmkoegljnebdiaaGreat
open Go.RowKit Go.Shelf
set_option maxRecDepth 100000
set_option maxHeartbeats 16000000

theorem escape18_any (p:PlanetD) (m:ModeD) (t:TubeD) (wp:WdP p) (wm:WdM m) (wt:I64W (stOf t)) (hp:planetB p=true) (hm:ModeOk m) (ht:tubeB t=true) (w:World) (hA:ArcsAt w w.heap.size m.A m.n m.v) :
  Calls Tryz.prog 18 #[planetV p,modeV m,tubeV t] w fun e w'=>∃ v:Int,e=.returned (.tuple #[.int .i64 v,.int .i64 0])∧(v<0→Lost p m (stOf t))∧Below w.heap.size w w':=by
 have HCP:=hZ (fun w=>checkPlanet_any p w);rw [if_pos hp] at HCP;have HCT:=hZ (fun w=>checkTube54_any t w);rw [if_pos ht] at HCT;have HCM:=hZ fun w' (hb:Below w.heap.size w w')=>(checkMode_any m wm w' (hA.to hb)).mono (R':=fun e w2=>e=.returned (.int .i64 0)∧Below w'.heap.size w' w2) fun e w2 h=>by
  obtain ⟨r,rfl,h1,h2⟩:=h;rw [h1.2 hm];exact ⟨rfl,h2⟩
 have HES:=hZ fun w' (hb:Below w.heap.size w w')=>escape_any p m t wp wm wt w' (hA.to hb);refine pQ fun PQ hPQ=>?_
 have HFIN:Hid (∀ w' v,(v<0→Lost p m (stOf t))→Fr w [] [] w'→PQ (.returned (.tuple #[.int .i64 v,.int .i64 0])) w'):=hZ fun w' v hv hf=>by rw [← hPQ];exact ⟨v,rfl,hv,hf.toBelow⟩
 obtain ⟨⟨mul,muh⟩,⟨rl,rh⟩,⟨ol,oh⟩,⟨sl,sh⟩,⟨⟨pxl,pxh⟩,⟨pyl,pyh⟩,⟨pzl,pzh⟩⟩⟩:=p;obtain ⟨⟨hl,hh⟩,⟨pl,ph⟩,⟨ql,qh⟩,mf,mt,ms,md,n,v,A,c,mo,mr,mu⟩:=m;obtain ⟨tf,tg,⟨⟨axl,axh⟩,⟨ayl,ayh⟩,⟨azl,azh⟩⟩,⟨⟨bxl,bxh⟩,⟨byl,byh⟩,⟨bzl,bzh⟩⟩,⟨ml,mh⟩⟩:=t;unfold planetV at HCP HES ⊢;unfold modeV modeA at HCM HES ⊢;unfold tubeV at HCT HES ⊢;unfold EscPost at HES;dsimp only at HCP HCM HCT HES HFIN ⊢;clear hPQ hA wm wp wt hp hm ht;obtain ⟨qb,W0,hqb,hW0,HF0⟩:=fM (Fr.start w) [(#[mul,muh,rl,rh,ol,oh,sl,sh,pxl,pxh,pyl,pyh,pzl,pzh],36),(#[hl,hh,pl,ph,ql,qh,mf,mt,ms,md,.slice A n c,mo,mr,mu],89),(#[tf,tg,axl,axh,ayl,ayh,azl,azh,bxl,bxh,byl,byh,bzl,bzh,ml,mh],58)];go_enter Tryz.func18,Tryz.ntmps18;go_upto_region 1 with (fail);clear hW0 hqb;go_wp2_with (refine lF (gN HF0 0) #[mul,muh,rl,rh,ol,oh,sl,sh,pxl,pxh,pyl,pyh,pzl,pzh] u_36 i_36 ?_)
 refine mB HF0.out (HCP.out _) fun w1 HF2=>?_;go_wp2_with (refine wpLoadFG rfl 89 _ rfl (qb+1) 0 rfl _ _ (HF2.out.get 1 rfl) #[hl,hh,pl,ph,ql,qh,mf,mt,ms,md,.slice A n c,mo,mr,mu] rfl _ u_89 rfl i_89 ?_)
 refine mB HF2.out (HCM.out _ HF2.out.toBelow) fun w3 HF4=>?_;go_wp2_with (refine wpLoadFG rfl 58 _ rfl (qb+1+1) 0 rfl _ _ (HF4.out.get 2 rfl) #[tf,tg,axl,axh,ayl,ayh,azl,azh,bxl,bxh,byl,byh,bzl,bzh,ml,mh] rfl _ u_58 rfl i_58 ?_)
 refine mB HF4.out (HCT.out _) fun w5 HF6=>?_;go_wp2_with (first
   | (refine lF (gN HF6 0) #[mul,muh,rl,rh,ol,oh,sl,sh,pxl,pxh,pyl,pyh,pzl,pzh] u_36 i_36 ?_)
   | (refine lF (gN HF6 1) #[hl,hh,pl,ph,ql,qh,mf,mt,ms,md,.slice A n c,mo,mr,mu] u_89 i_89 ?_)
   | (refine lF (gN HF6 2) #[tf,tg,axl,axh,ayl,ayh,azl,azh,bxl,bxh,byl,byh,bzl,bzh,ml,mh] u_58 i_58 ?_))
 refine (HES.out _ HF6.out.toBelow).mono ?_
 rintro e we ⟨v,rfl,-,hv,hw⟩;have HF7:=hZ (HF6.out.below hw);clear hw;have HV:=hZ hv;clear hv;go_wp2_with fail
 exact HFIN.out _ _ HV.out HF7.out.drop

theorem wpLoadK {P:Program} {ops:Array Oper} {rest:List Oper} {o:Oper} {a:Act} {w:World} {Q:Exit→Act→World→Prop} (hgd:o.guard=none) (ty:TypeId) (x:Operand) (ho:o.op=.load ty x)
  (g off:Nat) (hx:a.eval x=.pointer (some ⟨g,off,none⟩)) (S:Array Value) (d:TypeDesc) (hc:∀ j u,S[j]?=some u→w.cell? ⟨g,off+j,none⟩=some u)
  (hu:P.underlying ty=some d) (hd:(match d with | .struct _ | .array _ _=>true | _=>false)=true) (hi:(P.info? ty).map (·.size)=some S.size)
  (h:wpList P ops Q rest (a.put o.dst (.agg S)) w):wpList P ops Q (o :: rest) a w :=
 wpList_plain hgd fun _ hK=>wpo_loadS ty x ho g off hx S d hc hu hd hi (hK _ _ h)
def ElAt (w:World) (N:Nat) (A:Option Addr) (n sz:Nat) (E:Nat→Array Value):Prop :=
 n≤4096∧(0<n→∃ g off,A=some ⟨g,off,none⟩∧g<N∧N≤w.heap.size∧∀ k,k<n→∀ j u,(E k)[j]?=some u→w.cell? ⟨g,off+k * sz+j,none⟩=some u)
theorem ElAt.to {w w':World} {N n sz:Nat} {A:Option Addr} {E:Nat→Array Value} (h:ElAt w N A n sz E) (hb:Below N w w'):ElAt w' N A n sz E :=
 ⟨h.1,fun hn=>by
  obtain ⟨g,off,h1,h2,h3,h4⟩:=h.2 hn;exact ⟨g,off,h1,h2,Nat.le_trans h3 hb.size,fun k hk j u hu=>(hb.cell (p:=⟨g,off+k * sz+j,none⟩) h2).trans (h4 k hk j u hu)⟩⟩
theorem ElAt.grow {w:World} {N N' n sz:Nat} {A:Option Addr} {E:Nat→Array Value} (h:ElAt w N A n sz E) (h1:N≤N') (h2:N'≤w.heap.size):ElAt w N' A n sz E :=
 ⟨h.1,fun hn=>by
  obtain ⟨g,off,a,b,_,d⟩:=h.2 hn;exact ⟨g,off,a,Nat.lt_of_lt_of_le b h1,h2,d⟩⟩

theorem index_fun (fid:Nat) (caps:Array Value) (A:Option Addr) (n c:Nat) (v:Nat→Value) (H G:Nat→Prop) (eg:∀ args w,(callFunc fid args).run Tryz.prog w=.ok (.enter fid args) w) (w:World) (hs:ElAt w w.heap.size A n 1 (fun k=>#[v k])) (hC:∀ k,k<n→∀ w',Below w.heap.size w w'→Calls Tryz.prog fid (#[v k] ++ caps) w' fun e w''=>(∃ b,e=.returned (.bool b)∧(b=false→H k)∧(b=true→G k))∧Below w'.heap.size w' w'') :
  Calls Tryz.prog 185 #[.slice A n c,.func (.func fid) #[] caps] w fun e w'=>(∃ r:Int,e=.returned (.int .i64 r)∧(r<0→∀ k,k<n→H k)∧(0≤r→∃ k,k<n∧G k))∧Below w.heap.size w w':=by
 refine pQ fun PQ hPQ=>?_
 have HFIN:Hid (∀ w' (r:Int),(r<0→∀ k,k<n→H k)→(0≤r→∃ k,k<n∧G k)→Below w.heap.size w w'→PQ (.returned (.int .i64 r)) w'):=hZ fun w' r h h2 hb=>by rw [← hPQ];exact ⟨⟨r,rfl,h,h2⟩,hb⟩
 have HC:=hZ hC;have HS:=hZ hs;have HEG:=hZ eg;have hn:=hs.1;clear hPQ hC hs eg;go_enter Tryz.func185,Tryz.ntmps185;go_wp2_with fail
 go_loopw [8] (fun p wr=>∃ k:Nat,k≤n∧p=.int .i64 (k:Int)∧Hid (Below w.heap.size w wr∧∀ j,j<k→H j)) (fun p _=>n - (intOf p).toNat)
 case atStart=>exact ⟨0,Nat.zero_le _,rfl,hZ ⟨Below.refl _ _,fun j h=>absurd h (by omega)⟩⟩
 case round =>
  obtain ⟨k,hk,rfl,hs⟩:=hrel;by_cases hlt:k<n
  ·have hki:(k:Int)<(n:Int):=by omega
   have h0k:(0:Int)≤(k:Int):=by omega
   obtain ⟨g,off,rfl,hgw,-,hcl⟩:=HS.out.2 (by omega)
   have hce:wr.cell? ⟨g,off+k,none⟩=some (v k):=(hs.out.1.cell (p:=⟨g,off+k,none⟩) hgw).trans (by have:=hcl k hlt 0 (v k) rfl;rwa [Nat.mul_one] at this)
   have HCK:=hZ (HC.out k hlt wr hs.out.1);have HGK:Hid (G k→∀ r:Int,0≤r→∃ k,k<n∧G k):=hZ fun h _ _=>⟨k,hlt,h⟩;have HLT:=hZ hlt;clear hcl hgw;have heg:=HEG.out;go_wp2_with fail
   clear heg;refine HCK.out.mono ?_
   rintro e w2 ⟨⟨b,rfl,hb,hb2⟩,hw⟩;have HB2:=hZ (hs.out.1.trans (hw.mono hs.out.1.size));cases b with
   | true =>
    have HG1:=hZ (HGK.out (hb2 rfl));clear hb hb2 hw;go_wp2_with fail
    exact HFIN.out _ _ (fun h=>absurd h (by omega)) (HG1.out _) HB2.out
   | false =>
    have HH:Hid (∀ j,j<k+1→H j):=hZ fun j hj=>by
     rcases Nat.lt_or_ge j k with h | h
     ·exact hs.out.2 j h
     ·rw [show j=k by omega];exact hb rfl
    clear hb hb2 hw;go_wp2_with fail
    go_roundw
    case rel=>exact ⟨k+1,by have:=HLT.out;omega,by go_num,hZ ⟨HB2.out,HH.out⟩⟩
    case measure=>simp [intOf];omega
  ·obtain rfl:k=n:=by omega
   have hneg:¬ (k:Int)<(k:Int):=by omega
   go_wp2_with fail
   exact HFIN.out _ _ (fun _=>hs.out.2) (fun h=>absurd h (by omega)) hs.out.1
theorem cont_fun (fid:Nat) (caps:Array Value) (A:Option Addr) (n c:Nat) (v:Nat→Value) (H G:Nat→Prop) (eg:∀ args w,(callFunc fid args).run Tryz.prog w=.ok (.enter fid args) w) (w:World) (hs:ElAt w w.heap.size A n 1 (fun k=>#[v k])) (hC:∀ k,k<n→∀ w',Below w.heap.size w w'→Calls Tryz.prog fid (#[v k] ++ caps) w' fun e w''=>(∃ b,e=.returned (.bool b)∧(b=false→H k)∧(b=true→G k))∧Below w'.heap.size w' w'') :
  Calls Tryz.prog 156 #[.slice A n c,.func (.func fid) #[] caps] w fun e w'=>(∃ b,e=.returned (.bool b)∧(b=false→∀ k,k<n→H k)∧(b=true→∃ k,k<n∧G k))∧Below w.heap.size w w':=by
 have H1:=hZ (index_fun fid caps A n c v H G eg w hs hC);refine pQ fun PQ hPQ=>?_
 have HFIN:Hid (∀ w' b,(b=false→∀ k,k<n→H k)→(b=true→∃ k,k<n∧G k)→Below w.heap.size w w'→PQ (.returned (.bool b)) w'):=hZ fun w' b h h2 hb=>by rw [← hPQ];exact ⟨⟨b,rfl,h,h2⟩,hb⟩
 clear hPQ hC hs eg;go_enter Tryz.func156,Tryz.ntmps156;go_wp2_with fail
 refine H1.out.mono ?_
 rintro e w2 ⟨⟨r,rfl,hr,hr2⟩,hw⟩;have HR:=hZ hr;have HR2:=hZ hr2;have HW:=hZ hw;clear hr hw hr2;by_cases h0:0≤r
 ·go_wp2_with fail
  exact HFIN.out _ _ (fun h=>by cases h) (fun _=>HR2.out h0) HW.out
 ·go_wp2_with fail
  exact HFIN.out _ _ (fun _=>HR.out (by omega)) (fun h=>absurd (of_decide_eq_true h) (by omega)) HW.out
theorem every1_fun (fid:Nat) (caps:Array Value) (x:Value) (H G:Prop) (eg:∀ args w,(callFunc fid args).run Tryz.prog w=.ok (.enter fid args) w) (g:Nat) (w:World) (hg:g<w.heap.size) (hcl:w.cell? ⟨g,0,none⟩=some (.func (.func fid) #[] caps))
  (hC:∀ w',Below w.heap.size w w'→Calls Tryz.prog fid (#[x] ++ caps) w' fun e w''=>(∃ b,e=.returned (.bool b)∧(b=true→H)∧(b=false→G))∧Below w'.heap.size w' w'') :
  Calls Tryz.prog 157 #[x,.pointer (some ⟨g,0,none⟩)] w fun e w'=>(∃ b,e=.returned (.bool b)∧(b=false→H)∧(b=true→G))∧Below w.heap.size w w':=by
 refine pQ fun PQ hPQ=>?_
 have HFIN:Hid (∀ w' b,(b=false→H)→(b=true→G)→Below w.heap.size w w'→PQ (.returned (.bool b)) w'):=hZ fun w' b h h2 hb=>by rw [← hPQ];exact ⟨⟨b,rfl,h,h2⟩,hb⟩
 have HC:=hZ hC;have HEG:=hZ eg;have HCL:=hZ hcl;have HGW:=hZ hg;clear hPQ hC eg hcl hg;go_enter Tryz.func157,Tryz.ntmps157;have hcl:=HCL.out;have heg:=HEG.out;go_wp2_with fail
 clear heg hcl;refine (HC.out _ (Below.refl _ _)).mono ?_
 rintro e w2 ⟨⟨b,rfl,hb,hb2⟩,hw⟩;have HB:=hZ hw;have H1:=hZ hb;have H2:=hZ hb2;clear hb hb2 hw;cases b with
 | true =>
  go_wp2_with fail
  exact HFIN.out _ _ (fun _=>H1.out (by trivial)) (fun h=>by cases h) HB.out
 | false =>
  go_wp2_with fail
  exact HFIN.out _ _ (fun h=>by cases h) (fun _=>H2.out (by trivial)) HB.out
theorem every_fun (fid:Nat) (caps:Array Value) (A:Option Addr) (n c:Nat) (v:Nat→Value) (H G:Nat→Prop) (eg:∀ args w,(callFunc fid args).run Tryz.prog w=.ok (.enter fid args) w) (w:World) (hs:ElAt w w.heap.size A n 1 (fun k=>#[v k])) (hC:∀ k,k<n→∀ w',Below w.heap.size w w'→Calls Tryz.prog fid (#[v k] ++ caps) w' fun e w''=>(∃ b,e=.returned (.bool b)∧(b=true→H k)∧(b=false→G k))∧Below w'.heap.size w' w'') :
  Calls Tryz.prog 101 #[.slice A n c,.func (.func fid) #[] caps] w fun e w'=>(∃ b,e=.returned (.bool b)∧(b=true→∀ k,k<n→H k)∧(b=false→∃ k,k<n∧G k))∧Below w.heap.size w w':=by
 refine pQ fun PQ hPQ=>?_
 have HFIN:Hid (∀ w' b,(b=true→∀ k,k<n→H k)→(b=false→∃ k,k<n∧G k)→Below w.heap.size w w'→PQ (.returned (.bool b)) w'):=hZ fun w' b h h2 hb=>by rw [← hPQ];exact ⟨⟨b,rfl,h,h2⟩,hb⟩
 have HEV:=hZ fun (g:Nat) w' (hg:g<w'.heap.size) (hb:Below w.heap.size w w') (hcl:w'.cell? ⟨g,0,none⟩=some (.func (.func fid) #[] caps)) =>
  cont_fun 157 #[.pointer (some ⟨g,0,none⟩)] A n c v H G (fun _ _=>rfl) w' ((hs.to hb).grow hb.size (Nat.le_refl _)) fun k hk w1 h1 =>
   every1_fun fid caps (v k) (H k) (G k) eg g w1 (Nat.lt_of_lt_of_le hg h1.size) ((h1.cell (p:=⟨g,0,none⟩) hg).trans hcl) fun w2 h2=>hC k hk w2 (hb.trans (h1.mono hb.size |>.trans (h2.mono (Nat.le_trans hb.size h1.size))))
 clear hPQ hC hs eg;obtain ⟨qb,W0,hqb,hW0,HF0⟩:=fM (Fr.start w) [(#[.func (.func fid) #[] caps],193)];go_enter Tryz.func101,Tryz.ntmps101;go_upto_region 1 with (fail);clear hW0;go_wp2_with fail
 refine (HEV.out qb _ (by have:=HF0.out.get 0 rfl;exact this.lt) HF0.out.toBelow ((HF0.out.get 0 rfl).cell 0)).mono ?_
 rintro e w2 ⟨⟨b,rfl,hb,hb2⟩,hw⟩;have HB:=hZ (HF0.out.below hw).toBelow;have H1:=hZ hb;have H2:=hZ hb2;clear hb hb2 hw hqb;cases b with
 | true =>
  go_wp2_with fail
  exact HFIN.out _ _ (fun h=>by cases h) (fun _=>H2.out (by trivial)) HB.out
 | false =>
  go_wp2_with fail
  exact HFIN.out _ _ (fun _=>H1.out (by trivial)) (fun h=>by cases h) HB.out

theorem index_int (fid:Nat) (caps:Array Value) (A:Option Addr) (n c:Nat) (v:Nat→Value) (H G:Nat→Prop) (eg:∀ args w,(callFunc fid args).run Tryz.prog w=.ok (.enter fid args) w) (w:World) (hs:ElAt w w.heap.size A n 1 (fun k=>#[v k])) (hC:∀ k,k<n→∀ w',Below w.heap.size w w'→Calls Tryz.prog fid (#[v k] ++ caps) w' fun e w''=>(∃ b,e=.returned (.bool b)∧(b=false→H k)∧(b=true→G k))∧Below w'.heap.size w' w'') :
  Calls Tryz.prog 158 #[.slice A n c,.func (.func fid) #[] caps] w fun e w'=>(∃ r:Int,e=.returned (.int .i64 r)∧(r<0→∀ k,k<n→H k)∧(0≤r→∃ k,k<n∧G k))∧Below w.heap.size w w':=by
 refine pQ fun PQ hPQ=>?_
 have HFIN:Hid (∀ w' (r:Int),(r<0→∀ k,k<n→H k)→(0≤r→∃ k,k<n∧G k)→Below w.heap.size w w'→PQ (.returned (.int .i64 r)) w'):=hZ fun w' r h h2 hb=>by rw [← hPQ];exact ⟨⟨r,rfl,h,h2⟩,hb⟩
 have HC:=hZ hC;have HS:=hZ hs;have HEG:=hZ eg;have hn:=hs.1;clear hPQ hC hs eg;go_enter Tryz.func158,Tryz.ntmps158;go_wp2_with fail
 go_loopw [8] (fun p wr=>∃ k:Nat,k≤n∧p=.int .i64 (k:Int)∧Hid (Below w.heap.size w wr∧∀ j,j<k→H j)) (fun p _=>n - (intOf p).toNat)
 case atStart=>exact ⟨0,Nat.zero_le _,rfl,hZ ⟨Below.refl _ _,fun j h=>absurd h (by omega)⟩⟩
 case round =>
  obtain ⟨k,hk,rfl,hs⟩:=hrel;by_cases hlt:k<n
  ·have hki:(k:Int)<(n:Int):=by omega
   have h0k:(0:Int)≤(k:Int):=by omega
   obtain ⟨g,off,rfl,hgw,-,hcl⟩:=HS.out.2 (by omega)
   have hce:wr.cell? ⟨g,off+k,none⟩=some (v k):=(hs.out.1.cell (p:=⟨g,off+k,none⟩) hgw).trans (by have:=hcl k hlt 0 (v k) rfl;rwa [Nat.mul_one] at this)
   have HCK:=hZ (HC.out k hlt wr hs.out.1);have HGK:Hid (G k→∀ r:Int,0≤r→∃ k,k<n∧G k):=hZ fun h _ _=>⟨k,hlt,h⟩;have HLT:=hZ hlt;clear hcl hgw;have heg:=HEG.out;go_wp2_with fail
   clear heg;refine HCK.out.mono ?_
   rintro e w2 ⟨⟨b,rfl,hb,hb2⟩,hw⟩;have HB2:=hZ (hs.out.1.trans (hw.mono hs.out.1.size));cases b with
   | true =>
    have HG1:=hZ (HGK.out (hb2 rfl));clear hb hb2 hw;go_wp2_with fail
    exact HFIN.out _ _ (fun h=>absurd h (by omega)) (HG1.out _) HB2.out
   | false =>
    have HH:Hid (∀ j,j<k+1→H j):=hZ fun j hj=>by
     rcases Nat.lt_or_ge j k with h | h
     ·exact hs.out.2 j h
     ·rw [show j=k by omega];exact hb rfl
    clear hb hb2 hw;go_wp2_with fail
    go_roundw
    case rel=>exact ⟨k+1,by have:=HLT.out;omega,by go_num,hZ ⟨HB2.out,HH.out⟩⟩
    case measure=>simp [intOf];omega
  ·obtain rfl:k=n:=by omega
   have hneg:¬ (k:Int)<(k:Int):=by omega
   go_wp2_with fail
   exact HFIN.out _ _ (fun _=>hs.out.2) (fun h=>absurd h (by omega)) hs.out.1
theorem cont_int (fid:Nat) (caps:Array Value) (A:Option Addr) (n c:Nat) (v:Nat→Value) (H G:Nat→Prop) (eg:∀ args w,(callFunc fid args).run Tryz.prog w=.ok (.enter fid args) w) (w:World) (hs:ElAt w w.heap.size A n 1 (fun k=>#[v k])) (hC:∀ k,k<n→∀ w',Below w.heap.size w w'→Calls Tryz.prog fid (#[v k] ++ caps) w' fun e w''=>(∃ b,e=.returned (.bool b)∧(b=false→H k)∧(b=true→G k))∧Below w'.heap.size w' w'') :
  Calls Tryz.prog 105 #[.slice A n c,.func (.func fid) #[] caps] w fun e w'=>(∃ b,e=.returned (.bool b)∧(b=false→∀ k,k<n→H k)∧(b=true→∃ k,k<n∧G k))∧Below w.heap.size w w':=by
 have H1:=hZ (index_int fid caps A n c v H G eg w hs hC);refine pQ fun PQ hPQ=>?_
 have HFIN:Hid (∀ w' b,(b=false→∀ k,k<n→H k)→(b=true→∃ k,k<n∧G k)→Below w.heap.size w w'→PQ (.returned (.bool b)) w'):=hZ fun w' b h h2 hb=>by rw [← hPQ];exact ⟨⟨b,rfl,h,h2⟩,hb⟩
 clear hPQ hC hs eg;go_enter Tryz.func105,Tryz.ntmps105;go_wp2_with fail
 refine H1.out.mono ?_
 rintro e w2 ⟨⟨r,rfl,hr,hr2⟩,hw⟩;have HR:=hZ hr;have HR2:=hZ hr2;have HW:=hZ hw;clear hr hw hr2;by_cases h0:0≤r
 ·go_wp2_with fail
  exact HFIN.out _ _ (fun h=>by cases h) (fun _=>HR2.out h0) HW.out
 ·go_wp2_with fail
  exact HFIN.out _ _ (fun _=>HR.out (by omega)) (fun h=>absurd (of_decide_eq_true h) (by omega)) HW.out
theorem every1_int (fid:Nat) (caps:Array Value) (x:Value) (H G:Prop) (eg:∀ args w,(callFunc fid args).run Tryz.prog w=.ok (.enter fid args) w) (g:Nat) (w:World) (hg:g<w.heap.size) (hcl:w.cell? ⟨g,0,none⟩=some (.func (.func fid) #[] caps))
  (hC:∀ w',Below w.heap.size w w'→Calls Tryz.prog fid (#[x] ++ caps) w' fun e w''=>(∃ b,e=.returned (.bool b)∧(b=true→H)∧(b=false→G))∧Below w'.heap.size w' w'') :
  Calls Tryz.prog 106 #[x,.pointer (some ⟨g,0,none⟩)] w fun e w'=>(∃ b,e=.returned (.bool b)∧(b=false→H)∧(b=true→G))∧Below w.heap.size w w':=by
 refine pQ fun PQ hPQ=>?_
 have HFIN:Hid (∀ w' b,(b=false→H)→(b=true→G)→Below w.heap.size w w'→PQ (.returned (.bool b)) w'):=hZ fun w' b h h2 hb=>by rw [← hPQ];exact ⟨⟨b,rfl,h,h2⟩,hb⟩
 have HC:=hZ hC;have HEG:=hZ eg;have HCL:=hZ hcl;have HGW:=hZ hg;clear hPQ hC eg hcl hg;go_enter Tryz.func106,Tryz.ntmps106;have hcl:=HCL.out;have heg:=HEG.out;go_wp2_with fail
 clear heg hcl;refine (HC.out _ (Below.refl _ _)).mono ?_
 rintro e w2 ⟨⟨b,rfl,hb,hb2⟩,hw⟩;have HB:=hZ hw;have H1:=hZ hb;have H2:=hZ hb2;clear hb hb2 hw;cases b with
 | true =>
  go_wp2_with fail
  exact HFIN.out _ _ (fun _=>H1.out (by trivial)) (fun h=>by cases h) HB.out
 | false =>
  go_wp2_with fail
  exact HFIN.out _ _ (fun h=>by cases h) (fun _=>H2.out (by trivial)) HB.out
theorem every_int (fid:Nat) (caps:Array Value) (A:Option Addr) (n c:Nat) (v:Nat→Value) (H G:Nat→Prop) (eg:∀ args w,(callFunc fid args).run Tryz.prog w=.ok (.enter fid args) w) (w:World) (hs:ElAt w w.heap.size A n 1 (fun k=>#[v k])) (hC:∀ k,k<n→∀ w',Below w.heap.size w w'→Calls Tryz.prog fid (#[v k] ++ caps) w' fun e w''=>(∃ b,e=.returned (.bool b)∧(b=true→H k)∧(b=false→G k))∧Below w'.heap.size w' w'') :
  Calls Tryz.prog 51 #[.slice A n c,.func (.func fid) #[] caps] w fun e w'=>(∃ b,e=.returned (.bool b)∧(b=true→∀ k,k<n→H k)∧(b=false→∃ k,k<n∧G k))∧Below w.heap.size w w':=by
 refine pQ fun PQ hPQ=>?_
 have HFIN:Hid (∀ w' b,(b=true→∀ k,k<n→H k)→(b=false→∃ k,k<n∧G k)→Below w.heap.size w w'→PQ (.returned (.bool b)) w'):=hZ fun w' b h h2 hb=>by rw [← hPQ];exact ⟨⟨b,rfl,h,h2⟩,hb⟩
 have HEV:=hZ fun (g:Nat) w' (hg:g<w'.heap.size) (hb:Below w.heap.size w w') (hcl:w'.cell? ⟨g,0,none⟩=some (.func (.func fid) #[] caps)) =>
  cont_int 106 #[.pointer (some ⟨g,0,none⟩)] A n c v H G (fun _ _=>rfl) w' ((hs.to hb).grow hb.size (Nat.le_refl _)) fun k hk w1 h1 =>
   every1_int fid caps (v k) (H k) (G k) eg g w1 (Nat.lt_of_lt_of_le hg h1.size) ((h1.cell (p:=⟨g,0,none⟩) hg).trans hcl) fun w2 h2=>hC k hk w2 (hb.trans (h1.mono hb.size |>.trans (h2.mono (Nat.le_trans hb.size h1.size))))
 clear hPQ hC hs eg;obtain ⟨qb,W0,hqb,hW0,HF0⟩:=fM (Fr.start w) [(#[.func (.func fid) #[] caps],144)];go_enter Tryz.func51,Tryz.ntmps51;go_upto_region 1 with (fail);clear hW0;go_wp2_with fail
 refine (HEV.out qb _ (by have:=HF0.out.get 0 rfl;exact this.lt) HF0.out.toBelow ((HF0.out.get 0 rfl).cell 0)).mono ?_
 rintro e w2 ⟨⟨b,rfl,hb,hb2⟩,hw⟩;have HB:=hZ (HF0.out.below hw).toBelow;have H1:=hZ hb;have H2:=hZ hb2;clear hb hb2 hw hqb;cases b with
 | true =>
  go_wp2_with fail
  exact HFIN.out _ _ (fun h=>by cases h) (fun _=>H2.out (by trivial)) HB.out
 | false =>
  go_wp2_with fail
  exact HFIN.out _ _ (fun _=>H1.out (by trivial)) (fun h=>by cases h) HB.out

theorem index_mode (fid:Nat) (caps:Array Value) (A:Option Addr) (n c:Nat) (v:Nat→ModeD) (H G:Nat→Prop) (eg:∀ args w,(callFunc fid args).run Tryz.prog w=.ok (.enter fid args) w) (w:World) (hs:ElAt w w.heap.size A n 14 (fun k=>modeA (v k))) (hC:∀ k,k<n→∀ w',Below w.heap.size w w'→Calls Tryz.prog fid (#[modeV (v k)] ++ caps) w' fun e w''=>(∃ b,e=.returned (.bool b)∧(b=false→H k)∧(b=true→G k))∧Below w'.heap.size w' w'') :
  Calls Tryz.prog 151 #[.slice A n c,.func (.func fid) #[] caps] w fun e w'=>(∃ r:Int,e=.returned (.int .i64 r)∧(r<0→∀ k,k<n→H k)∧(0≤r→∃ k,k<n∧G k))∧Below w.heap.size w w':=by
 refine pQ fun PQ hPQ=>?_
 have HFIN:Hid (∀ w' (r:Int),(r<0→∀ k,k<n→H k)→(0≤r→∃ k,k<n∧G k)→Below w.heap.size w w'→PQ (.returned (.int .i64 r)) w'):=hZ fun w' r h h2 hb=>by rw [← hPQ];exact ⟨⟨r,rfl,h,h2⟩,hb⟩
 have HC:=hZ hC;have HS:=hZ hs;have HEG:=hZ eg;have hn:=hs.1;clear hPQ hC hs eg;go_enter Tryz.func151,Tryz.ntmps151;go_wp2_with fail
 go_loopw [8] (fun p wr=>∃ k:Nat,k≤n∧p=.int .i64 (k:Int)∧Hid (Below w.heap.size w wr∧∀ j,j<k→H j)) (fun p _=>n - (intOf p).toNat)
 case atStart=>exact ⟨0,Nat.zero_le _,rfl,hZ ⟨Below.refl _ _,fun j h=>absurd h (by omega)⟩⟩
 case round =>
  obtain ⟨k,hk,rfl,hs⟩:=hrel;by_cases hlt:k<n
  ·have hki:(k:Int)<(n:Int):=by omega
   have h0k:(0:Int)≤(k:Int):=by omega
   obtain ⟨g,off,rfl,hgw,-,hcl⟩:=HS.out.2 (by omega)
   have HSC:Hid (∀ j u,(modeA (v k))[j]?=some u→wr.cell? ⟨g,off+k * 14+j,none⟩=some u):=hZ fun j u hu=>(hs.out.1.cell (p:=⟨g,off+k * 14+j,none⟩) hgw).trans (hcl k hlt j u hu);have HCK:=hZ (HC.out k hlt wr hs.out.1);have HGK:Hid (G k→∀ r:Int,0≤r→∃ k,k<n∧G k):=hZ fun h _ _=>⟨k,hlt,h⟩;obtain ⟨z,hv⟩:=eX (v k);rw [hv] at HSC HCK;obtain ⟨⟨hl,hh⟩,⟨pl,ph⟩,⟨ql,qh⟩,mf,mt,ms,md,mn,mv,mA,mc,mo,mr,mu⟩:=z;unfold modeV modeA at HCK;unfold modeA at HSC;dsimp only at HSC HCK;have HLT:=hZ hlt;clear hcl hgw;have heg:=HEG.out;go_wp2_with (refine wpLoadK rfl 89 _ rfl g (off+k * 14) rfl #[hl,hh,pl,ph,ql,qh,mf,mt,ms,md,.slice mA mn mc,mo,mr,mu] _ HSC.out u_89 rfl i_89 ?_)
   clear heg;refine HCK.out.mono ?_
   rintro e w2 ⟨⟨b,rfl,hb,hb2⟩,hw⟩;have HB2:=hZ (hs.out.1.trans (hw.mono hs.out.1.size));cases b with
   | true =>
    have HG1:=hZ (HGK.out (hb2 rfl));clear hb hb2 hw;go_wp2_with fail
    exact HFIN.out _ _ (fun h=>absurd h (by omega)) (HG1.out _) HB2.out
   | false =>
    have HH:Hid (∀ j,j<k+1→H j):=hZ fun j hj=>by
     rcases Nat.lt_or_ge j k with h | h
     ·exact hs.out.2 j h
     ·rw [show j=k by omega];exact hb rfl
    clear hb hb2 hw;go_wp2_with fail
    go_roundw
    case rel=>exact ⟨k+1,by have:=HLT.out;omega,by go_num,hZ ⟨HB2.out,HH.out⟩⟩
    case measure=>simp [intOf];omega
  ·obtain rfl:k=n:=by omega
   have hneg:¬ (k:Int)<(k:Int):=by omega
   go_wp2_with fail
   exact HFIN.out _ _ (fun _=>hs.out.2) (fun h=>absurd h (by omega)) hs.out.1
theorem cont_mode (fid:Nat) (caps:Array Value) (A:Option Addr) (n c:Nat) (v:Nat→ModeD) (H G:Nat→Prop) (eg:∀ args w,(callFunc fid args).run Tryz.prog w=.ok (.enter fid args) w) (w:World) (hs:ElAt w w.heap.size A n 14 (fun k=>modeA (v k))) (hC:∀ k,k<n→∀ w',Below w.heap.size w w'→Calls Tryz.prog fid (#[modeV (v k)] ++ caps) w' fun e w''=>(∃ b,e=.returned (.bool b)∧(b=false→H k)∧(b=true→G k))∧Below w'.heap.size w' w'') :
  Calls Tryz.prog 88 #[.slice A n c,.func (.func fid) #[] caps] w fun e w'=>(∃ b,e=.returned (.bool b)∧(b=false→∀ k,k<n→H k)∧(b=true→∃ k,k<n∧G k))∧Below w.heap.size w w':=by
 have H1:=hZ (index_mode fid caps A n c v H G eg w hs hC);refine pQ fun PQ hPQ=>?_
 have HFIN:Hid (∀ w' b,(b=false→∀ k,k<n→H k)→(b=true→∃ k,k<n∧G k)→Below w.heap.size w w'→PQ (.returned (.bool b)) w'):=hZ fun w' b h h2 hb=>by rw [← hPQ];exact ⟨⟨b,rfl,h,h2⟩,hb⟩
 clear hPQ hC hs eg;go_enter Tryz.func88,Tryz.ntmps88;go_wp2_with fail
 refine H1.out.mono ?_
 rintro e w2 ⟨⟨r,rfl,hr,hr2⟩,hw⟩;have HR:=hZ hr;have HR2:=hZ hr2;have HW:=hZ hw;clear hr hw hr2;by_cases h0:0≤r
 ·go_wp2_with fail
  exact HFIN.out _ _ (fun h=>by cases h) (fun _=>HR2.out h0) HW.out
 ·go_wp2_with fail
  exact HFIN.out _ _ (fun _=>HR.out (by omega)) (fun h=>absurd (of_decide_eq_true h) (by omega)) HW.out
theorem every1_mode (fid:Nat) (caps:Array Value) (m:ModeD) (H G:Prop) (eg:∀ args w,(callFunc fid args).run Tryz.prog w=.ok (.enter fid args) w) (g:Nat) (w:World) (hg:g<w.heap.size) (hcl:w.cell? ⟨g,0,none⟩=some (.func (.func fid) #[] caps))
  (hC:∀ w',Below w.heap.size w w'→Calls Tryz.prog fid (#[modeV m] ++ caps) w' fun e w''=>(∃ b,e=.returned (.bool b)∧(b=true→H)∧(b=false→G))∧Below w'.heap.size w' w'') :
  Calls Tryz.prog 89 #[modeV m,.pointer (some ⟨g,0,none⟩)] w fun e w'=>(∃ b,e=.returned (.bool b)∧(b=false→H)∧(b=true→G))∧Below w.heap.size w w':=by
 refine pQ fun PQ hPQ=>?_
 have HFIN:Hid (∀ w' b,(b=false→H)→(b=true→G)→Below w.heap.size w w'→PQ (.returned (.bool b)) w'):=hZ fun w' b h h2 hb=>by rw [← hPQ];exact ⟨⟨b,rfl,h,h2⟩,hb⟩
 have HC:=hZ hC;have HEG:=hZ eg;have HCL:=hZ hcl;have HGW:=hZ hg;clear hPQ hC eg hcl hg;obtain ⟨⟨hl,hh⟩,⟨pl,ph⟩,⟨ql,qh⟩,mf,mt,ms,md,mn,mv,mA,mc,mo,mr,mu⟩:=m;unfold modeV modeA at HC ⊢;dsimp only at HC ⊢;obtain ⟨qb,W0,hqb,hW0,HF0⟩:=fM (Fr.start w) [(#[hl,hh,pl,ph,ql,qh,mf,mt,ms,md,.slice mA mn mc,mo,mr,mu],89)];go_enter Tryz.func89,Tryz.ntmps89;go_upto_region 1 with (fail);clear hW0 hqb;have hcl:=(HF0.out.toBelow.cell (p:=⟨g,0,none⟩) HGW.out).trans HCL.out;have heg:=HEG.out;go_wp2_with (refine lF (gN HF0 0) #[hl,hh,pl,ph,ql,qh,mf,mt,ms,md,.slice mA mn mc,mo,mr,mu] u_89 i_89 ?_)
 clear heg hcl;refine (HC.out _ HF0.out.toBelow).mono ?_
 rintro e w2 ⟨⟨b,rfl,hb,hb2⟩,hw⟩;have HB:=hZ (HF0.out.below hw).toBelow;have H1:=hZ hb;have H2:=hZ hb2;clear hb hb2 hw;cases b with
 | true =>
  go_wp2_with fail
  exact HFIN.out _ _ (fun _=>H1.out (by trivial)) (fun h=>by cases h) HB.out
 | false =>
  go_wp2_with fail
  exact HFIN.out _ _ (fun h=>by cases h) (fun _=>H2.out (by trivial)) HB.out
theorem every_mode (fid:Nat) (caps:Array Value) (A:Option Addr) (n c:Nat) (v:Nat→ModeD) (H G:Nat→Prop) (eg:∀ args w,(callFunc fid args).run Tryz.prog w=.ok (.enter fid args) w) (w:World) (hs:ElAt w w.heap.size A n 14 (fun k=>modeA (v k))) (hC:∀ k,k<n→∀ w',Below w.heap.size w w'→Calls Tryz.prog fid (#[modeV (v k)] ++ caps) w' fun e w''=>(∃ b,e=.returned (.bool b)∧(b=true→H k)∧(b=false→G k))∧Below w'.heap.size w' w'') :
  Calls Tryz.prog 40 #[.slice A n c,.func (.func fid) #[] caps] w fun e w'=>(∃ b,e=.returned (.bool b)∧(b=true→∀ k,k<n→H k)∧(b=false→∃ k,k<n∧G k))∧Below w.heap.size w w':=by
 refine pQ fun PQ hPQ=>?_
 have HFIN:Hid (∀ w' b,(b=true→∀ k,k<n→H k)→(b=false→∃ k,k<n∧G k)→Below w.heap.size w w'→PQ (.returned (.bool b)) w'):=hZ fun w' b h h2 hb=>by rw [← hPQ];exact ⟨⟨b,rfl,h,h2⟩,hb⟩
 have HEV:=hZ fun (g:Nat) w' (hg:g<w'.heap.size) (hb:Below w.heap.size w w') (hcl:w'.cell? ⟨g,0,none⟩=some (.func (.func fid) #[] caps)) =>
  cont_mode 89 #[.pointer (some ⟨g,0,none⟩)] A n c v H G (fun _ _=>rfl) w' ((hs.to hb).grow hb.size (Nat.le_refl _)) fun k hk w1 h1 =>
   every1_mode fid caps (v k) (H k) (G k) eg g w1 (Nat.lt_of_lt_of_le hg h1.size) ((h1.cell (p:=⟨g,0,none⟩) hg).trans hcl) fun w2 h2=>hC k hk w2 (hb.trans (h1.mono hb.size |>.trans (h2.mono (Nat.le_trans hb.size h1.size))))
 clear hPQ hC hs eg;obtain ⟨qb,W0,hqb,hW0,HF0⟩:=fM (Fr.start w) [(#[.func (.func fid) #[] caps],130)];go_enter Tryz.func40,Tryz.ntmps40;go_upto_region 1 with (fail);clear hW0;go_wp2_with fail
 refine (HEV.out qb _ (by have:=HF0.out.get 0 rfl;exact this.lt) HF0.out.toBelow ((HF0.out.get 0 rfl).cell 0)).mono ?_
 rintro e w2 ⟨⟨b,rfl,hb,hb2⟩,hw⟩;have HB:=hZ (HF0.out.below hw).toBelow;have H1:=hZ hb;have H2:=hZ hb2;clear hb hb2 hw hqb;cases b with
 | true =>
  go_wp2_with fail
  exact HFIN.out _ _ (fun h=>by cases h) (fun _=>H2.out (by trivial)) HB.out
 | false =>
  go_wp2_with fail
  exact HFIN.out _ _ (fun _=>H1.out (by trivial)) (fun h=>by cases h) HB.out

theorem wd_height (p:PlanetD) (b:BoxD):WdS (heightF p b).1:=by
 unfold heightF;split
 ·exact wd_subM _ _ _
 ·exact wd_zero
structure FitAt (p:PlanetD) (m:ModeD) (t:TubeD) (gp gd gm gt:Nat) (w:World):Prop where
 p:Bk w gp 36 (planetV p).cells
 d:Bk w gd 44 #[.slice none 0 0]
 m:Bk w gm 89 (modeA m)
 t:Bk w gt 58 (tubeV t).cells
theorem FitAt.to {p:PlanetD} {m:ModeD} {t:TubeD} {gp gd gm gt:Nat} {w w':World} (h:FitAt p m t gp gd gm gt w) (hb:Below w.heap.size w w'):FitAt p m t gp gd gm gt w' :=
 ⟨h.p.below hb h.p.lt,h.d.below hb h.d.lt,h.m.below hb h.m.lt,h.t.below hb h.t.lt⟩
theorem fit6_any (fid:Nat) (caps:Array Value) (H:Prop) (eg:∀ args w,(callFunc fid args).run Tryz.prog w=.ok (.enter fid args) w) (w:World)
  (hC:Calls Tryz.prog fid caps w fun e w'=>(∃ b,e=.returned (.bool b)∧(b=true→H))∧Below w.heap.size w w') :
  Calls Tryz.prog 102 #[.func (.func fid) #[] caps] w fun e w'=>(∃ b,e=.returned (.bool b)∧(b=true→H))∧Below w.heap.size w w':=by
 refine pQ fun PQ hPQ=>?_
 have HFIN:Hid (∀ w' b,(b=true→H)→Below w.heap.size w w'→PQ (.returned (.bool b)) w'):=hZ fun w' b h hb=>by rw [← hPQ];exact ⟨⟨b,rfl,h⟩,hb⟩
 have HC:=hZ hC;clear hPQ hC;go_enter Tryz.func102,Tryz.ntmps102;go_wp2_with fail
 clear eg;refine HC.out.mono ?_
 rintro e w2 ⟨⟨b,rfl,hb⟩,hw⟩;have H1:=hZ hb;have H2:=hZ hw;clear hb hw;go_wp2_with fail
 exact HFIN.out _ _ H1.out H2.out
theorem fit1_any (p:PlanetD) (m:ModeD) (t:TubeD) (gp gd gm gt:Nat) (wp:WdP p) (wm:WdM m) (wt:I64W (stOf t)) (w:World) (hf:FitAt p m t gp gd gm gt w) :
  Calls Tryz.prog 93 #[.pointer (some ⟨gm,0,none⟩),.pointer (some ⟨gt,0,none⟩)] w fun e w'=>(∃ b,e=.returned (.bool b)∧(b=true→True))∧Below w.heap.size w w':=by
 refine pQ fun PQ hPQ=>?_
 have HFIN:Hid (∀ w' b,(b=true→True)→Fr w [] [] w'→PQ (.returned (.bool b)) w'):=hZ fun w' b h hb=>by rw [← hPQ];exact ⟨⟨b,rfl,h⟩,hb.toBelow⟩
 have HP0:=hf.p;have HD:Hid (Bk w gd 44 #[.slice none 0 0]):=hZ hf.d;have HM0:=hf.m;have HT0:=hf.t;have HGP:=hZ HP0.lt;have HGD:=hZ HD.out.lt;have HGM:=hZ HM0.lt;have HGT:=hZ HT0.lt;obtain ⟨⟨mul,muh⟩,⟨rl,rh⟩,⟨ol,oh⟩,⟨sl,sh⟩,⟨⟨pxl,pxh⟩,⟨pyl,pyh⟩,⟨pzl,pzh⟩⟩⟩:=p;obtain ⟨⟨hl,hh⟩,⟨pl,ph⟩,⟨ql,qh⟩,mf,mt,ms,md,n,v,A,c,mo,mr,mu⟩:=m;obtain ⟨tf,tg,⟨⟨axl,axh⟩,⟨ayl,ayh⟩,⟨azl,azh⟩⟩,⟨⟨bxl,bxh⟩,⟨byl,byh⟩,⟨bzl,bzh⟩⟩,⟨ml,mh⟩⟩:=t;replace HP0:Hid (Bk w gp 36 #[mul,muh,rl,rh,ol,oh,sl,sh,pxl,pxh,pyl,pyh,pzl,pzh]):=hZ HP0;replace HM0:Hid (Bk w gm 89 #[hl,hh,pl,ph,ql,qh,mf,mt,ms,md,.slice A n c,mo,mr,mu]):=hZ HM0;replace HT0:Hid (Bk w gt 58 #[tf,tg,axl,axh,ayl,ayh,azl,azh,bxl,bxh,byl,byh,bzl,bzh,ml,mh]):=hZ HT0;clear hPQ hf wp wm wt;have HS0:Hid (Fr w [] [] w):=hZ (Fr.start w);go_enter Tryz.func93,Tryz.ntmps93;by_cases h1:mf≤tf
 ·skip
  have c1:=HM0.out.cell 6;have c2:=HM0.out.cell 7;have c3:=HT0.out.cell 0;have c4:=HT0.out.cell 1;simp only [List.getElem?_toArray,List.getElem?_cons_succ,List.getElem?_cons_zero] at c1 c2 c3 c4;go_wp2_with fail
  exact HFIN.out _ _ (fun _=>trivial) HS0.out
 ·skip
  have h1':¬ mf≤tf:=h1;have c1:=HM0.out.cell 6;have c2:=HM0.out.cell 7;have c3:=HT0.out.cell 0;have c4:=HT0.out.cell 1;simp only [List.getElem?_toArray,List.getElem?_cons_succ,List.getElem?_cons_zero] at c1 c2 c3 c4;go_wp2_with fail
  exact HFIN.out _ _ (fun _=>trivial) HS0.out
theorem fit2_any (p:PlanetD) (m:ModeD) (t:TubeD) (gp gd gm gt:Nat) (wp:WdP p) (wm:WdM m) (wt:I64W (stOf t)) (w:World) (hf:FitAt p m t gp gd gm gt w) :
  Calls Tryz.prog 94 #[.pointer (some ⟨gp,0,none⟩),.pointer (some ⟨gt,0,none⟩),.pointer (some ⟨gm,0,none⟩)] w fun e w'=>(∃ b,e=.returned (.bool b)∧(b=true→True))∧Below w.heap.size w w':=by
 refine pQ fun PQ hPQ=>?_
 have HFIN:Hid (∀ w' b,(b=true→True)→Fr w [] [] w'→PQ (.returned (.bool b)) w'):=hZ fun w' b h hb=>by rw [← hPQ];exact ⟨⟨b,rfl,h⟩,hb.toBelow⟩
 have HHT:=hZ fun w=>height_any p t.p wp.radius wt.2.1 w;have HIN:=hZ fun e w=>inside95_any m.height (heightF p t.p).1 e wm.height (wd_height p t.p) w;obtain ⟨⟨⟨xl,xh⟩,e5⟩,hx⟩:=eX (heightF p t.p);rw [hx] at HHT HIN;clear hx;have HP0:=hf.p;have HD:Hid (Bk w gd 44 #[.slice none 0 0]):=hZ hf.d;have HM0:=hf.m;have HT0:=hf.t;have HGP:=hZ HP0.lt;have HGD:=hZ HD.out.lt;have HGM:=hZ HM0.lt;have HGT:=hZ HT0.lt;obtain ⟨⟨mul,muh⟩,⟨rl,rh⟩,⟨ol,oh⟩,⟨sl,sh⟩,⟨⟨pxl,pxh⟩,⟨pyl,pyh⟩,⟨pzl,pzh⟩⟩⟩:=p;obtain ⟨⟨hl,hh⟩,⟨pl,ph⟩,⟨ql,qh⟩,mf,mt,ms,md,n,v,A,c,mo,mr,mu⟩:=m;obtain ⟨tf,tg,⟨⟨axl,axh⟩,⟨ayl,ayh⟩,⟨azl,azh⟩⟩,⟨⟨bxl,bxh⟩,⟨byl,byh⟩,⟨bzl,bzh⟩⟩,⟨ml,mh⟩⟩:=t;unfold planetV boxV spanV at HHT;unfold spanV at HIN;dsimp only at HHT HIN;replace HP0:Hid (Bk w gp 36 #[mul,muh,rl,rh,ol,oh,sl,sh,pxl,pxh,pyl,pyh,pzl,pzh]):=hZ HP0;replace HM0:Hid (Bk w gm 89 #[hl,hh,pl,ph,ql,qh,mf,mt,ms,md,.slice A n c,mo,mr,mu]):=hZ HM0;replace HT0:Hid (Bk w gt 58 #[tf,tg,axl,axh,ayl,ayh,azl,azh,bxl,bxh,byl,byh,bzl,bzh,ml,mh]):=hZ HT0;clear hPQ hf wp wm wt;have HS0:Hid (Fr w [] [] w):=hZ (Fr.start w);go_enter Tryz.func94,Tryz.ntmps94;go_wp2_with (first
   | (refine lF (HP0.out.below HS0.out.toBelow HGP.out) #[mul,muh,rl,rh,ol,oh,sl,sh,pxl,pxh,pyl,pyh,pzl,pzh] u_36 i_36 ?_)
   | (refine lF (HT0.out.below HS0.out.toBelow HGT.out) #[axl,axh,ayl,ayh,azl,azh] u_34 i_34 ?_))
 refine (HHT.out _).mono ?_
 rintro e w1 ⟨rfl,hw⟩;have HF2:Hid (Fr w [] [] w1):=hZ (HS0.out.below hw);clear hw;obtain ⟨g3,w3,hg3,hw3,HF4⟩:=fA HF2.out #[.int .i64 0,.int .i64 0] 31;go_wp2_with (first
   | (refine lS (HM0.out.below HF6.out.toBelow HGM.out) hl hh ?_)
   | (refine lS (gN HF6 0) xl xh ?_)
   | (refine sW 0 HF4.out i_span fun w5 HF6=>?_;clear hw3 hg3))
 refine (HIN.out _ _).mono ?_
 rintro e wz ⟨b,rfl,hw⟩;have HF7:=hZ (HF6.out.below hw);clear hw;go_wp2_with fail
 exact HFIN.out _ _ (fun _=>trivial) HF7.out.drop
theorem fit3_any (p:PlanetD) (m:ModeD) (t:TubeD) (gp gd gm gt:Nat) (wp:WdP p) (wm:WdM m) (wt:I64W (stOf t)) (w:World) (hf:FitAt p m t gp gd gm gt w) :
  Calls Tryz.prog 96 #[.pointer (some ⟨gt,0,none⟩),.pointer (some ⟨gm,0,none⟩)] w fun e w'=>(∃ b,e=.returned (.bool b)∧(b=true→True))∧Below w.heap.size w w':=by
 refine pQ fun PQ hPQ=>?_
 have HFIN:Hid (∀ w' b,(b=true→True)→Fr w [] [] w'→PQ (.returned (.bool b)) w'):=hZ fun w' b h hb=>by rw [← hPQ];exact ⟨⟨b,rfl,h⟩,hb.toBelow⟩
 have HSD:=hZ fun w=>speed97_any t.v wt.2.2.1 w;have HIN:=hZ fun e w=>inside95_any m.speed (normB [t.v.x,t.v.y,t.v.z]).1 e wm.speed (wd_norm _) w;obtain ⟨⟨⟨xl,xh⟩,e5⟩,hx⟩:=eX (normB [t.v.x,t.v.y,t.v.z]);rw [hx] at HSD HIN;clear hx;have HP0:=hf.p;have HD:Hid (Bk w gd 44 #[.slice none 0 0]):=hZ hf.d;have HM0:=hf.m;have HT0:=hf.t;have HGP:=hZ HP0.lt;have HGD:=hZ HD.out.lt;have HGM:=hZ HM0.lt;have HGT:=hZ HT0.lt;obtain ⟨⟨mul,muh⟩,⟨rl,rh⟩,⟨ol,oh⟩,⟨sl,sh⟩,⟨⟨pxl,pxh⟩,⟨pyl,pyh⟩,⟨pzl,pzh⟩⟩⟩:=p;obtain ⟨⟨hl,hh⟩,⟨pl,ph⟩,⟨ql,qh⟩,mf,mt,ms,md,n,v,A,c,mo,mr,mu⟩:=m;obtain ⟨tf,tg,⟨⟨axl,axh⟩,⟨ayl,ayh⟩,⟨azl,azh⟩⟩,⟨⟨bxl,bxh⟩,⟨byl,byh⟩,⟨bzl,bzh⟩⟩,⟨ml,mh⟩⟩:=t;unfold boxV spanV at HSD;unfold spanV at HIN;dsimp only at HSD HIN;replace HP0:Hid (Bk w gp 36 #[mul,muh,rl,rh,ol,oh,sl,sh,pxl,pxh,pyl,pyh,pzl,pzh]):=hZ HP0;replace HM0:Hid (Bk w gm 89 #[hl,hh,pl,ph,ql,qh,mf,mt,ms,md,.slice A n c,mo,mr,mu]):=hZ HM0;replace HT0:Hid (Bk w gt 58 #[tf,tg,axl,axh,ayl,ayh,azl,azh,bxl,bxh,byl,byh,bzl,bzh,ml,mh]):=hZ HT0;clear hPQ hf wp wm wt;have HS0:Hid (Fr w [] [] w):=hZ (Fr.start w);go_enter Tryz.func96,Tryz.ntmps96;go_wp2_with (refine lF (HT0.out.below HS0.out.toBelow HGT.out) #[bxl,bxh,byl,byh,bzl,bzh] u_34 i_34 ?_)
 refine (HSD.out _).mono ?_
 rintro e w1 ⟨rfl,hw⟩;have HF2:Hid (Fr w [] [] w1):=hZ (HS0.out.below hw);clear hw;obtain ⟨g3,w3,hg3,hw3,HF4⟩:=fA HF2.out #[.int .i64 0,.int .i64 0] 31;go_wp2_with (first
   | (refine lS (HM0.out.below HF6.out.toBelow HGM.out) pl ph ?_)
   | (refine lS (gN HF6 0) xl xh ?_)
   | (refine sW 0 HF4.out i_span fun w5 HF6=>?_;clear hw3 hg3))
 refine (HIN.out _ _).mono ?_
 rintro e wz ⟨b,rfl,hw⟩;have HF7:=hZ (HF6.out.below hw);clear hw;go_wp2_with fail
 exact HFIN.out _ _ (fun _=>trivial) HF7.out.drop
theorem fit4_any (p:PlanetD) (m:ModeD) (t:TubeD) (gp gd gm gt:Nat) (wp:WdP p) (wm:WdM m) (wt:I64W (stOf t)) (w:World) (hf:FitAt p m t gp gd gm gt w) :
  Calls Tryz.prog 98 #[.pointer (some ⟨gd,0,none⟩),.pointer (some ⟨gp,0,none⟩),.pointer (some ⟨gt,0,none⟩),.pointer (some ⟨gm,0,none⟩)] w fun e w'=>(∃ b,e=.returned (.bool b)∧(b=true→True))∧Below w.heap.size w w':=by
 refine pQ fun PQ hPQ=>?_
 have HFIN:Hid (∀ w' b,(b=true→True)→Fr w [] [] w'→PQ (.returned (.bool b)) w'):=hZ fun w' b h hb=>by rw [← hPQ];exact ⟨⟨b,rfl,h⟩,hb.toBelow⟩
 have HP0:=hf.p;have HD:Hid (Bk w gd 44 #[.slice none 0 0]):=hZ hf.d;have HM0:=hf.m;have HT0:=hf.t;have HGP:=hZ HP0.lt;have HGD:=hZ HD.out.lt;have HGM:=hZ HM0.lt;have HGT:=hZ HT0.lt;obtain ⟨⟨mul,muh⟩,⟨rl,rh⟩,⟨ol,oh⟩,⟨sl,sh⟩,⟨⟨pxl,pxh⟩,⟨pyl,pyh⟩,⟨pzl,pzh⟩⟩⟩:=p;obtain ⟨⟨hl,hh⟩,⟨pl,ph⟩,⟨ql,qh⟩,mf,mt,ms,md,n,v,A,c,mo,mr,mu⟩:=m;obtain ⟨tf,tg,⟨⟨axl,axh⟩,⟨ayl,ayh⟩,⟨azl,azh⟩⟩,⟨⟨bxl,bxh⟩,⟨byl,byh⟩,⟨bzl,bzh⟩⟩,⟨ml,mh⟩⟩:=t;replace HP0:Hid (Bk w gp 36 #[mul,muh,rl,rh,ol,oh,sl,sh,pxl,pxh,pyl,pyh,pzl,pzh]):=hZ HP0;replace HM0:Hid (Bk w gm 89 #[hl,hh,pl,ph,ql,qh,mf,mt,ms,md,.slice A n c,mo,mr,mu]):=hZ HM0;replace HT0:Hid (Bk w gt 58 #[tf,tg,axl,axh,ayl,ayh,azl,azh,bxl,bxh,byl,byh,bzl,bzh,ml,mh]):=hZ HT0;clear hPQ hf wp wm wt;have HS0:Hid (Fr w [] [] w):=hZ (Fr.start w);go_enter Tryz.func98,Tryz.ntmps98;have c1:=cA HD.out 0;go_wp2_with fail
 exact HFIN.out _ _ (fun _=>trivial) HS0.out
theorem fit5_any (p:PlanetD) (m:ModeD) (t:TubeD) (gp gd gm gt:Nat) (wp:WdP p) (wm:WdM m) (wt:I64W (stOf t)) (w:World) (hA:ArcsAt w w.heap.size m.A m.n m.v) (hf:FitAt p m t gp gd gm gt w) :
  Calls Tryz.prog 100 #[.pointer (some ⟨gp,0,none⟩),.pointer (some ⟨gm,0,none⟩),.pointer (some ⟨gt,0,none⟩)] w fun e w'=>(∃ b,e=.returned (.bool b)∧(b=true→Sure p m (stOf t)))∧Below w.heap.size w w':=by
 refine pQ fun PQ hPQ=>?_
 have HFIN:Hid (∀ w' b,(b=true→Sure p m (stOf t))→Fr w [] [] w'→PQ (.returned (.bool b)) w'):=hZ fun w' b h hb=>by rw [← hPQ];exact ⟨⟨b,rfl,h⟩,hb.toBelow⟩
 have HES:=hZ fun w' (hb:Below w.heap.size w w')=>escape_any p m t wp wm wt w' (hA.to hb);have HP0:=hf.p;have HD:Hid (Bk w gd 44 #[.slice none 0 0]):=hZ hf.d;have HM0:=hf.m;have HT0:=hf.t;have HGP:=hZ HP0.lt;have HGD:=hZ HD.out.lt;have HGM:=hZ HM0.lt;have HGT:=hZ HT0.lt;obtain ⟨⟨mul,muh⟩,⟨rl,rh⟩,⟨ol,oh⟩,⟨sl,sh⟩,⟨⟨pxl,pxh⟩,⟨pyl,pyh⟩,⟨pzl,pzh⟩⟩⟩:=p;obtain ⟨⟨hl,hh⟩,⟨pl,ph⟩,⟨ql,qh⟩,mf,mt,ms,md,n,v,A,c,mo,mr,mu⟩:=m;obtain ⟨tf,tg,⟨⟨axl,axh⟩,⟨ayl,ayh⟩,⟨azl,azh⟩⟩,⟨⟨bxl,bxh⟩,⟨byl,byh⟩,⟨bzl,bzh⟩⟩,⟨ml,mh⟩⟩:=t;unfold planetV modeV modeA tubeV EscPost at HES;dsimp only at HES HFIN;replace HP0:Hid (Bk w gp 36 #[mul,muh,rl,rh,ol,oh,sl,sh,pxl,pxh,pyl,pyh,pzl,pzh]):=hZ HP0;replace HM0:Hid (Bk w gm 89 #[hl,hh,pl,ph,ql,qh,mf,mt,ms,md,.slice A n c,mo,mr,mu]):=hZ HM0;replace HT0:Hid (Bk w gt 58 #[tf,tg,axl,axh,ayl,ayh,azl,azh,bxl,bxh,byl,byh,bzl,bzh,ml,mh]):=hZ HT0;clear hPQ hf wp wm wt;have HS0:Hid (Fr w [] [] w):=hZ (Fr.start w);go_enter Tryz.func100,Tryz.ntmps100;clear hA;go_wp2_with (first
   | (refine lF (HP0.out.below HS0.out.toBelow HGP.out) #[mul,muh,rl,rh,ol,oh,sl,sh,pxl,pxh,pyl,pyh,pzl,pzh] u_36 i_36 ?_)
   | (refine lF (HM0.out.below HS0.out.toBelow HGM.out) #[hl,hh,pl,ph,ql,qh,mf,mt,ms,md,.slice A n c,mo,mr,mu] u_89 i_89 ?_)
   | (refine lF (HT0.out.below HS0.out.toBelow HGT.out) #[tf,tg,axl,axh,ayl,ayh,azl,azh,bxl,bxh,byl,byh,bzl,bzh,ml,mh] u_58 i_58 ?_))
 refine (HES.out _ (Below.refl _ _)).mono ?_
 rintro e wz ⟨v,rfl,hv,-,hw⟩;have HV:=hZ hv;have HF1:Hid (Fr w [] [] wz):=hZ (HS0.out.below hw);clear hw hv;go_wp2_with fail
 exact HFIN.out _ _ (fun h=>HV.out (by simpa using h)) HF1.out.drop
theorem fits_any (p:PlanetD) (m:ModeD) (t:TubeD) (wp:WdP p) (wm:WdM m) (wt:I64W (stOf t)) (w:World) (hA:ArcsAt w w.heap.size m.A m.n m.v) :
  Calls Tryz.prog 46 #[planetV p,.slice none 0 0,modeV m,tubeV t] w fun e w'=>(∃ b,e=.returned (.bool b)∧(b=true→Sure p m (stOf t)))∧Below w.heap.size w w':=by
 refine pQ fun PQ hPQ=>?_
 have HFIN:Hid (∀ w' b,(b=true→Sure p m (stOf t))→Fr w [] [] w'→PQ (.returned (.bool b)) w'):=hZ fun w' b h hb=>by rw [← hPQ];exact ⟨⟨b,rfl,h⟩,hb.toBelow⟩
 have HEV:=hZ fun (gp gd gm gt g:Nat) w1 (hb:Below w.heap.size w w1) (hf:FitAt p m t gp gd gm gt w1) (hk:Bk w1 g 28 #[.func (.func 93) #[] #[.pointer (some ⟨gm,0,none⟩),.pointer (some ⟨gt,0,none⟩)],.func (.func 94) #[] #[.pointer (some ⟨gp,0,none⟩),.pointer (some ⟨gt,0,none⟩),.pointer (some ⟨gm,0,none⟩)],.func (.func 96) #[] #[.pointer (some ⟨gt,0,none⟩),.pointer (some ⟨gm,0,none⟩)],.func (.func 98) #[] #[.pointer (some ⟨gd,0,none⟩),.pointer (some ⟨gp,0,none⟩),.pointer (some ⟨gt,0,none⟩),.pointer (some ⟨gm,0,none⟩)],.func (.func 100) #[] #[.pointer (some ⟨gp,0,none⟩),.pointer (some ⟨gm,0,none⟩),.pointer (some ⟨gt,0,none⟩)]]) =>
  every_fun 102 #[] (some ⟨g,0,none⟩) 5 5 (fun k=>(#[.func (.func 93) #[] #[.pointer (some ⟨gm,0,none⟩),.pointer (some ⟨gt,0,none⟩)],.func (.func 94) #[] #[.pointer (some ⟨gp,0,none⟩),.pointer (some ⟨gt,0,none⟩),.pointer (some ⟨gm,0,none⟩)],.func (.func 96) #[] #[.pointer (some ⟨gt,0,none⟩),.pointer (some ⟨gm,0,none⟩)],.func (.func 98) #[] #[.pointer (some ⟨gd,0,none⟩),.pointer (some ⟨gp,0,none⟩),.pointer (some ⟨gt,0,none⟩),.pointer (some ⟨gm,0,none⟩)],.func (.func 100) #[] #[.pointer (some ⟨gp,0,none⟩),.pointer (some ⟨gm,0,none⟩),.pointer (some ⟨gt,0,none⟩)]]:Array Value).getD k (.int .i64 0)) (fun k=>k=4→Sure p m (stOf t)) (fun _=>True) (fun _ _=>rfl) w1
   ⟨by omega,fun _=>⟨g,0,rfl,hk.lt,Nat.le_refl _,fun k hk5 j u hu=>by
    obtain ⟨rfl,rfl⟩:j=0∧u=(#[.func (.func 93) #[] #[.pointer (some ⟨gm,0,none⟩),.pointer (some ⟨gt,0,none⟩)],.func (.func 94) #[] #[.pointer (some ⟨gp,0,none⟩),.pointer (some ⟨gt,0,none⟩),.pointer (some ⟨gm,0,none⟩)],.func (.func 96) #[] #[.pointer (some ⟨gt,0,none⟩),.pointer (some ⟨gm,0,none⟩)],.func (.func 98) #[] #[.pointer (some ⟨gd,0,none⟩),.pointer (some ⟨gp,0,none⟩),.pointer (some ⟨gt,0,none⟩),.pointer (some ⟨gm,0,none⟩)],.func (.func 100) #[] #[.pointer (some ⟨gp,0,none⟩),.pointer (some ⟨gm,0,none⟩),.pointer (some ⟨gt,0,none⟩)]]:Array Value).getD k (.int .i64 0):=by
     rcases j with _ | j
     ·simp at hu;exact ⟨rfl,by rw [← hu];simp⟩
     ·simp at hu
    rw [show 0+k * 1+0=k by omega]
    refine (hk.cell k).trans ?_
    match k,hk5 with
    | 0,_=>rfl
    | 1,_=>rfl
    | 2,_=>rfl
    | 3,_=>rfl
    | 4,_=>rfl⟩⟩
   fun k hk5 w2 h2=>by
    have hw:∀ {f:Nat} {caps:Array Value} {H:Prop},(∀ args w,(callFunc f args).run Tryz.prog w=.ok (.enter f args) w)→(H→(k=4→Sure p m (stOf t)))→Calls Tryz.prog f caps w2 (fun e w'=>(∃ b,e=.returned (.bool b)∧(b=true→H))∧Below w2.heap.size w2 w') →
      Calls Tryz.prog 102 (#[.func (.func f) #[] caps] ++ #[]) w2 fun e w''=>(∃ b,e=.returned (.bool b)∧(b=true→(k=4→Sure p m (stOf t)))∧(b=false→True))∧Below w2.heap.size w2 w'':=fun {f} {caps} {H} eg hH hC =>
     (fit6_any f caps H eg w2 hC).mono fun e w' h=>by
      obtain ⟨⟨b,h1,h2⟩,h3⟩:=h;exact ⟨⟨b,h1,fun hb=>hH (h2 hb),fun _=>trivial⟩,h3⟩
    match k,hk5 with
    | 0,_=>exact hw (fun _ _=>rfl) (fun _ e=>absurd e (by decide)) (fit1_any p m t gp gd gm gt wp wm wt w2 (hf.to h2))
    | 1,_=>exact hw (fun _ _=>rfl) (fun _ e=>absurd e (by decide)) (fit2_any p m t gp gd gm gt wp wm wt w2 (hf.to h2))
    | 2,_=>exact hw (fun _ _=>rfl) (fun _ e=>absurd e (by decide)) (fit3_any p m t gp gd gm gt wp wm wt w2 (hf.to h2))
    | 3,_=>exact hw (fun _ _=>rfl) (fun _ e=>absurd e (by decide)) (fit4_any p m t gp gd gm gt wp wm wt w2 (hf.to h2))
    | 4,_=>exact hw (fun _ _=>rfl) (fun h _=>h) (fit5_any p m t gp gd gm gt wp wm wt w2 ((hA.to hb).to h2) (hf.to h2))
 obtain ⟨⟨mul,muh⟩,⟨rl,rh⟩,⟨ol,oh⟩,⟨sl,sh⟩,⟨⟨pxl,pxh⟩,⟨pyl,pyh⟩,⟨pzl,pzh⟩⟩⟩:=p;obtain ⟨⟨hl,hh⟩,⟨pl,ph⟩,⟨ql,qh⟩,mf,mt,ms,md,n,v,A,c,mo,mr,mu⟩:=m;obtain ⟨tf,tg,⟨⟨axl,axh⟩,⟨ayl,ayh⟩,⟨azl,azh⟩⟩,⟨⟨bxl,bxh⟩,⟨byl,byh⟩,⟨bzl,bzh⟩⟩,⟨ml,mh⟩⟩:=t;unfold planetV modeV modeA tubeV;dsimp only at HFIN ⊢;clear hPQ hA wp wm wt;obtain ⟨qb,W0,hqb,hW0,HF0⟩:=fM (Fr.start w) [(#[mul,muh,rl,rh,ol,oh,sl,sh,pxl,pxh,pyl,pyh,pzl,pzh],36),(#[.slice none 0 0],44),(#[hl,hh,pl,ph,ql,qh,mf,mt,ms,md,.slice A n c,mo,mr,mu],89),(#[tf,tg,axl,axh,ayl,ayh,azl,azh,bxl,bxh,byl,byh,bzl,bzh,ml,mh],58)];go_enter Tryz.func46,Tryz.ntmps46;go_upto_region 1 with (fail);clear hW0 hqb;obtain ⟨g1,hg1⟩:=eX W0.heap.size;obtain ⟨w1,hw1⟩:=eX (W0.alloc (.cells #[.func (.func 93) #[] #[.pointer (some ⟨qb+1+1,0,none⟩),.pointer (some ⟨qb+1+1+1,0,none⟩)],.func (.func 94) #[] #[.pointer (some ⟨qb,0,none⟩),.pointer (some ⟨qb+1+1+1,0,none⟩),.pointer (some ⟨qb+1+1,0,none⟩)],.func (.func 96) #[] #[.pointer (some ⟨qb+1+1+1,0,none⟩),.pointer (some ⟨qb+1+1,0,none⟩)],.func (.func 98) #[] #[.pointer (some ⟨qb+1,0,none⟩),.pointer (some ⟨qb,0,none⟩),.pointer (some ⟨qb+1+1+1,0,none⟩),.pointer (some ⟨qb+1+1,0,none⟩)],.func (.func 100) #[] #[.pointer (some ⟨qb,0,none⟩),.pointer (some ⟨qb+1+1,0,none⟩),.pointer (some ⟨qb+1+1+1,0,none⟩)]] 28));have HF2:=fE hw1 (HF0.out.alloc hg1.symm 28 #[.func (.func 93) #[] #[.pointer (some ⟨qb+1+1,0,none⟩),.pointer (some ⟨qb+1+1+1,0,none⟩)],.func (.func 94) #[] #[.pointer (some ⟨qb,0,none⟩),.pointer (some ⟨qb+1+1+1,0,none⟩),.pointer (some ⟨qb+1+1,0,none⟩)],.func (.func 96) #[] #[.pointer (some ⟨qb+1+1+1,0,none⟩),.pointer (some ⟨qb+1+1,0,none⟩)],.func (.func 98) #[] #[.pointer (some ⟨qb+1,0,none⟩),.pointer (some ⟨qb,0,none⟩),.pointer (some ⟨qb+1+1+1,0,none⟩),.pointer (some ⟨qb+1+1,0,none⟩)],.func (.func 100) #[] #[.pointer (some ⟨qb,0,none⟩),.pointer (some ⟨qb+1+1,0,none⟩),.pointer (some ⟨qb+1+1+1,0,none⟩)]]);go_wp2_with fail
 clear hw1 hg1;refine (HEV.out qb (qb+1) (qb+1+1) (qb+1+1+1) g1 _ HF2.out.toBelow ⟨(HF2.out.get 0 rfl),(HF2.out.get 1 rfl),(HF2.out.get 2 rfl),(HF2.out.get 3 rfl)⟩ (HF2.out.get 4 rfl)).mono ?_
 rintro e wz ⟨⟨b,rfl,hb,-⟩,hw⟩;have HB:=hZ hb;have HF3:=hZ (HF2.out.below hw);clear hw hb;go_wp2_with fail
 exact HFIN.out _ _ (fun h=>HB.out h 4 (by omega) rfl) HF3.out.drop

theorem wanted_undef {l:List Oper} {a:Act} {o:Oper} (j:Nat) (want:Bool) (hg:o.guard=some (j,want)) {oj:Oper} {d:Nat} (hj:l[j]?=some oj) (hd:oj.dst=some d) (hv:a.tmps[d]?.getD undef=undef) :
  ¬ Region.wanted o (yielded l.toArray a.tmps)=true:=by
 have h:a.tmps[d]?=none ∨ a.tmps[d]?=some undef:=by
  cases h:a.tmps[d]? with
  | none=>exact .inl rfl
  | some v=>rw [h] at hv;exact .inr (by rw [show v=undef from hv])
 rcases h with h | h <;> cases want <;> simp [Region.wanted,hg,yielded,hj,hd,h,undef]
theorem airs_none (w:World):Calls Tryz.prog 44 #[.slice none 0 0] w fun e w'=>e=.returned (.bool true)∧Below w.heap.size w w':=by
 go_enter Tryz.func44,Tryz.ntmps44;go_wp2_with fail
 go_ret
 exact ⟨rfl,Below.refl _ _⟩
structure TbAt (w:World) (g n:Nat) (ct:Array Value) (t:Nat→TubeD):Prop where
 bk:Bk w g 58 ct
 le:n≤4096
 size:n * 16≤ct.size
 seg:∀ k,k<n→(ct.toList.drop (k * 16)).take 16=(tbA (t k)).toList
theorem TbAt.to {w w':World} {g n:Nat} {ct:Array Value} {t:Nat→TubeD} (h:TbAt w g n ct t) (hb:Below w.heap.size w w'):TbAt w' g n ct t:=⟨h.bk.below hb h.bk.lt,h.le,h.size,h.seg⟩
theorem TbAt.cell {w:World} {g n:Nat} {ct:Array Value} {t:Nat→TubeD} (h:TbAt w g n ct t) {k:Nat} (hk:k<n) (j:Nat) (hj:j<16):w.cell? ⟨g,k * 16+j,none⟩=(tbA (t k))[j]?:=by
 rw [h.bk.cell (k * 16+j),← Array.getElem?_toList,← Array.getElem?_toList,← h.seg k hk,List.getElem?_take,if_pos hj,List.getElem?_drop]
theorem Fr.forget {W w:World} {b:Nat} {t:TypeId} {cs:Array Value} {N:List Ent} (h:Fr W [(b,t,cs)] N w) (hk:Bk W b t cs):Fr W [] [] w :=
 ⟨h.os,h.tape,h.output,h.size,fun c hc _=>by
  by_cases hb:c=b
  ·subst hb;exact (h.getO 0 rfl).trans hk.symm
  ·exact h.far c hc (by simpa using hb),fun _ h=>(List.not_mem_nil h).elim,fun _ h=>(List.not_mem_nil h).elim,List.nodup_nil,List.nodup_nil⟩
def FlownTo (t:Nat→TubeD) (n:Nat):Prop:=∀ i,i<n→tubeB (t i)=true∧∀ j,i=j+1→(t i).frm=(t j).to
theorem ready1_any (m:ModeD) (wm:WdM m) (w:World) (hA:ArcsAt w w.heap.size m.A m.n m.v) :
  Calls Tryz.prog 41 #[modeV m] w fun e w'=>(∃ b,e=.returned (.bool b)∧(b=true→ModeOk m)∧(b=false→True))∧Below w.heap.size w w':=by
 have HCM:=hZ fun w' (hb:Below w.heap.size w w')=>checkMode_any m wm w' (hA.to hb);refine pQ fun PQ hPQ=>?_
 have HFIN:Hid (∀ w' b,(b=true→ModeOk m)→Fr w [] [] w'→PQ (.returned (.bool b)) w'):=hZ fun w' b h hb=>by rw [← hPQ];exact ⟨⟨b,rfl,h,fun _=>trivial⟩,hb.toBelow⟩
 obtain ⟨⟨hl,hh⟩,⟨pl,ph⟩,⟨ql,qh⟩,mf,mt,ms,md,n,v,A,c,mo,mr,mu⟩:=m;unfold modeV modeA at HCM ⊢;dsimp only at HCM HFIN ⊢;clear hPQ hA wm;obtain ⟨qb,W0,hqb,hW0,HF0⟩:=fM (Fr.start w) [(#[hl,hh,pl,ph,ql,qh,mf,mt,ms,md,.slice A n c,mo,mr,mu],89)];go_enter Tryz.func41,Tryz.ntmps41;go_upto_region 1 with (fail);clear hW0 hqb;go_wp2_with (refine lF (gN HF0 0) #[hl,hh,pl,ph,ql,qh,mf,mt,ms,md,.slice A n c,mo,mr,mu] u_89 i_89 ?_)
 refine (HCM.out _ HF0.out.toBelow).mono ?_
 rintro e wz ⟨r,rfl,hr,hw⟩;have HR:=hZ hr.1;have HF1:=hZ (HF0.out.below hw);clear hw hr;go_wp2_with fail
 exact HFIN.out _ _ (fun h=>HR.out (by simpa using h)) HF1.out.drop
theorem flown_any (g n cap:Nat) (ct:Array Value) (t:Nat→TubeD) (w:World) (ht:TbAt w g n ct t) :
  Calls Tryz.prog 45 #[.slice (some ⟨g,0,none⟩) n cap] w fun e w'=>(∃ b,e=.returned (.bool b)∧(b=true ↔ FlownTo t n))∧Below w.heap.size w w':=by
 refine pQ fun PQ hPQ=>?_
 have HFIN:Hid (∀ w' b,(b=true ↔ FlownTo t n)→Fr w [] [] w'→PQ (.returned (.bool b)) w'):=hZ fun w' b h hb=>by rw [← hPQ];exact ⟨⟨b,rfl,h⟩,hb.toBelow⟩
 have HT:=hZ ht;have HCT:=hZ fun k w=>checkTube54_any (t k) w;have hn:=ht.le;clear hPQ ht;go_enter Tryz.func45,Tryz.ntmps45;go_wp2_with fail
 go_loopw [7] (fun p wr=>∃ k:Nat,k≤n∧p=.int .i64 (k:Int)∧Hid (Fr w [(g,58,ct)] [] wr∧FlownTo t k)) (fun p _=>n - (intOf p).toNat)
 case atStart=>exact ⟨0,Nat.zero_le _,rfl,hZ ⟨Fr.start1 HT.out.bk,fun j h=>absurd h (by omega)⟩⟩
 case round =>
  obtain ⟨k,hk,rfl,hs⟩:=hrel;by_cases hlt:k<n
  rotate_left
  ·obtain rfl:k=n:=by omega
   have hneg:¬ (k:Int)<(k:Int):=by omega
   go_wp2_with fail
   exact HFIN.out _ _ ⟨fun _=>hs.out.2,fun _=>rfl⟩ (hs.out.1.forget HT.out.bk)
  ·have hki:(k:Int)<(n:Int):=by omega
   have h0k:(0:Int)≤(k:Int):=by omega
   obtain ⟨wo,rfl⟩:∃ wo:World,wo=wr:=⟨_,rfl⟩;have HF0:Hid (Fr w [(g,58,ct)] [] wo):=hZ hs.out.1;have HPR:=hZ hs.out.2;have HLT:=hZ hlt;have HSEG:=hZ (HT.out.seg k hlt);have HC1:=hZ (HCT.out k);clear hs;by_cases hb:tubeB (t k)=true
   rotate_left
   ·skip
    rw [if_neg hb] at HC1;have HB:=hZ hb;clear hb;obtain ⟨z,hz⟩:=eX (t k);have HZ:=hZ hz;rw [hz] at HSEG HC1;obtain ⟨tf,tg,⟨⟨axl,axh⟩,⟨ayl,ayh⟩,⟨azl,azh⟩⟩,⟨⟨bxl,bxh⟩,⟨byl,byh⟩,⟨bzl,bzh⟩⟩,⟨ml,mh⟩⟩:=z;unfold tbA tubeV at HSEG;unfold tubeV at HC1;dsimp only [Value.cells] at HSEG;dsimp only at HC1;clear hz;obtain ⟨g1,w1,hg1,hw1,HF2⟩:=fA HF0.out #[(0:Int),(0:Int),(0:Int),(0:Int),(0:Int),(0:Int),(0:Int),(0:Int),(0:Int),(0:Int),(0:Int),(0:Int),(0:Int),(0:Int),(0:Int),(0:Int)] 58;go_upto_region 4 with (first
      | (refine wpLoadF rfl 58 _ rfl g (k * 16) rfl _ _ (HF0.out.getO 0 rfl) #[tf,tg,axl,axh,ayl,ayh,azl,azh,bxl,bxh,byl,byh,bzl,bzh,ml,mh] (HSEG.out) _ u_58 rfl i_58 ?_)
      | (refine sW 0 HF2.out i_58 fun w3 HF4=>?_;clear hw1 hg1))
    refine wr0 (rM [(0,.agg #[tf,tg,axl,axh,ayl,ayh,azl,azh,bxl,bxh,byl,byh,bzl,bzh,ml,mh]),(1,.int .i64 2),(2,.bool true),(3,.bool true),(6,undef),(17,.bool true)]) HF4.out ?_ ?_
    ·refine ⟨?_,?_,?_,?_,?_,?_,?_,?_,?_,?_,?_,?_,?_,?_,?_,?_,?_,?_,trivial⟩
     all_goals intro a w1 vs dn k K S hpre KE DE kk
     ·exact oL (eT (KE 4)) (S.fr.left.get 0 rfl) u_58 (kk _ _) i_58
     ·have e12:=dep (DE 0 12);exact oE rfl (HC1.out _) (by simp [Act.eval,e12]) @kk
     ·have e13:=dep (DE 1 13);go_simp;exact kk _ _
     ·have e14:=dep (DE 2 14);go_simp;exact kk _ _
     iterate 3 exact wN 3 false (dep (DE 3 15)) (kk undef _)
     iterate 9 exact wU 6 true (dep (DE 6 18)) (kk undef _)
     ·have e18:=dep (DE 6 18);exact wN 3 false (dep (DE 3 15)) (kk undef _)
     ·have e15:=dep (DE 3 15);go_simp;exact kk _ _
    ·intro vs w5 HFr HR;have v17:vs 17=.bool true:=HR 17 _ rfl;have HF5:=hZ HFr;clear HFr HR;simp only [putAll,Act.put,List.setIfInBounds_toArray,List.set_cons_zero,List.set_cons_succ,v17];clear v17;go_wp2_with fail
     exact HFIN.out _ _ ⟨(fun h=>by cases h),fun h=>absurd (h k HLT.out).1 HB.out⟩ (HF5.out.forget HT.out.bk)
   ·rw [if_pos hb] at HC1;have HB:=hZ hb;clear hb;rcases k with _ | j
    ·skip
     obtain ⟨z,hz⟩:=eX (t 0);have HZ:=hZ hz;rw [hz] at HSEG HC1;obtain ⟨tf,tg,⟨⟨axl,axh⟩,⟨ayl,ayh⟩,⟨azl,azh⟩⟩,⟨⟨bxl,bxh⟩,⟨byl,byh⟩,⟨bzl,bzh⟩⟩,⟨ml,mh⟩⟩:=z;unfold tbA tubeV at HSEG;unfold tubeV at HC1;dsimp only [Value.cells] at HSEG;dsimp only at HC1;clear hz;obtain ⟨g1,w1,hg1,hw1,HF2⟩:=fA HF0.out #[(0:Int),(0:Int),(0:Int),(0:Int),(0:Int),(0:Int),(0:Int),(0:Int),(0:Int),(0:Int),(0:Int),(0:Int),(0:Int),(0:Int),(0:Int),(0:Int)] 58;go_upto_region 4 with (first
       | (refine wpLoadF rfl 58 _ rfl g (0 * 16) rfl _ _ (HF0.out.getO 0 rfl) #[tf,tg,axl,axh,ayl,ayh,azl,azh,bxl,bxh,byl,byh,bzl,bzh,ml,mh] (HSEG.out) _ u_58 rfl i_58 ?_)
       | (refine sW 0 HF2.out i_58 fun w3 HF4=>?_;clear hw1 hg1))
     refine wr0 (rM [(0,.agg #[tf,tg,axl,axh,ayl,ayh,azl,azh,bxl,bxh,byl,byh,bzl,bzh,ml,mh]),(1,.int .i64 0),(2,.bool false),(3,.bool false),(4,.int .i64 ((0:Nat):Int)),(5,.bool false),(6,.bool false),(16,.bool false),(17,.bool false)]) HF4.out ?_ ?_
     ·refine ⟨?_,?_,?_,?_,?_,?_,?_,?_,?_,?_,?_,?_,?_,?_,?_,?_,?_,?_,trivial⟩
      all_goals intro a w1 vs dn k K S hpre KE DE kk
      ·exact oL (eT (KE 4)) (S.fr.left.get 0 rfl) u_58 (kk _ _) i_58
      ·have e12:=dep (DE 0 12);exact oE rfl (HC1.out _) (by simp [Act.eval,e12]) @kk
      ·have e13:=dep (DE 1 13);go_simp;exact kk _ _
      ·have e14:=dep (DE 2 14);go_simp;exact kk _ _
      ·have e3:=KE 3;refine wY 3 false (dep (DE 3 15)) ?_
       go_simp;exact kk _ _
      ·have e16:=dep (DE 4 16);refine wY 3 false (dep (DE 3 15)) ?_
       go_simp;exact kk _ _
      ·have e17:=dep (DE 5 17);refine wY 3 false (dep (DE 3 15)) ?_
       go_simp;exact kk _ _
      iterate 9 exact wN 6 true (dep (DE 6 18)) (kk undef _)
      ·have e18:=dep (DE 6 18);refine wY 3 false (dep (DE 3 15)) ?_
       go_simp;exact kk _ _
      ·have e15:=dep (DE 3 15);have e28:=dep (DE 16 28);go_simp;exact kk _ _
     ·intro vs w5 HFr HR;have v17:vs 17=.bool false:=HR 17 _ rfl;have HF5:=hZ HFr;clear HFr HR;simp only [putAll,Act.put,List.setIfInBounds_toArray,List.set_cons_zero,List.set_cons_succ,v17];clear v17;go_wp2_with fail
      have HN:Hid (FlownTo t (0+1)):=hZ fun i hi=>by
       rcases Nat.lt_or_ge i (0) with h | h
       ·exact HPR.out i h
       ·obtain rfl:i=0:=by omega
        exact ⟨HB.out,fun j hj=>absurd hj (by omega)⟩
      go_roundw
      case rel=>exact ⟨0+1,by have:=HLT.out;omega,by go_num,hZ ⟨HF5.out.drop,HN.out⟩⟩
      case measure=>simp [intOf];omega
    ·skip
     obtain ⟨z,hz⟩:=eX (t (j+1));have HZ:=hZ hz;rw [hz] at HSEG HC1;obtain ⟨tf,tg,⟨⟨axl,axh⟩,⟨ayl,ayh⟩,⟨azl,azh⟩⟩,⟨⟨bxl,bxh⟩,⟨byl,byh⟩,⟨bzl,bzh⟩⟩,⟨ml,mh⟩⟩:=z;unfold tbA tubeV at HSEG;unfold tubeV at HC1;dsimp only [Value.cells] at HSEG;dsimp only at HC1;clear hz;obtain ⟨y,hy⟩:=eX (t j);have HYY:=hZ hy;obtain ⟨yg,hyg⟩:=eX ((t j).to);have HYG:=hZ hyg;have HY:Hid (ct[j * 16+1]?=some (.int .i64 yg)):=hZ (by
      have h1:=HT.out.cell (k:=j) (by have:=HLT.out;omega) 1 (by omega)
      rw [HT.out.bk.cell] at h1;rw [h1,← hyg];rfl)
     clear hy hyg;obtain ⟨nb,hnb⟩:∃ nb:Bool,(tf != yg)=nb:=⟨_,rfl⟩;have hsub:wrap64 (((j+1:Nat):Int) - 1)=(j:Int):=by rw [w64_in (by omega) (by omega)];omega
     have hwj:IntKind.i64.wrap (j:Int)=(j:Int):=IntWalk.i64_in _ (by omega)
     have hj1:(j:Int)<(n:Int):=by have:=HLT.out;omega
     have h0j:(0:Int)≤(j:Int):=by omega
     have hjn:j<n:=by have:=HLT.out;omega
     have hpos:(0:Int)<((j+1:Nat):Int):=by omega
     obtain ⟨g1,w1,hg1,hw1,HF2⟩:=fA HF0.out #[(0:Int),(0:Int),(0:Int),(0:Int),(0:Int),(0:Int),(0:Int),(0:Int),(0:Int),(0:Int),(0:Int),(0:Int),(0:Int),(0:Int),(0:Int),(0:Int)] 58;go_upto_region 4 with (first
       | (refine wpLoadF rfl 58 _ rfl g ((j+1) * 16) rfl _ _ (HF0.out.getO 0 rfl) #[tf,tg,axl,axh,ayl,ayh,azl,azh,bxl,bxh,byl,byh,bzl,bzh,ml,mh] (HSEG.out) _ u_58 rfl i_58 ?_)
       | (refine sW 0 HF2.out i_58 fun w3 HF4=>?_;clear hw1 hg1))
     refine wr0 (rV [.agg #[tf,tg,axl,axh,ayl,ayh,azl,azh,bxl,bxh,byl,byh,bzl,bzh,ml,mh],.int .i64 0,.bool false,.bool false,.int .i64 (((j+1):Nat):Int),.bool true,.bool true,.pointer (some ⟨g1,0,none⟩),.int .i64 tf,.slice (some ⟨g,0,none⟩) n cap,.int .i64 (((j+1):Nat):Int),.int .i64 (j:Int),.pointer (some ⟨g,j * 16,none⟩),.pointer (some ⟨g,j * 16+1,none⟩),.int .i64 yg,.bool nb,.bool nb,.bool nb]) HF4.out ?_ ?_
     ·refine ⟨?_,?_,?_,?_,?_,?_,?_,?_,?_,?_,?_,?_,?_,?_,?_,?_,?_,?_,trivial⟩
      all_goals intro a w1 vs dn k K S hpre KE DE kk
      ·exact oL (eT (KE 4)) (S.fr.left.get 0 rfl) u_58 (kk _ _) i_58
      ·have e12:=dep (DE 0 12);exact oE rfl (HC1.out _) (by simp [Act.eval,e12]) @kk
      ·have e13:=dep (DE 1 13);go_simp;exact kk _ _
      ·have e14:=dep (DE 2 14);go_simp;exact kk _ _
      ·have e3:=KE 3;refine wY 3 false (dep (DE 3 15)) ?_
       go_simp;exact kk _ _
      ·have e16:=dep (DE 4 16);refine wY 3 false (dep (DE 3 15)) ?_
       go_simp;exact kk _ _
      ·have e17:=dep (DE 5 17);refine wY 3 false (dep (DE 3 15)) ?_
       go_simp;exact kk _ _
      ·have e4:=KE 4;refine wY 6 true (dep (DE 6 18)) ?_
       go_simp;exact kk _ _
      ·have e19:=dep (DE 7 19);refine wY 6 true (dep (DE 6 18)) ?_
       have ca:w1.cell? ⟨g1,0,none⟩=some (.int .i64 tf):=(S.fr.left.get 0 rfl).cell 0;go_simp;exact kk _ _
      ·have e0:=KE 0;refine wY 6 true (dep (DE 6 18)) ?_
       go_simp;exact kk _ _
      ·have e3:=KE 3;refine wY 6 true (dep (DE 6 18)) ?_
       go_simp;exact kk _ _
      ·have e22:=dep (DE 10 22);refine wY 6 true (dep (DE 6 18)) ?_
       go_simp;exact kk _ _
      ·have e21:=dep (DE 9 21);have e23:=dep (DE 11 23);refine wY 6 true (dep (DE 6 18)) ?_
       go_simp;exact kk _ _
      ·have e24:=dep (DE 12 24);refine wY 6 true (dep (DE 6 18)) ?_
       go_simp;exact kk _ _
      ·have e25:=dep (DE 13 25);have e25:=dep (DE 13 25);rw [if_pos (wanted_yes 6 true rfl rfl rfl (dep (DE 6 18)))];have ca:w1.cell? ⟨g,j * 16+1,none⟩=some (.int .i64 yg):=(Bk.cell (S.fr.getO 0 rfl) _).trans HY.out;go_simp;exact kk _ _
      ·have e20:=dep (DE 8 20);have e26:=dep (DE 14 26);refine wY 6 true (dep (DE 6 18)) ?_
       go_simp;exact kk _ _
      ·have e18:=dep (DE 6 18);have e27:=dep (DE 15 27);refine wY 3 false (dep (DE 3 15)) ?_
       go_simp;exact kk _ _
      ·have e15:=dep (DE 3 15);have e28:=dep (DE 16 28);go_simp;exact kk _ _
     ·intro vs w5 HFr HR;have v17:vs 17=.bool nb:=HR 17 _ rfl;have HF5:=hZ HFr;clear HFr HR;simp only [putAll,Act.put,List.setIfInBounds_toArray,List.set_cons_zero,List.set_cons_succ,v17];clear v17;have HNB:=hZ hnb;clear hnb;cases nb with
      | true =>
       go_wp2_with fail
       exact HFIN.out _ _ ⟨(fun h=>by cases h),fun h=>absurd ((h (j+1) HLT.out).2 j rfl) (by rw [HZ.out,HYG.out];exact bne_iff_ne.1 HNB.out)⟩ (HF5.out.forget HT.out.bk)
      | false =>
       go_wp2_with fail
       have HN:Hid (FlownTo t ((j+1)+1)):=hZ fun i hi=>by
        rcases Nat.lt_or_ge i ((j+1)) with h | h
        ·exact HPR.out i h
        ·obtain rfl:i=(j+1):=by omega
         exact ⟨HB.out,fun i hi=>by
          obtain rfl:i=j:=by omega
          rw [HZ.out,HYG.out];exact by simpa using HNB.out⟩
       go_roundw
       case rel=>exact ⟨(j+1)+1,by have:=HLT.out;omega,by go_num,hZ ⟨HF5.out.drop,HN.out⟩⟩
       case measure=>simp [intOf];omega
end Go.Proofs.YtmkoegljnebdiaaGreat
