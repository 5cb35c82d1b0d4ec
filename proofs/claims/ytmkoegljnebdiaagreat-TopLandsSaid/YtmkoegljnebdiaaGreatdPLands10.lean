/- What is proved: the texts Hi Hj Hk Hl Hm, one behind the other; each says at its head what it proves, and under which conditions. -/
import Derived.Test.YtmkoegljnebdiaaGreatdPLands9
namespace Go.Proofs.YtmkoegljnebdiaaGreat
open Go.RowKit Go.Shelf
set_option maxRecDepth 100000
set_option maxHeartbeats 16000000
attribute [local go_sem] Oper.semAt_some

def nearOk (s:SpotD):Prop:=(-268435456≤s.x∧s.x≤268435456)∧(-268435456≤s.y∧s.y≤268435456)
theorem near_ok {s:SpotD} (h:nearOk s):spotOk s:=by unfold nearOk at h;unfold spotOk;omega
def ZoneOk (n:Nat) (v:Nat→SpotD):Prop:=3≤n∧n≤16∧(∀ i,i<n→nearOk (v i))∧∀ i,i<n→0<leftI (v ((i+(n - 1)) % n)) (v i) (v ((i+1) % n))
def upB (a b:SpotD):Bool:=decide (a.y<b.y) || (decide (b.y=a.y) && decide (a.x<b.x))
def lstP {n:Nat} (v:Nat→SpotD) (pre:List (Fin n)):SpotD:=match pre.getLast? with | none=>v (n - 1) | some z=>v z.val
theorem lstP_snoc {n:Nat} (v:Nat→SpotD) (pre:List (Fin n)) (x:Fin n):lstP v (pre ++ [x])=v x.val:=by unfold lstP;simp
def TurnsP {n:Nat} (v:Nat→SpotD) (pre:List (Fin n)):Prop:=∀ i (h:i<pre.length),0<leftI (lstP v (pre.take i)) (v (pre[i]).val) (v (((pre[i]).val+1) % n))
theorem turns_snoc {n:Nat} {v:Nat→SpotD} {pre:List (Fin n)} {x:Fin n} (h:TurnsP v pre) (hx:0<leftI (lstP v pre) (v x.val) (v ((x.val+1) % n))):TurnsP v (pre ++ [x]):=fun i hi=>by
 rw [List.length_append,List.length_singleton] at hi
 rcases Nat.lt_or_ge i pre.length with hl | hl
 ·rw [List.take_append_of_le_length (Nat.le_of_lt hl),List.getElem_append_left hl]
  exact h i hl
 ·obtain rfl:i=pre.length:=by omega
  rw [List.take_left' rfl,List.getElem_concat_length rfl]
  exact hx
theorem turns_all {n:Nat} {v:Nat→SpotD} {ys:List (Fin n)} (hy:Fin.vals ys=List.range n) (h:TurnsP v ys) (i:Nat) (hi:i<n):0<leftI (v ((i+(n - 1)) % n)) (v i) (v ((i+1) % n)):=by
 have hl:ys.length=n:=by have:=congrArg List.length hy;unfold Fin.vals at this;simpa using this
 have hv:∀ j (hj:j<ys.length),(ys[j]).val=j:=fun j hj=>by
  have h1:(Fin.vals ys)[j]?=some (ys[j]).val:=by unfold Fin.vals;simp [hj]
  rw [hy,List.getElem?_range (by omega)] at h1
  exact (Option.some.inj h1).symm
 have h1:=h i (by omega)
 rw [hv i (by omega)] at h1
 have h2:lstP v (ys.take i)=v ((i+(n - 1)) % n):=by
  unfold lstP
  cases i with
  | zero =>
   rw [List.take_zero,List.getLast?_nil]
   dsimp only
   rw [Nat.zero_add,Nat.mod_eq_of_lt (by omega)]
  | succ i =>
   have h3:(ys.take (i+1)).getLast?=some (ys[i]'(by omega)):=by
    rw [List.getLast?_eq_getElem?,List.length_take,show min (i+1) ys.length - 1=i by omega,List.getElem?_take_of_lt (by omega),List.getElem?_eq_getElem (by omega)]
   rw [h3]
   dsimp only
   rw [hv i (by omega),show i+1+(n - 1)=i+n by omega,Nat.add_mod_right,Nat.mod_eq_of_lt (by omega)]
 rwa [h2] at h1
theorem near82_any (k:Int) (w:World):Calls Tryz.prog 82 #[.int .i64 k] w fun e w'=>e=.returned (.bool (betwI k (-268435456) 268435456))∧w'=w:=by
 have H1:=Lib.hid (betw_any k (-268435456) 268435456 w)
 go_enter Tryz.func82,Tryz.ntmps82
 go_wp2_with fail
 refine H1.out.mono ?_
 rintro e w1 ⟨rfl,rfl⟩
 go_wp2_with fail
 go_ret
 exact ⟨by simp,rfl⟩
theorem near83_any (B:Nat) (s:SpotD) (w:World) (hb:Bk w B 144 #[.func (.func 82) #[] #[]]):Calls Tryz.prog 83 #[spotV s,.pointer (some ⟨B,0,none⟩)] w fun e w'=>(∃ b,e=.returned (.bool b)∧(b=false→nearOk s))∧Below w.heap.size w w':=by
 obtain ⟨PQ,hPQ⟩:∃ Q:Ending→World→Prop,(fun e w'=>(∃ b,e=.returned (.bool b)∧(b=false→nearOk s))∧Below w.heap.size w w')=Q:=⟨_,rfl⟩
 have HFIN:Hid (∀ w' b,(b=false→nearOk s)→Fr w [] [] w'→PQ (.returned (.bool b)) w'):=Lib.hid fun w' b hb h=>by rw [← hPQ];exact ⟨⟨b,rfl,hb⟩,h.toBelow⟩
 rw [hPQ]
 have HBB:Hid (∀ {N:List Ent} {w':World},Fr w [] N w'→Bk w' B 144 #[.func (.func 82) #[] #[]]):=Lib.hid fun h=>hb.below h.toBelow hb.lt
 obtain ⟨x,y⟩:=s
 have HX:=Lib.hid (fun w=>near82_any x w)
 have HY:=Lib.hid (fun w=>near82_any y w)
 unfold nearOk at HFIN
 obtain ⟨bx,hbx⟩:∃ b,betwI x (-268435456) 268435456=b:=⟨_,rfl⟩
 obtain ⟨byy,hby⟩:∃ b,betwI y (-268435456) 268435456=b:=⟨_,rfl⟩
 rw [hbx] at HX
 rw [hby] at HY
 have HBX:=Lib.hid hbx
 have HBY:=Lib.hid hby
 unfold spotV
 dsimp only at HFIN ⊢
 clear hPQ hb hbx hby
 obtain ⟨qb,hqb⟩:∃ qb,w.heap.size=qb:=⟨_,rfl⟩
 obtain ⟨W0,hW0⟩:∃ W0,w.alloc (.cells #[.int .i64 x,.int .i64 y] 56)=W0:=⟨_,rfl⟩
 have HF0:Hid (Fr w [] [(qb,56,iC [x,y])] W0):=Lib.hid (by rw [← hW0];exact (Fr.start w).alloc hqb.symm 56 #[.int .i64 x,.int .i64 y])
 go_enter Tryz.func83,Tryz.ntmps83
 go_upto_region 1 with (fail)
 clear hW0 hqb
 have c1:W0.cell? ⟨B,0,none⟩=some (.func (.func 82) #[] #[]):=(HBB.out HF0.out).cell 0
 have c2:W0.cell? ⟨qb,0,none⟩=some (.int .i64 x):=(HF0.out.get 0 rfl).cell 0
 go_wp2_with fail
 clear c1 c2
 refine (HX.out _).mono ?_
 rintro e w3 ⟨rfl,hw⟩
 rw [hw]
 clear hw w3
 cases bx with
 | false =>
  go_wp2_with fail
  exact HFIN.out _ true (fun h=>by cases h) HF0.out.drop
 | true =>
  have c4:W0.cell? ⟨B,0,none⟩=some (.func (.func 82) #[] #[]):=(HBB.out HF0.out).cell 0
  have c5:W0.cell? ⟨qb,1,none⟩=some (.int .i64 y):=(HF0.out.get 0 rfl).cell 1
  go_wp2_with fail
  clear c4 c5
  refine (HY.out _).mono ?_
  rintro e w6 ⟨rfl,hw⟩
  rw [hw]
  clear hw w6
  cases byy with
  | false =>
   go_wp2_with fail
   exact HFIN.out _ true (fun h=>by cases h) HF0.out.drop
  | true =>
   go_wp2_with fail
   refine HFIN.out _ false (fun _=>?_) HF0.out.drop
   have h1:=HBX.out
   have h2:=HBY.out
   unfold betwI at h1 h2
   simp only [Bool.and_eq_true,decide_eq_true_eq] at h1 h2
   exact ⟨h1,h2⟩
theorem up84_any (a b:SpotD) (w:World):Calls Tryz.prog 84 #[spotV a,spotV b] w fun e w'=>e=.returned (.bool (upB a b))∧Below w.heap.size w w':=by
 obtain ⟨PQ,hPQ⟩:∃ Q:Ending→World→Prop,(fun e w'=>e=.returned (.bool (upB a b))∧Below w.heap.size w w')=Q:=⟨_,rfl⟩
 have HFIN:Hid (∀ w' r,r=upB a b→Fr w [] [] w'→PQ (.returned (.bool r)) w'):=Lib.hid fun w' r hr h=>by rw [← hPQ,hr];exact ⟨rfl,h.toBelow⟩
 rw [hPQ]
 obtain ⟨ax,ay⟩:=a
 obtain ⟨bx,byy⟩:=b
 unfold upB at HFIN
 unfold spotV
 dsimp only at HFIN ⊢
 clear hPQ
 obtain ⟨qb,hqb⟩:∃ qb,w.heap.size=qb:=⟨_,rfl⟩
 obtain ⟨W0,hW0⟩:∃ W0,(w.alloc (.cells #[.int .i64 ax,.int .i64 ay] 56)).alloc (.cells #[.int .i64 bx,.int .i64 byy] 56)=W0:=⟨_,rfl⟩
 have HF0:Hid (Fr w [] [(qb,56,iC [ax,ay]),(qb+1,56,iC [bx,byy])] W0):=Lib.hid (by rw [← hW0];exact ((Fr.start w).alloc (by simp [← hqb]) 56 #[.int .i64 ax,.int .i64 ay]).alloc (by simp [← hqb]) 56 #[.int .i64 bx,.int .i64 byy])
 go_enter Tryz.func84,Tryz.ntmps84
 go_upto_region 1 with (fail)
 clear hW0 hqb
 have cax:W0.cell? ⟨qb,0,none⟩=some (.int .i64 ax):=(HF0.out.get 0 rfl).cell 0
 have cay:W0.cell? ⟨qb,1,none⟩=some (.int .i64 ay):=(HF0.out.get 0 rfl).cell 1
 have cbx:W0.cell? ⟨qb+1,0,none⟩=some (.int .i64 bx):=(HF0.out.get 1 rfl).cell 0
 have cbyy:W0.cell? ⟨qb+1,1,none⟩=some (.int .i64 byy):=(HF0.out.get 1 rfl).cell 1
 by_cases h1:ay<byy
 ·go_wp2_with fail
  exact HFIN.out _ _ (by simp [h1]) HF0.out.drop
 ·by_cases h2:byy=ay
  ·subst h2
   by_cases h3:ax<bx
   ·go_wp2_with fail
    exact HFIN.out _ _ (by simp [h3]) HF0.out.drop
   ·go_wp2_with fail
    exact HFIN.out _ _ (by simp [h3]) HF0.out.drop
  ·have hb2:(byy == ay)=false:=by simpa using h2
   go_wp2_with fail
   exact HFIN.out _ _ (by simp [h1,h2]) HF0.out.drop
end Go.Proofs.YtmkoegljnebdiaaGreat
namespace Go.Proofs.YtmkoegljnebdiaaGreat
open Go.RowKit Go.Shelf
set_option maxRecDepth 100000
set_option maxHeartbeats 16000000
attribute [local go_sem] Oper.semAt_some

theorem checkZone3_any (nm:ByteArray) (hnm:(1:Int)≤nm.size∧(nm.size:Int)≤32) (g off n c:Nat) (v:Nat→SpotD) (hn3:3≤n) (hn:n≤16) (w:World) (hsp:SpAt w g off n v) :
  Calls Tryz.prog 36 #[.agg #[.string nm,.slice (some ⟨g,off,none⟩) n c]] w fun e w'=>(∃ b,e=.returned (.bool b)∧(b=true→ZoneOk n v))∧Below w.heap.size w w':=by
 obtain ⟨PQ,hPQ⟩:∃ Q:Ending→World→Prop,(fun e w'=>(∃ b,e=.returned (.bool b)∧(b=true→ZoneOk n v))∧Below w.heap.size w w')=Q:=⟨_,rfl⟩
 have HFIN:Hid (∀ w' b,(b=true→ZoneOk n v)→Fr w [] [] w'→PQ (.returned (.bool b)) w'):=Lib.hid fun w' b h hb=>by rw [← hPQ];exact ⟨⟨b,rfl,h⟩,hb.toBelow⟩
 rw [hPQ]
 have HSP:=Lib.hid hsp
 have HN:Hid (n≤4096):=Lib.hid (by omega)
 have HN3:=Lib.hid (And.intro hn3 hn)
 have HB1:=Lib.hid (fun w=>betw_any (nm.size:Int) 1 32 w)
 have HB2:=Lib.hid (fun w=>betw_any (n:Int) 3 16 w)
 rw [show betwI (nm.size:Int) 1 32=true from by unfold betwI;simp [hnm]] at HB1
 rw [show betwI (n:Int) 3 16=true from by unfold betwI;simp;omega] at HB2
 have HCF:Hid (∀ (B:Nat) {N:List Ent} {w':World},Fr w [] N w'→Bk w' B 144 #[.func (.func 82) #[] #[]]→_):=Lib.hid fun B N w' hf hb =>
  cont79_any 83 #[.pointer (some ⟨B,0,none⟩)] g off n c v (fun k=>nearOk (v k)) HN.out (fun args w=>by kernel_rfl) w' (hsp.below hf.toBelow) fun k hk w2 hb2=>near83_any B (v k) w2 (hb.below hb2 hb.lt)
 obtain ⟨m,hm⟩:∃ m,n=m+1:=⟨n - 1,by omega⟩
 have HM:=Lib.hid hm
 have m1:IntKind.i64.wrap ((n:Int) - 1)=(m:Int):=by rw [hm,show ((m+1:Nat):Int) - 1=(m:Int) by omega];exact IntWalk.i64_in _ (by omega)
 have n1:wrap64 ((n:Int) - 1)=(m:Int):=by rw [hm,show ((m+1:Nat):Int) - 1=(m:Int) by omega];exact w64_in (by omega) (by omega)
 have h0m:(0:Int)≤(m:Int):=by omega
 have hmn:(m:Int)<(n:Int):=by omega
 have HMC:Hid (∀ {N:List Ent} {w':World},Fr w [] N w'→∀ j u,(#[Value.int .i64 (v m).x,.int .i64 (v m).y])[j]?=some u→w'.cell? ⟨g,off+m * 2+j,none⟩=some u):=Lib.hid fun hf=>(hsp.below hf.toBelow).cells (by omega)
 clear hPQ hsp hnm hn3 hn hm
 refine (callsIn_wide (n:=6)).1 ?_
 refine callsIn_of_wp_marks Tryz.func36 rfl trivial ?_ rfl
 simp only [Tryz.ntmps36,List.size_toArray,List.length_cons,List.length_nil,Nat.reduceAdd,Nat.reduceSub,Array.replicate_succ,Array.replicate_zero,List.push_toArray,List.append_toArray,List.nil_append,List.cons_append]
 refine wpIn_wide.2 ?_
 obtain ⟨qb,hqb⟩:∃ qb,w.heap.size=qb:=⟨_,rfl⟩
 obtain ⟨W0,hW0⟩:∃ W0,(w.alloc (.cells #[.string nm,.slice (some ⟨g,off,none⟩) n c] 27)).alloc (.cells #[.bool false] 4)=W0:=⟨_,rfl⟩
 have HF0:Hid (Fr w [] [(qb,27,#[.string nm,.slice (some ⟨g,off,none⟩) n c]),(qb+1,4,#[.bool false])] W0):=Lib.hid (by rw [← hW0];exact ((Fr.start w).alloc (by simp [← hqb]) 27 #[.string nm,.slice (some ⟨g,off,none⟩) n c]).alloc (by simp [← hqb]) 4 #[.bool false])
 go_upto_region 1 with (fail)
 clear hW0 hqb
 obtain ⟨g1,hg1⟩:∃ g,W0.heap.size=g:=⟨_,rfl⟩
 obtain ⟨w1,hw1⟩:∃ u,W0.alloc (.cells #[.nilFunc] 144)=u:=⟨_,rfl⟩
 have HF2:=Lib.hid (frE hw1 (HF0.out.alloc hg1.symm 144 #[.nilFunc]))
 go_wp2_with (refine wpStoreCell rfl rfl 144 _ _ rfl g1 0 rfl (.func (.func 82) #[] #[]) rfl _ _ (HF2.out.get 2 rfl) (by show 0<1;omega) rfl (by kernel_rfl) ?_;intro w3 hk ho;clear hw1 hg1;have HF4:=Lib.hid (HF2.out.only 2 rfl ho hk);clear ho hk;have c5:w3.cell? ⟨qb,0,none⟩=some (.string nm):=(HF4.out.get 0 rfl).cell 0)
 clear c5
 refine (HB1.out _).mono ?_
 rintro e w6 ⟨rfl,hw⟩
 rw [hw]
 clear hw w6
 have c7:w3.cell? ⟨qb,1,none⟩=some (.slice (some ⟨g,off,none⟩) n c):=(HF4.out.get 0 rfl).cell 1
 go_wp2_with fail
 clear c7
 refine (HB2.out _).mono ?_
 rintro e w8 ⟨rfl,hw⟩
 rw [hw]
 clear hw w8
 have c9:w3.cell? ⟨qb,1,none⟩=some (.slice (some ⟨g,off,none⟩) n c):=(HF4.out.get 0 rfl).cell 1
 go_wp2_with fail
 clear c9
 refine (HCF.out g1 HF4.out (HF4.out.get 2 rfl)).mono ?_
 rintro e w10 ⟨⟨b,rfl,hnr⟩,hw⟩
 have HF11:=Lib.hid (HF4.out.below hw)
 clear hw
 have HNR:=Lib.hid hnr
 clear hnr
 cases b with
 | true =>
  go_wp2_with (refine wpStoreCell rfl rfl 4 _ _ rfl (qb+1) 0 rfl (.bool false) rfl _ _ (HF11.out.get 1 rfl) (by show 0<1;omega) rfl (by kernel_rfl) ?_;intro w12 hk ho;have HF13:=Lib.hid (HF11.out.only 1 rfl ho hk);clear ho hk)
  exact ⟨_,results_c1 rfl _ _ (qb+1) 4 _ _ rfl (HF13.out.get 1 rfl) und_4 rfl,HFIN.out _ _ (fun h=>by cases h) HF13.out.drop⟩
 | false =>
  have HNE:=Lib.hid (HNR.out rfl)
  clear HNR
  obtain ⟨g12,hg12⟩:∃ g,w10.heap.size=g:=⟨_,rfl⟩
  obtain ⟨w12,hw12⟩:∃ u,w10.alloc (.cells #[.nilFunc] 179)=u:=⟨_,rfl⟩
  have HF13:=Lib.hid (frE hw12 (HF11.out.alloc hg12.symm 179 #[.nilFunc]))
  obtain ⟨⟨mx,my⟩,hmx⟩:∃ z,v m=z:=⟨_,rfl⟩
  rw [hmx] at HMC
  dsimp only at HMC
  have HMX:=Lib.hid hmx
  clear hmx
  go_wp2_with (first
    | (refine wpStoreCell rfl rfl 179 _ _ rfl g12 0 rfl (.func (.func 84) #[] #[]) rfl _ _ (HF13.out.get 3 rfl) (by show 0<1;omega) rfl (by kernel_rfl) ?_;intro w14 hk ho;clear hw12 hg12;have HF15:=Lib.hid (HF13.out.only 3 rfl ho hk);clear ho hk;have c16:w14.cell? ⟨qb,1,none⟩=some (.slice (some ⟨g,off,none⟩) n c):=(HF15.out.get 0 rfl).cell 1;have c17:w14.cell? ⟨qb,1,none⟩=some (.slice (some ⟨g,off,none⟩) n c):=(HF15.out.get 0 rfl).cell 1)
    | (refine wpLoadC rfl 56 _ rfl g (off+m * 2) rfl #[.int .i64 mx,.int .i64 my] _ (HMC.out HF15.out) und_56 rfl info_56 ?_;obtain ⟨g18,hg18⟩:∃ g,w14.heap.size=g:=⟨_,rfl⟩;obtain ⟨w18,hw18⟩:∃ u,w14.alloc (.cells #[.int .i64 0,.int .i64 0] 56)=u:=⟨_,rfl⟩;have HF19:=Lib.hid (frE hw18 (HF15.out.alloc hg18.symm 56 #[.int .i64 0,.int .i64 0])))
    | (refine wpStoreF rfl rfl 56 _ _ rfl g18 0 rfl #[.int .i64 mx,.int .i64 my] rfl _ _ (iC [mx,my]) (HF19.out.get 4 rfl) rfl (by show 0+2≤2;omega) (one_all rfl) info_56 ?_;intro w20 hk ho;clear c16 c17 hw18 hg18;have HF21:=Lib.hid (HF19.out.only 4 rfl ho hk);clear ho hk;obtain ⟨g22,hg22⟩:∃ g,w20.heap.size=g:=⟨_,rfl⟩;obtain ⟨w22,hw22⟩:∃ u,w20.alloc (.cells #[.int .i64 0] 3)=u:=⟨_,rfl⟩;have HF23:=Lib.hid (frE hw22 (HF21.out.alloc hg22.symm 3 #[.int .i64 0])))
    | (refine wpStoreCell rfl rfl 3 _ _ rfl g22 0 rfl (.int .i64 0) rfl _ _ (HF23.out.get 5 rfl) (by show 0<1;omega) rfl (by kernel_rfl) ?_;intro w24 hk ho;clear hw22 hg22;have HF25:=Lib.hid (HF23.out.only 5 rfl ho hk);clear ho hk;have c26:w24.cell? ⟨qb,1,none⟩=some (.slice (some ⟨g,off,none⟩) n c):=(HF25.out.get 0 rfl).cell 1))
  clear c26
  refine (edges_fr _ _ _ _).mono ?_
  rintro e w27 ⟨Bs,rfl,hw⟩
  have HF28:=Lib.hid (HF25.out.more hw)
  clear hw
  have hl0:lstP v ([]:List (Fin n))=⟨mx,my⟩:=by
   have e2:lstP v ([]:List (Fin n))=v (n - 1):=rfl
   rw [e2,← HMX.out];congr 1;have:=HM.out;omega
  have HFE:Hid (Fr w [] [(qb,27,#[.string nm,.slice (some ⟨g,off,none⟩) n c]),(qb+1,4,#[.bool false]),(g1,144,#[.func (.func 82) #[] #[]]),(g12,179,#[.func (.func 84) #[] #[]]),(g18,56,#[.int .i64 (lstP v ([]:List (Fin n))).x,.int .i64 (lstP v ([]:List (Fin n))).y]),(g22,3,#[.int .i64 0]),(Bs,25,#[.slice (some ⟨g,off,none⟩) n c])] w27):=Lib.hid (by rw [hl0];exact HF28.out)
  clear hl0
  have hws:w.heap.size≤w27.heap.size:=HF28.out.size
  have HS0:=Lib.hid (HSP.out.below HF28.out.toBelow)
  have HKB:Hid (∀ x,x ∈ [Bs,g]→x<w27.heap.size):=Lib.hid fun x hx=>by
   simp only [List.mem_cons,List.not_mem_nil,or_false] at hx
   rcases hx with rfl | rfl
   ·exact (HF28.out.get 6 rfl).lt
   ·exact HS0.out.1
  have HBG:Bs ≠ g:=fun e=>by
   have h1:=HF28.out.ge 6 rfl
   have h2:=HSP.out.1
   omega
  have HSTOP:=Lib.hid (edges_stops Bs g off n c v HN.out HBG w27 (HF28.out.get 6 rfl) HS0.out.1 HS0.out.2)
  obtain ⟨IB,hIB⟩:∃ I:List (Fin n)→World→Prop,(fun pre W=>∃ (t:Int),(TurnsP v pre)∧Fr w [] [(qb,27,#[.string nm,.slice (some ⟨g,off,none⟩) n c]),(qb+1,4,#[.bool false]),(g1,144,#[.func (.func 82) #[] #[]]),(g12,179,#[.func (.func 84) #[] #[]]),(g18,56,#[.int .i64 (lstP v pre).x,.int .i64 (lstP v pre).y]),(g22,3,#[.int .i64 t]),(Bs,25,#[.slice (some ⟨g,off,none⟩) n c])] W)=I:=⟨_,rfl⟩
  have HI:Hid (∀ pre W,IB pre W ↔ (∃ (t:Int),(TurnsP v pre)∧Fr w [] [(qb,27,#[.string nm,.slice (some ⟨g,off,none⟩) n c]),(qb+1,4,#[.bool false]),(g1,144,#[.func (.func 82) #[] #[]]),(g12,179,#[.func (.func 84) #[] #[]]),(g18,56,#[.int .i64 (lstP v pre).x,.int .i64 (lstP v pre).y]),(g22,3,#[.int .i64 t]),(Bs,25,#[.slice (some ⟨g,off,none⟩) n c])] W)):=Lib.hid fun pre W=>by rw [← hIB]
  have HOI:Hid (OwnFrom w27.heap.size IB):=Lib.hid (by
   rw [← hIB]
   rintro pre A B row ⟨t,h1,h2⟩ hgr hr
   exact ⟨t,h1,h2.turned hws hgr hr⟩)
  obtain ⟨Ix,hIx⟩:∃ Ix:Code→List (Fin n)→World→Prop,(fun cd pre W=>cd=.ret∧∃ (t:Int) (l:SpotD),(True)∧Fr w [] [(qb,27,#[.string nm,.slice (some ⟨g,off,none⟩) n c]),(qb+1,4,#[.bool false]),(g1,144,#[.func (.func 82) #[] #[]]),(g12,179,#[.func (.func 84) #[] #[]]),(g18,56,#[.int .i64 l.x,.int .i64 l.y]),(g22,3,#[.int .i64 t]),(Bs,25,#[.slice (some ⟨g,off,none⟩) n c])] W)=Ix:=⟨_,rfl⟩
  have HIX:Hid (∀ cd pre W,Ix cd pre W ↔ (cd=.ret∧∃ (t:Int) (l:SpotD),(True)∧Fr w [] [(qb,27,#[.string nm,.slice (some ⟨g,off,none⟩) n c]),(qb+1,4,#[.bool false]),(g1,144,#[.func (.func 82) #[] #[]]),(g12,179,#[.func (.func 84) #[] #[]]),(g18,56,#[.int .i64 l.x,.int .i64 l.y]),(g22,3,#[.int .i64 t]),(Bs,25,#[.slice (some ⟨g,off,none⟩) n c])] W)):=Lib.hid fun cd pre W=>by rw [← hIx]
  have HOX:Hid (∀ cd,OwnFrom w27.heap.size (Ix cd)):=Lib.hid fun cd=>by
   rw [← hIx]
   rintro pre A B row ⟨h0,t,l,h1,h2⟩ hgr hr
   exact ⟨h0,t,l,h1,h2.turned hws hgr hr⟩
  have HKW:Hid (∀ b ∈ [Bs,g],∀ {W:World} {N:List Ent},Fr w [] N W→(∃ cs,(Bs,25,cs) ∈ N)→b<W.heap.size):=Lib.hid fun b hb W N hf hm=>by
   simp only [List.mem_cons,List.not_mem_nil,or_false] at hb
   rcases hb with rfl | rfl
   ·obtain ⟨cs,hm⟩:=hm;exact (hf.new _ hm).2.lt
   ·exact Nat.lt_of_lt_of_le HSP.out.1 hf.size
  obtain ⟨Ax,hAx⟩:∃ Ax:Fin n→Act→World→Prop,(fun x a' W=>∃ gx gy,a'=⟨#[.agg #[.string nm,.slice (some ⟨g,off,none⟩) n c],.pointer (some ⟨qb,0,none⟩),.pointer (some ⟨qb+1,0,none⟩),.pointer (some ⟨g1,0,none⟩),.pointer (some ⟨g12,0,none⟩),.pointer (some ⟨g18,0,none⟩),.pointer (some ⟨g22,0,none⟩),.pointer (some ⟨gx,0,none⟩),.pointer (some ⟨gy,0,none⟩),.pointer (some ⟨qb,0,none⟩),.string nm,.int .i64 (nm.size:Int),.bool true,.bool false,.bool false,.pointer (some ⟨qb,1,none⟩),.slice (some ⟨g,off,none⟩) n c,.int .i64 (n:Int),.bool true,.bool false,.bool false,.pointer (some ⟨qb,1,none⟩),.slice (some ⟨g,off,none⟩) n c,.func (.func 83) #[] #[.pointer (some ⟨g1,0,none⟩)],.bool false,.pointer (some ⟨qb,1,none⟩),.slice (some ⟨g,off,none⟩) n c,.pointer (some ⟨qb,1,none⟩),.slice (some ⟨g,off,none⟩) n c,.int .i64 (n:Int),.int .i64 (m:Int),.pointer (some ⟨g,off+m * 2,none⟩),.agg #[.int .i64 mx,.int .i64 my],.pointer (some ⟨qb,1,none⟩),.slice (some ⟨g,off,none⟩) n c,.func (.func 147) #[] #[.pointer (some ⟨Bs,0,none⟩)],spotV (v x.val),spotV (v ((x.val+1) % n)),undef,undef,undef,undef,undef,undef,undef,undef,undef,undef,undef,undef,undef,undef,undef,undef,undef,undef,undef],[]⟩∧Bk W gx 56 #[.int .i64 (v x.val).x,.int .i64 (v x.val).y]∧Bk W gy 56 #[.int .i64 (v ((x.val+1) % n)).x,.int .i64 (v ((x.val+1) % n)).y]∧gx ∉ [qb+1,g18,g22]∧gy ∉ [qb+1,g18,g22])=Ax:=⟨_,rfl⟩
  have HAX:Hid (∀ x a' W,Ax x a' W ↔ (∃ gx gy,a'=⟨#[.agg #[.string nm,.slice (some ⟨g,off,none⟩) n c],.pointer (some ⟨qb,0,none⟩),.pointer (some ⟨qb+1,0,none⟩),.pointer (some ⟨g1,0,none⟩),.pointer (some ⟨g12,0,none⟩),.pointer (some ⟨g18,0,none⟩),.pointer (some ⟨g22,0,none⟩),.pointer (some ⟨gx,0,none⟩),.pointer (some ⟨gy,0,none⟩),.pointer (some ⟨qb,0,none⟩),.string nm,.int .i64 (nm.size:Int),.bool true,.bool false,.bool false,.pointer (some ⟨qb,1,none⟩),.slice (some ⟨g,off,none⟩) n c,.int .i64 (n:Int),.bool true,.bool false,.bool false,.pointer (some ⟨qb,1,none⟩),.slice (some ⟨g,off,none⟩) n c,.func (.func 83) #[] #[.pointer (some ⟨g1,0,none⟩)],.bool false,.pointer (some ⟨qb,1,none⟩),.slice (some ⟨g,off,none⟩) n c,.pointer (some ⟨qb,1,none⟩),.slice (some ⟨g,off,none⟩) n c,.int .i64 (n:Int),.int .i64 (m:Int),.pointer (some ⟨g,off+m * 2,none⟩),.agg #[.int .i64 mx,.int .i64 my],.pointer (some ⟨qb,1,none⟩),.slice (some ⟨g,off,none⟩) n c,.func (.func 147) #[] #[.pointer (some ⟨Bs,0,none⟩)],spotV (v x.val),spotV (v ((x.val+1) % n)),undef,undef,undef,undef,undef,undef,undef,undef,undef,undef,undef,undef,undef,undef,undef,undef,undef,undef,undef],[]⟩∧Bk W gx 56 #[.int .i64 (v x.val).x,.int .i64 (v x.val).y]∧Bk W gy 56 #[.int .i64 (v ((x.val+1) % n)).x,.int .i64 (v ((x.val+1) % n)).y]∧gx ∉ [qb+1,g18,g22]∧gy ∉ [qb+1,g18,g22])):=Lib.hid fun x a' W=>by rw [← hAx]
  have HOA:Hid (∀ x a',OwnFrom w27.heap.size (fun (_:Unit) W=>Ax x a' W)):=Lib.hid fun x a'=>by
   rw [← hAx]
   rintro _ A B row ⟨gx,gy,h1,h2,h3,h4⟩ hgr hr
   exact ⟨gx,gy,h1,h2.turned hgr fun r e=>(hr r e).2,h3.turned hgr fun r e=>(hr r e).2,h4⟩
  clear hIB hIx hAx
  have H0I:Hid (IB [] w27):=Lib.hid ((HI.out _ _).2 ⟨0,fun i h=>absurd h (by simp),HFE.out⟩)
  go_wp2_with fail
  refine (wpIn_wide (n:=6)).1 ?_
  refine wpIn_rangeFunc_ownH (n:=6) rfl (by decide) (gf:=147) rfl trivial (enters_of Tryz.func147 (by kernel_rfl) rfl) HSTOP.out KeepL.trans (keepL_b HKB.out) (Below.refl _ _) (fun _=>rfl)
   IB Ix HOI.out HOX.out H0I.out Ax HOA.out ?assign ?body ?done ?stop
  case assign =>
   intro l pre x W K hIW hK
   have HFW:Hid (Fr W [] [] W):=Lib.hid (Fr.start W)
   have HIW:=Lib.hid hIW
   have HK:=Lib.hid hK
   unfold spotV at HAX ⊢
   dsimp only at HAX ⊢
   have hax:=HAX.out x
   obtain ⟨px,hpx⟩:∃ z,(v x.val).x=z:=⟨_,rfl⟩
   obtain ⟨py,hpy⟩:∃ z,(v x.val).y=z:=⟨_,rfl⟩
   obtain ⟨qx,hqx⟩:∃ z,(v ((x.val+1) % n)).x=z:=⟨_,rfl⟩
   obtain ⟨qy,hqy⟩:∃ z,(v ((x.val+1) % n)).y=z:=⟨_,rfl⟩
   rw [hpx,hpy,hqx,hqy] at hax ⊢
   have HAY:=Lib.hid hax
   clear hIW hK hax hpx hpy hqx hqy HAX
   obtain ⟨g201,hg201⟩:∃ g,W.heap.size=g:=⟨_,rfl⟩
   obtain ⟨w201,hw201⟩:∃ u,W.alloc (.cells #[.int .i64 0,.int .i64 0] 56)=u:=⟨_,rfl⟩
   have HF202:=Lib.hid (frE hw201 (HFW.out.alloc hg201.symm 56 #[.int .i64 0,.int .i64 0]))
   gi_wp2_with (first
     | (refine wpStoreFI rfl rfl 56 _ _ rfl g201 0 rfl #[.int .i64 px,.int .i64 py] rfl _ _ (iC [px,py]) (HF202.out.get 0 rfl) rfl (by show 0+2≤2;omega) (one_all rfl) info_56 ?_;intro w203 hk ho;clear hw201 hg201;have HF204:=Lib.hid (HF202.out.only 0 rfl ho hk);clear ho hk;obtain ⟨g205,hg205⟩:∃ g,w203.heap.size=g:=⟨_,rfl⟩;obtain ⟨w205,hw205⟩:∃ u,w203.alloc (.cells #[.int .i64 0,.int .i64 0] 56)=u:=⟨_,rfl⟩;have HF206:=Lib.hid (frE hw205 (HF204.out.alloc hg205.symm 56 #[.int .i64 0,.int .i64 0])))
     | (refine wpStoreFI rfl rfl 56 _ _ rfl g205 0 rfl #[.int .i64 qx,.int .i64 qy] rfl _ _ (iC [qx,qy]) (HF206.out.get 1 rfl) rfl (by show 0+2≤2;omega) (one_all rfl) info_56 ?_;intro w207 hk ho;clear hw205 hg205;have HF208:=Lib.hid (HF206.out.only 1 rfl ho hk);clear ho hk))
   have hb:=HF208.out.toBelow
   obtain ⟨t,hi1,hi2⟩:=(HI.out _ _).1 HIW.out
   have hno:∀ q,W.heap.size≤q→q ∉ [qb+1,g18,g22]:=fun q hq hm=>by
    simp only [List.mem_cons,List.not_mem_nil,or_false] at hm
    have e1:=(hi2.get 1 rfl).lt
    have e4:=(hi2.get 4 rfl).lt
    have e5:=(hi2.get 5 rfl).lt
    omega
   exact HK.out _ _ ((HF208.out.keepsOthers (by simp)).from _) (HF208.out.keepL fun b hb=>⟨HKW.out b hb hi2 ⟨_,List.mem_of_getElem? (i:=6) rfl⟩,by simp⟩) ((HI.out _ _).2 ⟨t,hi1,hi2.below hb⟩) ((HAY.out _ _).2 ⟨g201,g205,rfl,(HF208.out.get 0 rfl),(HF208.out.get 1 rfl),hno _ (HF208.out.ge 0 rfl),hno _ (HF208.out.ge 1 rfl)⟩)
  case body =>
   intro l pre x a' W hDl hrec hIW hAx hpl
   obtain ⟨gx,gy,rfl,hgx,hgy,hxo,hyo⟩:=(HAX.out _ _ _).1 hAx
   obtain ⟨t,h1,h2⟩:=(HI.out _ _).1 hIW
   obtain ⟨PB,hPB⟩:∃ Q,ownPostG w27.heap.size (KeepL [Bs,g]) IB Ix (pre ++ [x]) W=Q:=⟨_,rfl⟩
   have hkeys:∀ b ∈ [Bs,g],b<W.heap.size∧b ∉ [qb+1,g18,g22]:=fun b hb=>by
    have e1:=h2.ge 1 rfl
    have e4:=h2.ge 4 rfl
    have e5:=h2.ge 5 rfl
    have hnd:=h2.ndN
    simp only [List.map_cons,List.map_nil,List.nodup_cons,List.mem_cons,List.not_mem_nil,or_false,not_or] at hnd
    simp only [List.mem_cons,List.not_mem_nil,or_false] at hb ⊢
    have hG:=HSP.out.1
    have hB:=(h2.get 6 rfl).lt
    have hs:=h2.size
    rcases hb with rfl | rfl <;> (refine ⟨by omega,?_⟩;omega)
   have hoth:∀ {O':List Ent},O'.map (·.1)=[qb+1,g18,g22]→∀ y ∈ O',∃ t cs,Bk W y.1 t cs:=fun {O'} ho y hy=>by
    have hm:y.1 ∈ O'.map (·.1):=List.mem_map.2 ⟨y,hy,rfl⟩
    rw [ho] at hm
    generalize y.1=b at hm
    simp only [List.mem_cons,List.not_mem_nil,or_false] at hm
    rcases hm with rfl | rfl | rfl
    ·exact ⟨_,_,h2.get 1 rfl⟩
    ·exact ⟨_,_,h2.get 4 rfl⟩
    ·exact ⟨_,_,h2.get 5 rfl⟩
   have HEN:Hid (∀ a W' (t':Int),(TurnsP v (pre ++ [x]))→Fr W [(qb+1,4,#[.bool false]),(g18,56,#[.int .i64 (lstP v (pre ++ [x])).x,.int .i64 (lstP v (pre ++ [x])).y]),(g22,3,#[.int .i64 t'])] [] W'→PB .normal a W'):=Lib.hid fun a W' t' hc hf=>by
    rw [← hPB]
    exact ⟨(hf.keepsOthers (hoth rfl)).from _,hf.keepL hkeys,(HI.out _ _).2 ⟨t',hc,h2.turns [false,true,false,false,true,true,false] hf ⟨rfl,rfl,rfl,trivial⟩⟩⟩
   have HER:Hid (∀ a W' (t':Int) (l':SpotD),(True)→Fr W [(qb+1,4,#[.bool false]),(g18,56,#[.int .i64 l'.x,.int .i64 l'.y]),(g22,3,#[.int .i64 t'])] [] W'→PB .ret a W'):=Lib.hid fun a W' t' l' hc hf=>by
    rw [← hPB]
    exact ⟨(hf.keepsOthers (hoth rfl)).from _,(HIX.out _ _ _).2 ⟨rfl,t',l',hc,h2.turns [false,true,false,false,true,true,false] hf ⟨rfl,rfl,rfl,trivial⟩⟩⟩
   have HC:=Lib.hid h1
   have HSW:=Lib.hid (HSP.out.below h2.toBelow)
   have HXL:=Lib.hid x.isLt
   have HPL:=Lib.hid hpl
   rw [hPB]
   have HFB:Hid (Fr W [(qb+1,4,#[.bool false]),(g18,56,#[.int .i64 (lstP v pre).x,.int .i64 (lstP v pre).y]),(g22,3,#[.int .i64 t])] [] W):=Lib.hid (Fr.startL (fun y hy=>by
    simp only [List.mem_cons,List.not_mem_nil,or_false] at hy
    rcases hy with rfl | rfl | rfl
    ·exact h2.get 1 rfl
    ·exact h2.get 4 rfl
    ·exact h2.get 5 rfl) (by have hnd:=h2.ndN;simp only [List.map_cons,List.map_nil,List.nodup_cons,List.mem_cons,List.not_mem_nil,or_false,not_or] at hnd;simp;try omega))
   have HGX:=Lib.hid hgx
   have HGY:=Lib.hid hgy
   have HXO:=Lib.hid hxo
   have HYO:=Lib.hid hyo
   clear hxo hyo
   have HT0:=Lib.hid (h2.get 0 rfl)
   have HT2:=Lib.hid (h2.get 2 rfl)
   have HT3:=Lib.hid (h2.get 3 rfl)
   have HT6:=Lib.hid (h2.get 6 rfl)
   have HUO:Hid (g12 ∉ [qb+1,g18,g22]):=Lib.hid fun hm=>by
    have hnd:=h2.ndN
    simp only [List.map_cons,List.map_nil,List.nodup_cons,List.mem_cons,List.not_mem_nil,or_false,not_or] at hnd hm
    omega
   have hva:=near_ok (HNE.out x.val HXL.out)
   have hvb:=near_ok (HNE.out ((x.val+1) % n) (Nat.mod_lt _ (by have:=HXL.out;omega)))
   have hvl:spotOk (lstP v pre):=by
    unfold lstP
    split
    ·exact near_ok (HNE.out _ (by have:=HN3.out;omega))
    ·rename_i z _;exact near_ok (HNE.out z.val z.isLt)
   have HLX:=Lib.hid (fun w=>left_any (lstP v pre) (v x.val) (v ((x.val+1) % n)) hvl hva hvb w)
   have hen:0<leftI (lstP v pre) (v x.val) (v ((x.val+1) % n))→TurnsP v (pre ++ [x]):=fun h=>turns_snoc HC.out h
   have HEN2:=Lib.hid hen
   rw [lstP_snoc] at HEN
   obtain ⟨fv,hfv⟩:∃ z,leftI (lstP v pre) (v x.val) (v ((x.val+1) % n))=z:=⟨_,rfl⟩
   rw [hfv] at HLX HEN2
   have HU1:=Lib.hid (fun w=>up84_any (lstP v pre) (v x.val) w)
   have HU2:=Lib.hid (fun w=>up84_any (v x.val) (v ((x.val+1) % n)) w)
   obtain ⟨u1,hu1⟩:∃ z,upB (lstP v pre) (v x.val)=z:=⟨_,rfl⟩
   obtain ⟨u2,hu2⟩:∃ z,upB (v x.val) (v ((x.val+1) % n))=z:=⟨_,rfl⟩
   rw [hu1] at HU1
   rw [hu2] at HU2
   obtain ⟨⟨lx,ly⟩,hlx⟩:∃ z,lstP v pre=z:=⟨_,rfl⟩
   obtain ⟨⟨px,py⟩,hpx⟩:∃ z,v x.val=z:=⟨_,rfl⟩
   obtain ⟨⟨qx,qy⟩,hqx⟩:∃ z,v ((x.val+1) % n)=z:=⟨_,rfl⟩
   rw [hlx] at HLX HFB HU1
   rw [hpx] at HLX HGX HU1 HU2 HEN
   rw [hqx] at HLX HGY HU2
   obtain ⟨t1,ht1⟩:∃ z,wrap64 (t+1)=z:=⟨_,rfl⟩
   have ht2:IntKind.i64.wrap (t+1)=t1:=by rw [← ht1];exact IntWalk.i64_left _
   unfold spotV at HLX HU1 HU2 ⊢
   rw [hpx,hqx]
   dsimp only at HLX HGX HGY HFB HU1 HU2 HEN ⊢
   have HERf:=Lib.hid (fun a W' hf=>HER.out a W' t ⟨lx,ly⟩ trivial hf)
   clear hPB hkeys hoth hgx hgy h1 h2 hIW hAx hpl hrec hDl hva hvb hvl hen hfv hpx hqx hlx hu1 hu2 HER
   gi_wp2_with (first
     | (refine wpLoadFI rfl 56 _ rfl g18 0 rfl _ _ (HFB.out.getO 1 rfl) #[.int .i64 lx,.int .i64 ly] rfl _ und_56 rfl info_56 ?_)
     | (refine wpLoadFI rfl 56 _ rfl gx 0 rfl _ _ (show Bk _ gx 56 _ from (HFB.out.far _ HGX.out.lt HXO.out).trans HGX.out) #[.int .i64 px,.int .i64 py] rfl _ und_56 rfl info_56 ?_)
     | (refine wpLoadFI rfl 56 _ rfl gy 0 rfl _ _ (show Bk _ gy 56 _ from (HFB.out.far _ HGY.out.lt HYO.out).trans HGY.out) #[.int .i64 qx,.int .i64 qy] rfl _ und_56 rfl info_56 ?_))
   refine ⟨trivial,?_⟩
   refine (CallsIn.inRound l (callsIn_wide.2 (HLX.out _))).mono ?_
   rintro e w301 ⟨rfl,hw⟩
   have HF302:=Lib.hid (HFB.out.below hw)
   clear hw
   by_cases hneg:fv≤0
   ·
    gi_wp2_with (refine wpStoreCellI rfl rfl 4 _ _ rfl (qb+1) 0 rfl (.bool false) rfl _ _ (HF302.out.getO 0 rfl) (by show 0<1;omega) rfl (by kernel_rfl) ?_;intro w303 hk ho;have HF304:=Lib.hid (HF302.out.onlyO 0 rfl ho hk);clear ho hk)
    exact HERf.out _ _ HF304.out.drop
   ·
    have HEN3:=Lib.hid (HEN2.out (by omega))
    clear HEN2 HERf
    gi_wp2_with fail
    refine wpIn_region_fr _ _ (by kernel_rfl) [Kind.p,Kind.p,Kind.p,Kind.p,Kind.p,Kind.p,Kind.p,Kind.p,Kind.p] [] [] W (fun _=>[(qb+1,4,#[.bool false]),(g18,56,iC [lx,ly]),(g22,3,iC [t])]) (fun _=>[])
       (fun ix u _=>match ix with
        | 0=>u=.func (.func 84) #[] #[]
        | 1=>u=.agg #[.int .i64 lx,.int .i64 ly]
        | 2=>u=.agg #[.int .i64 px,.int .i64 py]
        | 3=>u=.bool u1
        | 4=>u=.func (.func 84) #[] #[]
        | 5=>u=.agg #[.int .i64 px,.int .i64 py]
        | 6=>u=.agg #[.int .i64 qx,.int .i64 qy]
        | 7=>u=.bool u2
        | 8=>u=.bool (u1 != u2)
        | _=>True)
       (by kernel_rfl) (by kernel_rfl) (by kernel_rfl) [] rfl (by decide) (by kernel_rfl) (by kernel_rfl) HF302.out ?_ ?_
    ·refine ⟨?_,?_,?_,?_,?_,?_,?_,?_,?_,trivial⟩
     all_goals intro a w1 vs dn k K S hpre KE DE kk
     ·have e4:=KE 4 (by decide)
      have cu:w1.cell? ⟨g12,0,none⟩=some (.func (.func 84) #[] #[]):=Bk.cell ((S.fr.far g12 HT3.out.lt HUO.out).trans HT3.out) 0
      go_simp;exact kk _ _ (by simp) bR rfl
     ·have e5:=KE 5 (by decide)
      exact wpo_loadF 56 (.tmp 5) rfl g18 0 (by simpa [Act.eval] using e5) _ _ (S.fr.getO 1 rfl) #[.int .i64 lx,.int .i64 ly] rfl _ und_56 rfl info_56 (kk _ _ (by simp) bR rfl)
     ·have e7:=KE 7 (by decide)
      exact wpo_loadF 56 (.tmp 7) rfl gx 0 (by simpa [Act.eval] using e7) _ _ ((S.fr.far gx HGX.out.lt HXO.out).trans HGX.out) #[.int .i64 px,.int .i64 py] rfl _ und_56 rfl info_56 (kk _ _ (by simp) bR rfl)
     ·have e43:=dep (DE 0 _ 43 rfl rfl rfl)
      have e44:=dep (DE 1 _ 44 rfl rfl rfl)
      have e45:=dep (DE 2 _ 45 rfl rfl rfl)
      exact wpo_callV 84 (.tmp 43) _ _ rfl (by simpa [Act.eval] using e43) #[.agg #[.int .i64 lx,.int .i64 ly],.agg #[.int .i64 px,.int .i64 py]] (by simp [Act.eval,e44,e45]) (fun args w=>by kernel_rfl)
       ((HU1.out w1).mono fun e w' ⟨he,hb⟩=>⟨_,he,kk _ _ (by simp) hb rfl⟩)
     ·have e4:=KE 4 (by decide)
      have cu:w1.cell? ⟨g12,0,none⟩=some (.func (.func 84) #[] #[]):=Bk.cell ((S.fr.far g12 HT3.out.lt HUO.out).trans HT3.out) 0
      go_simp;exact kk _ _ (by simp) bR rfl
     ·have e7:=KE 7 (by decide)
      exact wpo_loadF 56 (.tmp 7) rfl gx 0 (by simpa [Act.eval] using e7) _ _ ((S.fr.far gx HGX.out.lt HXO.out).trans HGX.out) #[.int .i64 px,.int .i64 py] rfl _ und_56 rfl info_56 (kk _ _ (by simp) bR rfl)
     ·have e8:=KE 8 (by decide)
      exact wpo_loadF 56 (.tmp 8) rfl gy 0 (by simpa [Act.eval] using e8) _ _ ((S.fr.far gy HGY.out.lt HYO.out).trans HGY.out) #[.int .i64 qx,.int .i64 qy] rfl _ und_56 rfl info_56 (kk _ _ (by simp) bR rfl)
     ·have e47:=dep (DE 4 _ 47 rfl rfl rfl)
      have e48:=dep (DE 5 _ 48 rfl rfl rfl)
      have e49:=dep (DE 6 _ 49 rfl rfl rfl)
      exact wpo_callV 84 (.tmp 47) _ _ rfl (by simpa [Act.eval] using e47) #[.agg #[.int .i64 px,.int .i64 py],.agg #[.int .i64 qx,.int .i64 qy]] (by simp [Act.eval,e48,e49]) (fun args w=>by kernel_rfl)
       ((HU2.out w1).mono fun e w' ⟨he,hb⟩=>⟨_,he,kk _ _ (by simp) hb rfl⟩)
     ·have e46:=dep (DE 3 _ 46 rfl rfl rfl)
      have e50:=dep (DE 7 _ 50 rfl rfl rfl)
      go_simp;exact kk _ _ (by simp) bR rfl
    ·intro vs wf HFr HR
     have HFr':Fr W [(qb+1,4,#[.bool false]),(g18,56,iC [lx,ly]),(g22,3,iC [t])] [] wf:=HFr
     have v8:vs 8=.bool (u1 != u2):=HR 8 _ rfl
     clear HFr HR
     have HF303:=Lib.hid HFr'
     clear HFr'
     simp only [putAll,Act.put,List.setIfInBounds_toArray,List.set_cons_zero,List.set_cons_succ]
     simp only [v8]
     clear v8
     obtain ⟨w303,rfl⟩:∃ u:World,u=wf:=⟨_,rfl⟩
     cases hu:(u1 != u2) with
     | true =>
      have c304:w303.cell? ⟨g22,0,none⟩=some (.int .i64 t):=(HF303.out.getO 2 rfl).cell 0
      gi_wp2_with (first
        | (refine wpLoadFI rfl 56 _ rfl gx 0 rfl _ _ (show Bk _ gx 56 _ from (HF306.out.far _ HGX.out.lt HXO.out).trans HGX.out) #[.int .i64 px,.int .i64 py] rfl _ und_56 rfl info_56 ?_)
        | (refine wpStoreCellI rfl rfl 3 _ _ rfl g22 0 rfl (.int .i64 t1) rfl _ _ (HF303.out.getO 2 rfl) (by show 0<1;omega) rfl (by kernel_rfl) ?_;intro w305 hk ho;clear c304;have HF306:=Lib.hid (HF303.out.onlyO 2 rfl ho hk);clear ho hk)
        | (refine wpStoreFI rfl rfl 56 _ _ rfl g18 0 rfl #[.int .i64 px,.int .i64 py] rfl _ _ (iC [px,py]) (HF306.out.getO 1 rfl) rfl (by show 0+2≤2;omega) (one_all rfl) info_56 ?_;intro w307 hk ho;have HF308:=Lib.hid (HF306.out.onlyO 1 rfl ho hk);clear ho hk))
      exact HEN.out _ _ _ HEN3.out HF308.out.drop
     | false =>
      gi_wp2_with (first
        | (refine wpLoadFI rfl 56 _ rfl gx 0 rfl _ _ (show Bk _ gx 56 _ from (HF303.out.far _ HGX.out.lt HXO.out).trans HGX.out) #[.int .i64 px,.int .i64 py] rfl _ und_56 rfl info_56 ?_)
        | (refine wpStoreFI rfl rfl 56 _ _ rfl g18 0 rfl #[.int .i64 px,.int .i64 py] rfl _ _ (iC [px,py]) (HF303.out.getO 1 rfl) rfl (by show 0+2≤2;omega) (one_all rfl) info_56 ?_;intro w304 hk ho;have HF305:=Lib.hid (HF303.out.onlyO 1 rfl ho hk);clear ho hk))
      exact HEN.out _ _ _ HEN3.out HF305.out.drop
  case done =>
   intro D ys W hD hys hIW hK
   obtain ⟨t,h1,h2⟩:=(HI.out _ _).1 hIW
   have HFB:Hid (Fr W [(qb+1,4,#[.bool false]),(g18,56,#[.int .i64 (lstP v ys).x,.int .i64 (lstP v ys).y]),(g22,3,#[.int .i64 t])] [] W):=Lib.hid (Fr.startL (fun y hy=>by
    simp only [List.mem_cons,List.not_mem_nil,or_false] at hy
    rcases hy with rfl | rfl | rfl
    ·exact h2.get 1 rfl
    ·exact h2.get 4 rfl
    ·exact h2.get 5 rfl) (by have hnd:=h2.ndN;simp only [List.map_cons,List.map_nil,List.nodup_cons,List.mem_cons,List.not_mem_nil,or_false,not_or] at hnd;simp;try omega))
   have HKD:=Lib.hid hK
   have H2:=Lib.hid h2
   have HC:=Lib.hid h1
   have HYS:=Lib.hid hys
   have HDD:=Lib.hid hD
   have HT0:=Lib.hid (h2.get 0 rfl)
   have HT2:=Lib.hid (h2.get 2 rfl)
   have HT3:=Lib.hid (h2.get 3 rfl)
   have HT6:=Lib.hid (h2.get 6 rfl)
   clear hD hys hIW hK h1 h2
   have hall:=turns_all HYS.out HC.out
   have HZO:Hid (ZoneOk n v):=Lib.hid ⟨HN3.out.1,HN3.out.2,HNE.out,hall⟩
   clear hall
   obtain ⟨⟨lx,ly⟩,hlx⟩:∃ z,lstP v ys=z:=⟨_,rfl⟩
   rw [hlx] at H2 HFB
   dsimp only at H2 HFB
   have HEND:Hid (∀ W' b,Fr W [(qb+1,4,#[.bool b]),(g18,56,#[.int .i64 lx,.int .i64 ly]),(g22,3,#[.int .i64 t])] [] W'→W'.heap[D]?=some (.deferred (some []))∧PQ (.returned (.bool b)) (W'.putObj D (.deferred none))∧Bk (W'.putObj D (.deferred none)) (qb+1) 4 #[.bool b]):=Lib.hid fun W' b hf=>by
    have hDK:W'.heap[D]?=some (.deferred (some [])):=(hf.keepsOthers (fun y hy=>by
     simp only [List.mem_cons,List.not_mem_nil,or_false] at hy
     rcases hy with rfl | rfl | rfl
     ·exact ⟨_,_,H2.out.get 1 rfl⟩
     ·exact ⟨_,_,H2.out.get 4 rfl⟩
     ·exact ⟨_,_,H2.out.get 5 rfl⟩)).same D _ HKD.out rfl
    have h6:=(H2.out.turns [false,true,false,false,true,true,false] hf ⟨rfl,rfl,rfl,trivial⟩).putObj (.deferred none) (Nat.le_trans HF28.out.size HDD.out) hDK rfl
    exact ⟨hDK,HFIN.out _ _ (fun _=>HZO.out) h6.drop,h6.get 1 rfl⟩
   clear hlx
   have c401:W.cell? ⟨g22,0,none⟩=some (.int .i64 t):=(HFB.out.getO 2 rfl).cell 0
   go_wp2_with (refine wpStoreCell rfl rfl 4 _ _ rfl (qb+1) 0 rfl (.bool (t == 2)) rfl _ _ (HFB.out.getO 0 rfl) (by show 0<1;omega) rfl (by kernel_rfl) ?_;intro w402 hk ho;clear c401;have HF403:=Lib.hid (HFB.out.onlyO 0 rfl ho hk);clear ho hk)
   obtain ⟨hd1,hd2,hd3⟩:=HEND.out _ _ HF403.out.drop
   refine ⟨by simp,.inl ⟨_,_,rfl,run_takeDeferred hd1,?_⟩⟩
   exact ⟨_,results_c1 rfl _ _ (qb+1) 4 _ _ rfl hd3 und_4 rfl,hd2⟩
  case stop =>
   intro D cd pre W hD hSp hIx hK
   obtain ⟨rfl,t,l,h1,h2⟩:=(HIX.out _ _ _).1 hIx
   have h6:=h2.putObj (.deferred none) (Nat.le_trans HF28.out.size hD) hK rfl
   have HKD:=Lib.hid hK
   have HH:=Lib.hid (And.intro (HFIN.out _ false (fun h=>by cases h) h6.drop) (h6.get 1 rfl))
   clear hD hSp hIx hK h1 h2 h6
   refine wpIn_wide.2 ?_
   go_wp2_with fail
   refine ⟨by simp,.inl ⟨_,_,rfl,run_takeDeferred HKD.out,?_⟩⟩
   exact ⟨_,results_c1 rfl _ _ (qb+1) 4 _ _ rfl HH.out.2 und_4 rfl,HH.out.1⟩
end Go.Proofs.YtmkoegljnebdiaaGreat
namespace Go.Proofs.YtmkoegljnebdiaaGreat
open Go.RowKit Go.Shelf
set_option maxRecDepth 100000
set_option maxHeartbeats 16000000

def ZoneAt (w:World) (A:Option Addr) (n:Nat) (v:Nat→SpotD):Prop:=3≤n→n≤16→∃ g off,A=some ⟨g,off,none⟩∧SpAt w g off n v
theorem ZoneAt.below {w w':World} {A:Option Addr} {n:Nat} {v:Nat→SpotD} (h:ZoneAt w A n v) (hb:Below w.heap.size w w'):ZoneAt w' A n v:=fun h1 h2=>by
 obtain ⟨g,off,e,hs⟩:=h h1 h2
 exact ⟨g,off,e,hs.below hb⟩
def zoneV (nm:ByteArray) (A:Option Addr) (n c:Nat):Value:=.agg #[.string nm,.slice A n c]
theorem und_54:Tryz.prog.underlying 54=some (.struct (match Tryz.prog.underlying 54 with | some (.struct f)=>f | _=>#[])):=by kernel_rfl
theorem info_54:(Tryz.prog.info? 54).map (·.size)=some 8:=by kernel_rfl
theorem checkZone_any (nm:ByteArray) (A:Option Addr) (n c:Nat) (v:Nat→SpotD) (w:World) (hz:ZoneAt w A n v) :
  Calls Tryz.prog 36 #[zoneV nm A n c] w fun e w'=>(∃ b,e=.returned (.bool b)∧(b=true→ZoneOk n v))∧Below w.heap.size w w':=by
 unfold zoneV
 by_cases hnm:(1:Int)≤nm.size∧(nm.size:Int)≤32
 ·by_cases hn:3≤n∧n≤16
  ·obtain ⟨g,off,rfl,hs⟩:=hz hn.1 hn.2
   exact checkZone3_any nm hnm g off n c v hn.1 hn.2 w hs
  ·have HB1:=Lib.hid (fun w=>betw_any (nm.size:Int) 1 32 w)
   have HB2:=Lib.hid (fun w=>betw_any (n:Int) 3 16 w)
   rw [show betwI (nm.size:Int) 1 32=true from by unfold betwI;simp [hnm]] at HB1
   rw [show betwI (n:Int) 3 16=false from by unfold betwI;simp;omega] at HB2
   obtain ⟨PQ,hPQ⟩:∃ Q:Ending→World→Prop,(fun e w'=>(∃ b,e=.returned (.bool b)∧(b=true→ZoneOk n v))∧Below w.heap.size w w')=Q:=⟨_,rfl⟩
   have HFIN:Hid (∀ w',Fr w [] [] w'→PQ (.returned (.bool false)) w'):=Lib.hid fun w' hb=>by rw [← hPQ];exact ⟨⟨false,rfl,fun h=>by cases h⟩,hb.toBelow⟩
   rw [hPQ]
   clear hPQ hnm hn hz
   obtain ⟨qb,hqb⟩:∃ qb,w.heap.size=qb:=⟨_,rfl⟩
   obtain ⟨W0,hW0⟩:∃ W0,(w.alloc (.cells #[.string nm,.slice A n c] 27)).alloc (.cells #[.bool false] 4)=W0:=⟨_,rfl⟩
   have HF0:Hid (Fr w [] [(qb,27,#[.string nm,.slice A n c]),(qb+1,4,#[.bool false])] W0):=Lib.hid (by rw [← hW0];exact ((Fr.start w).alloc (by simp [← hqb]) 27 #[.string nm,.slice A n c]).alloc (by simp [← hqb]) 4 #[.bool false])
   go_enter Tryz.func36,Tryz.ntmps36
   go_upto_region 1 with (fail)
   clear hW0 hqb
   obtain ⟨g1,hg1⟩:∃ g,W0.heap.size=g:=⟨_,rfl⟩
   obtain ⟨w1,hw1⟩:∃ u,W0.alloc (.cells #[.nilFunc] 144)=u:=⟨_,rfl⟩
   have HF2:=Lib.hid (frE hw1 (HF0.out.alloc hg1.symm 144 #[.nilFunc]))
   go_wp2_with (refine wpStoreCell rfl rfl 144 _ _ rfl g1 0 rfl (.func (.func 82) #[] #[]) rfl _ _ (HF2.out.get 2 rfl) (by show 0<1;omega) rfl (by kernel_rfl) ?_;intro w3 hk ho;clear hw1 hg1;have HF4:=Lib.hid (HF2.out.only 2 rfl ho hk);clear ho hk;have c5:w3.cell? ⟨qb,0,none⟩=some (.string nm):=(HF4.out.get 0 rfl).cell 0)
   clear c5
   refine (HB1.out _).mono ?_
   rintro e w6 ⟨rfl,hw⟩
   rw [hw]
   clear hw w6
   have c7:w3.cell? ⟨qb,1,none⟩=some (.slice A n c):=(HF4.out.get 0 rfl).cell 1
   go_wp2_with fail
   clear c7
   refine (HB2.out _).mono ?_
   rintro e w8 ⟨rfl,hw⟩
   rw [hw]
   clear hw w8
   go_wp2_with (refine wpStoreCell rfl rfl 4 _ _ rfl (qb+1) 0 rfl (.bool false) rfl _ _ (HF4.out.get 1 rfl) (by show 0<1;omega) rfl (by kernel_rfl) ?_;intro w9 hk ho;have HF10:=Lib.hid (HF4.out.only 1 rfl ho hk);clear ho hk)
   refine bodyPost_ret (results_c1 rfl _ _ (qb+1) 4 _ _ rfl (HF10.out.get 1 rfl) und_4 rfl) rfl ?_
   exact HFIN.out _ HF10.out.drop
 ·have HB1:=Lib.hid (fun w=>betw_any (nm.size:Int) 1 32 w)
  rw [show betwI (nm.size:Int) 1 32=false from by unfold betwI;rw [Bool.and_eq_false_iff];simp only [decide_eq_false_iff_not];omega] at HB1
  obtain ⟨PQ,hPQ⟩:∃ Q:Ending→World→Prop,(fun e w'=>(∃ b,e=.returned (.bool b)∧(b=true→ZoneOk n v))∧Below w.heap.size w w')=Q:=⟨_,rfl⟩
  have HFIN:Hid (∀ w',Fr w [] [] w'→PQ (.returned (.bool false)) w'):=Lib.hid fun w' hb=>by rw [← hPQ];exact ⟨⟨false,rfl,fun h=>by cases h⟩,hb.toBelow⟩
  rw [hPQ]
  clear hPQ hnm hz
  obtain ⟨qb,hqb⟩:∃ qb,w.heap.size=qb:=⟨_,rfl⟩
  obtain ⟨W0,hW0⟩:∃ W0,(w.alloc (.cells #[.string nm,.slice A n c] 27)).alloc (.cells #[.bool false] 4)=W0:=⟨_,rfl⟩
  have HF0:Hid (Fr w [] [(qb,27,#[.string nm,.slice A n c]),(qb+1,4,#[.bool false])] W0):=Lib.hid (by rw [← hW0];exact ((Fr.start w).alloc (by simp [← hqb]) 27 #[.string nm,.slice A n c]).alloc (by simp [← hqb]) 4 #[.bool false])
  go_enter Tryz.func36,Tryz.ntmps36
  go_upto_region 1 with (fail)
  clear hW0 hqb
  obtain ⟨g1,hg1⟩:∃ g,W0.heap.size=g:=⟨_,rfl⟩
  obtain ⟨w1,hw1⟩:∃ u,W0.alloc (.cells #[.nilFunc] 144)=u:=⟨_,rfl⟩
  have HF2:=Lib.hid (frE hw1 (HF0.out.alloc hg1.symm 144 #[.nilFunc]))
  go_wp2_with (refine wpStoreCell rfl rfl 144 _ _ rfl g1 0 rfl (.func (.func 82) #[] #[]) rfl _ _ (HF2.out.get 2 rfl) (by show 0<1;omega) rfl (by kernel_rfl) ?_;intro w3 hk ho;clear hw1 hg1;have HF4:=Lib.hid (HF2.out.only 2 rfl ho hk);clear ho hk;have c5:w3.cell? ⟨qb,0,none⟩=some (.string nm):=(HF4.out.get 0 rfl).cell 0)
  clear c5
  refine (HB1.out _).mono ?_
  rintro e w6 ⟨rfl,hw⟩
  rw [hw]
  clear hw w6
  go_wp2_with (refine wpStoreCell rfl rfl 4 _ _ rfl (qb+1) 0 rfl (.bool false) rfl _ _ (HF4.out.get 1 rfl) (by show 0<1;omega) rfl (by kernel_rfl) ?_;intro w7 hk ho;have HF8:=Lib.hid (HF4.out.only 1 rfl ho hk);clear ho hk)
  refine bodyPost_ret (results_c1 rfl _ _ (qb+1) 4 _ _ rfl (HF8.out.get 1 rfl) und_4 rfl) rfl ?_
  exact HFIN.out _ HF8.out.drop
theorem contains11_any (nm:ByteArray) (A:Option Addr) (n c:Nat) (v:Nat→SpotD) (s:SpotD) (w:World) (hz:ZoneAt w A n v) :
  Calls Tryz.prog 11 #[zoneV nm A n c,spotV s] w fun e w'=>(∃ b,e=.returned (.bool b)∧(b=true→ZoneOk n v∧∀ k,k<n→0≤leftI (v k) (v ((k+1) % n)) s))∧Below w.heap.size w w':=by
 obtain ⟨PQ,hPQ⟩:∃ Q:Ending→World→Prop,(fun e w'=>(∃ b,e=.returned (.bool b)∧(b=true→ZoneOk n v∧∀ k,k<n→0≤leftI (v k) (v ((k+1) % n)) s))∧Below w.heap.size w w')=Q:=⟨_,rfl⟩
 have HFIN:Hid (∀ w' b,(b=true→ZoneOk n v∧∀ k,k<n→0≤leftI (v k) (v ((k+1) % n)) s)→Fr w [] [] w'→PQ (.returned (.bool b)) w'):=Lib.hid fun w' b h hb=>by rw [← hPQ];exact ⟨⟨b,rfl,h⟩,hb.toBelow⟩
 rw [hPQ]
 have HCZ:Hid (∀ {N:List Ent} {w':World},Fr w [] N w'→Calls Tryz.prog 36 #[zoneV nm A n c] w' fun e w''=>(∃ b,e=.returned (.bool b)∧(b=true→ZoneOk n v))∧Below w'.heap.size w' w''):=Lib.hid fun hf=>checkZone_any nm A n c v _ (hz.below hf.toBelow)
 have HCO:Hid (ZoneOk n v→spotOk s→∀ {N:List Ent} {w':World},Fr w [] N w'→Calls Tryz.prog 38 #[zoneV nm A n c,spotV s] w' fun e w''=>(∃ b,e=.returned (.bool b)∧(b=true→∀ k,k<n→0≤leftI (v k) (v ((k+1) % n)) s))∧Below w'.heap.size w' w''):=Lib.hid fun hzo hs N w' hf=>by
  obtain ⟨g,off,e,hsp⟩:=hz hzo.1 hzo.2.1
  subst e
  exact contains_any (.string nm) g off n c v s (by have:=hzo.2.1;omega) (fun i hi=>near_ok (hzo.2.2.1 i hi)) hs w' (hsp.below hf.toBelow)
 obtain ⟨sx,sy⟩:=s
 have HB1:=Lib.hid (fun w=>betw_any sx (-536870912) 536870912 w)
 have HB2:=Lib.hid (fun w=>betw_any sy (-536870912) 536870912 w)
 obtain ⟨b1,hb1⟩:∃ b,betwI sx (-536870912) 536870912=b:=⟨_,rfl⟩
 obtain ⟨b2,hb2⟩:∃ b,betwI sy (-536870912) 536870912=b:=⟨_,rfl⟩
 rw [hb1] at HB1
 rw [hb2] at HB2
 have HSO:Hid (b1=true→b2=true→spotOk ⟨sx,sy⟩):=Lib.hid fun e1 e2=>by
  rw [e1] at hb1
  rw [e2] at hb2
  unfold betwI at hb1 hb2
  simp only [Bool.and_eq_true,decide_eq_true_eq] at hb1 hb2
  exact ⟨hb1,hb2⟩
 unfold zoneV at HCZ HCO ⊢
 unfold spotV at HCO ⊢
 dsimp only at HCO ⊢
 clear hPQ hz hb1 hb2
 obtain ⟨qb,hqb⟩:∃ qb,w.heap.size=qb:=⟨_,rfl⟩
 obtain ⟨W0,hW0⟩:∃ W0,(w.alloc (.cells #[.string nm,.slice A n c] 27)).alloc (.cells #[.int .i64 sx,.int .i64 sy] 56)=W0:=⟨_,rfl⟩
 have HF0:Hid (Fr w [] [(qb,27,#[.string nm,.slice A n c]),(qb+1,56,iC [sx,sy])] W0):=Lib.hid (by rw [← hW0];exact ((Fr.start w).alloc (by simp [← hqb]) 27 #[.string nm,.slice A n c]).alloc (by simp [← hqb]) 56 #[.int .i64 sx,.int .i64 sy])
 go_enter Tryz.func11,Tryz.ntmps11
 go_upto_region 1 with (fail)
 clear hW0 hqb
 go_wp2_with (refine wpLoadF rfl 27 _ rfl qb 0 rfl _ _ (HF0.out.get 0 rfl) #[.string nm,.slice A n c] rfl _ und_27 rfl info_27 ?_)
 refine (HCZ.out HF0.out).mono ?_
 rintro e w1 ⟨⟨z1,rfl,hz1⟩,hw⟩
 have HF2:=Lib.hid (HF0.out.below hw)
 clear hw
 have HZ1:=Lib.hid hz1
 clear hz1
 cases z1 with
 | false =>
  go_wp2_with fail
  exact HFIN.out _ false (fun h=>by cases h) HF2.out.drop
 | true =>
  have HZO:=Lib.hid (HZ1.out rfl)
  clear HZ1
  have c3:w1.cell? ⟨qb+1,0,none⟩=some (.int .i64 sx):=(HF2.out.get 1 rfl).cell 0
  go_wp2_with fail
  clear c3
  refine (HB1.out _).mono ?_
  rintro e w4 ⟨rfl,hw⟩
  rw [hw]
  clear hw w4
  cases b1 with
  | false =>
   go_wp2_with fail
   exact HFIN.out _ false (fun h=>by cases h) HF2.out.drop
  | true =>
   have c5:w1.cell? ⟨qb+1,1,none⟩=some (.int .i64 sy):=(HF2.out.get 1 rfl).cell 1
   go_wp2_with fail
   clear c5
   refine (HB2.out _).mono ?_
   rintro e w6 ⟨rfl,hw⟩
   rw [hw]
   clear hw w6
   cases b2 with
   | false =>
    go_wp2_with fail
    exact HFIN.out _ false (fun h=>by cases h) HF2.out.drop
   | true =>
    go_wp2_with (first
      | (refine wpLoadFG rfl 27 _ rfl qb 0 rfl _ _ (HF2.out.get 0 rfl) #[.string nm,.slice A n c] rfl _ und_27 rfl info_27 ?_)
      | (refine wpLoadFG rfl 56 _ rfl (qb+1) 0 rfl _ _ (HF2.out.get 1 rfl) #[.int .i64 sx,.int .i64 sy] rfl _ und_56 rfl info_56 ?_))
    refine (HCO.out HZO.out (HSO.out (by trivial) (by trivial)) HF2.out).mono ?_
    rintro e w7 ⟨⟨z2,rfl,hz2⟩,hw⟩
    have HF8:=Lib.hid (HF2.out.below hw)
    clear hw
    have HZ2:=Lib.hid hz2
    clear hz2
    cases z2 with
    | false =>
     go_wp2_with fail
     exact HFIN.out _ false (fun h=>by cases h) HF8.out.drop
    | true =>
     go_wp2_with fail
     exact HFIN.out _ true (fun _=>⟨HZO.out,HZ2.out (by trivial)⟩) HF8.out.drop
theorem indexN132_any (fv:Value) (w:World):Calls Tryz.prog 132 #[.slice none 0 0,fv] w fun e w'=>e=.returned (.int .i64 (-1))∧w'=w:=by
 go_enter Tryz.func132,Tryz.ntmps132
 go_wp2_with fail
 refine wp_loop_rounds 1 ?_
 rw [rounds_succ]
 go_wp2_with fail
 go_ret
 exact ⟨by simp,rfl⟩
theorem indexN133_any (fv:Value) (w:World):Calls Tryz.prog 133 #[.slice none 0 0,fv] w fun e w'=>e=.returned (.int .i64 (-1))∧w'=w:=by
 go_enter Tryz.func133,Tryz.ntmps133
 go_wp2_with fail
 refine wp_loop_rounds 1 ?_
 rw [rounds_succ]
 go_wp2_with fail
 go_ret
 exact ⟨by simp,rfl⟩
theorem contN67_any (fv:Value) (w:World):Calls Tryz.prog 67 #[.slice none 0 0,fv] w fun e w'=>e=.returned (.bool false)∧w'=w:=by
 have H:=Lib.hid (indexN132_any fv w)
 go_enter Tryz.func67,Tryz.ntmps67
 go_wp2_with fail
 refine H.out.mono ?_
 rintro e w1 ⟨rfl,rfl⟩
 go_wp2_with fail
 go_ret
 exact ⟨by simp,rfl⟩
theorem contN69_any (fv:Value) (w:World):Calls Tryz.prog 69 #[.slice none 0 0,fv] w fun e w'=>e=.returned (.bool false)∧w'=w:=by
 have H:=Lib.hid (indexN133_any fv w)
 go_enter Tryz.func69,Tryz.ntmps69
 go_wp2_with fail
 refine H.out.mono ?_
 rintro e w1 ⟨rfl,rfl⟩
 go_wp2_with fail
 go_ret
 exact ⟨by simp,rfl⟩
theorem checkPlan_any (nm:ByteArray) (A:Option Addr) (n c:Nat) (v:Nat→SpotD) (w:World) (hz:ZoneAt w A n v) :
  Calls Tryz.prog 25 #[.agg #[.string nm,.slice A n c,.slice none 0 0,.slice none 0 0,.int .i64 0,.int .i64 0,.int .i64 0,.int .i64 0]] w fun e w'=>(∃ b,e=.returned (.bool b)∧(b=true→ZoneOk n v))∧Below w.heap.size w w':=by
 obtain ⟨PQ,hPQ⟩:∃ Q:Ending→World→Prop,(fun e w'=>(∃ b,e=.returned (.bool b)∧(b=true→ZoneOk n v))∧Below w.heap.size w w')=Q:=⟨_,rfl⟩
 have HFIN:Hid (∀ w' b,(b=true→ZoneOk n v)→Fr w [] [] w'→PQ (.returned (.bool b)) w'):=Lib.hid fun w' b h hb=>by rw [← hPQ];exact ⟨⟨b,rfl,h⟩,hb.toBelow⟩
 rw [hPQ]
 have HCZ:Hid (∀ {N:List Ent} {w':World},Fr w [] N w'→Calls Tryz.prog 36 #[zoneV nm A n c] w' fun e w''=>(∃ b,e=.returned (.bool b)∧(b=true→ZoneOk n v))∧Below w'.heap.size w' w''):=Lib.hid fun hf=>checkZone_any nm A n c v _ (hz.below hf.toBelow)
 have HB:Hid (∀ hi:Int,0≤hi→∀ w,Calls Tryz.prog 37 #[.int .i64 0,.int .i64 0,.int .i64 hi] w fun e w'=>e=.returned (.bool true)∧w'=w):=Lib.hid fun hi h w=>by
  have:=betw_any 0 0 hi w
  rwa [show betwI 0 0 hi=true from by unfold betwI;simp [h]] at this
 unfold zoneV at HCZ
 clear hPQ hz
 obtain ⟨qb,hqb⟩:∃ qb,w.heap.size=qb:=⟨_,rfl⟩
 obtain ⟨W0,hW0⟩:∃ W0,w.alloc (.cells #[.string nm,.slice A n c,.slice none 0 0,.slice none 0 0,.int .i64 0,.int .i64 0,.int .i64 0,.int .i64 0] 54)=W0:=⟨_,rfl⟩
 have HF0:Hid (Fr w [] [(qb,54,#[.string nm,.slice A n c,.slice none 0 0,.slice none 0 0,.int .i64 0,.int .i64 0,.int .i64 0,.int .i64 0])] W0):=Lib.hid (by rw [← hW0];exact (Fr.start w).alloc hqb.symm 54 #[.string nm,.slice A n c,.slice none 0 0,.slice none 0 0,.int .i64 0,.int .i64 0,.int .i64 0,.int .i64 0])
 go_enter Tryz.func25,Tryz.ntmps25
 go_upto_region 1 with (fail)
 clear hW0 hqb
 obtain ⟨g1,hg1⟩:∃ g,W0.heap.size=g:=⟨_,rfl⟩
 obtain ⟨w1,hw1⟩:∃ u,W0.alloc (.cells #[.nilFunc] 168)=u:=⟨_,rfl⟩
 have HF2:=Lib.hid (frE hw1 (HF0.out.alloc hg1.symm 168 #[.nilFunc]))
 go_wp2_with (first
   | (refine wpLoadF rfl 27 _ rfl qb 0 rfl _ _ (HF4.out.get 0 rfl) #[.string nm,.slice A n c] rfl _ und_27 rfl info_27 ?_)
   | (refine wpStoreCell rfl rfl 168 _ _ rfl g1 0 rfl (.func (.func 66) #[] #[]) rfl _ _ (HF2.out.get 1 rfl) (by show 0<1;omega) rfl (by kernel_rfl) ?_;intro w3 hk ho;clear hw1 hg1;have HF4:=Lib.hid (HF2.out.only 1 rfl ho hk);clear ho hk))
 refine (HCZ.out HF4.out).mono ?_
 rintro e w5 ⟨⟨z1,rfl,hz1⟩,hw⟩
 have HF6:=Lib.hid (HF4.out.below hw)
 clear hw
 have HZ1:=Lib.hid hz1
 clear hz1
 cases z1 with
 | false =>
  go_wp2_with fail
  exact HFIN.out _ false (fun h=>by cases h) HF6.out.drop
 | true =>
  have HZO:=Lib.hid (HZ1.out rfl)
  clear HZ1
  have cq2:w5.cell? ⟨qb,2,none⟩=some (.slice none 0 0):=(HF6.out.get 0 rfl).cell 2
  have cq3:w5.cell? ⟨qb,3,none⟩=some (.slice none 0 0):=(HF6.out.get 0 rfl).cell 3
  go_upto_region 4 with (fail)
  have c7:w5.cell? ⟨qb,2,none⟩=some (.slice none 0 0):=(HF6.out.get 0 rfl).cell 2
  go_wp2_with fail
  clear c7
  refine (contN67_any _ _).mono ?_
  rintro e w8 ⟨rfl,hw⟩
  rw [hw]
  clear hw w8
  have c9:w5.cell? ⟨qb,3,none⟩=some (.slice none 0 0):=(HF6.out.get 0 rfl).cell 3
  go_wp2_with fail
  clear c9
  refine (contN69_any _ _).mono ?_
  rintro e w10 ⟨rfl,hw⟩
  rw [hw]
  clear hw w10
  have c11:w5.cell? ⟨qb,4,none⟩=some (.int .i64 0):=(HF6.out.get 0 rfl).cell 4
  go_wp2_with fail
  clear c11
  refine ((HB.out _ (by decide) _)).mono ?_
  rintro e w12 ⟨rfl,hw⟩
  rw [hw]
  clear hw w12
  have c13:w5.cell? ⟨qb,6,none⟩=some (.int .i64 0):=(HF6.out.get 0 rfl).cell 6
  go_wp2_with fail
  clear c13
  refine ((HB.out _ (by decide) _)).mono ?_
  rintro e w14 ⟨rfl,hw⟩
  rw [hw]
  clear hw w14
  have c15:w5.cell? ⟨qb,7,none⟩=some (.int .i64 0):=(HF6.out.get 0 rfl).cell 7
  go_wp2_with fail
  clear c15
  refine ((HB.out _ (by decide) _)).mono ?_
  rintro e w16 ⟨rfl,hw⟩
  rw [hw]
  clear hw w16
  have c17:w5.cell? ⟨qb,5,none⟩=some (.int .i64 0):=(HF6.out.get 0 rfl).cell 5
  go_wp2_with fail
  clear c17
  refine ((HB.out _ (by decide) _)).mono ?_
  rintro e w18 ⟨rfl,hw⟩
  rw [hw]
  clear hw w18
  go_wp2_with fail
  exact HFIN.out _ true (fun _=>HZO.out) HF6.out.drop
theorem und_66:Tryz.prog.underlying 66=some (.struct (match Tryz.prog.underlying 66 with | some (.struct f)=>f | _=>#[])):=by kernel_rfl
theorem info_66:(Tryz.prog.info? 66).map (·.size)=some 7:=by kernel_rfl
theorem und_25:Tryz.prog.underlying 25=some (.slice 56):=by kernel_rfl
theorem info_56b:(Tryz.prog.info? 56).map (fun i=>(i.zero.isSome,i.size,decide (i.bytes≤1024)))=some (true,2,true):=by kernel_rfl
def spL (n:Nat) (v:Nat→SpotD):List Value:=(List.range (n * 2)).map fun m=>if m % 2=0 then .int .i64 (v (m / 2)).x else .int .i64 (v (m / 2)).y
theorem spL_len (n:Nat) (v:Nat→SpotD):(spL n v).length=n * 2:=by simp [spL]
theorem spL_get (n:Nat) (v:Nat→SpotD) (i:Nat) (hi:i<n):(spL n v)[i * 2]?=some (.int .i64 (v i).x)∧(spL n v)[i * 2+1]?=some (.int .i64 (v i).y):=by
 unfold spL
 refine ⟨?_,?_⟩
 ·rw [List.getElem?_map,List.getElem?_range (by omega),Option.map_some,if_pos (by omega),show i * 2 / 2=i by omega]
 ·rw [List.getElem?_map,List.getElem?_range (by omega),Option.map_some,if_neg (by omega),show (i * 2+1) / 2=i by omega]
theorem spL_cell {w:World} {g off n:Nat} {v:Nat→SpotD} (h:SpAt w g off n v) (j:Nat) (u:Value) (hj:(spL n v)[j]?=some u):w.cell? ⟨g,off+j,none⟩=some u:=by
 have hl:j<n * 2:=by have:=(List.getElem?_eq_some_iff.1 hj).1;rwa [spL_len] at this
 obtain ⟨h1,h2⟩:=spL_get n v (j / 2) (by omega)
 obtain ⟨c1,c2⟩:=h.2 (j / 2) (by omega)
 rcases Nat.mod_two_eq_zero_or_one j with e | e
 ·rw [show j / 2 * 2=j by omega] at h1 c1
  rw [h1] at hj;cases hj;exact c1
 ·rw [show j / 2 * 2+1=j by omega] at h2
  rw [show off+j / 2 * 2+1=off+j by omega] at c2
  rw [h2] at hj;cases hj;exact c2
theorem SpAt.only {w w':World} {g off n b:Nat} {v:Nat→SpotD} (h:SpAt w g off n v) (ho:Only b w w') (hne:g ≠ b):SpAt w' g off n v :=
 h.keep (Ks:=[g]) (fun x hx=>ho.block x (by rw [List.mem_singleton] at hx;rw [hx];exact hne)) (by simp)
theorem run_cloneS (w:World) (b:Addr) (g off n c:Nat) (v:Nat→SpotD) (h:SpAt w g off n v) (h0:0<n) (hn:n≤4096) (ty:TypeId) :
  ∃ g' c' w' csx,(Builtin.append_ #[25,25] ty #[.slice (some b) 0 0,.slice (some ⟨g,off,none⟩) n c]).run Tryz.prog w=.ok (.slice (some ⟨g',0,none⟩) n c') w'∧(∀ W,Bk W g' 56 csx→SpAt W g' 0 n v)∧Fr w [] [(g',56,csx)] w':=by
 obtain ⟨i,hi,he⟩:=Option.map_eq_some_iff.1 info_56b
 simp only [Prod.mk.injEq,decide_eq_true_eq] at he
 obtain ⟨h1,h2,h3⟩:=he
 obtain ⟨z,hz⟩:=Option.isSome_iff_exists.1 h1
 have hb2:n * i.bytes≤4096 * 1024:=Nat.mul_le_mul hn h3
 have hr:=run_append_grow (P:=Tryz.prog) (w:=w) 25 ty 56 i z und_25 hi hz b 0 0 [] (by simp) (by intro j v hj;simp at hj) ⟨g,off,none⟩ n c (spL n v) (by rw [spL_len,h2]) (fun j u hj=>by rw [Addr.add_lit];exact spL_cell h j u hj) (by omega) (by omega)
  (by rw [Nat.zero_add,nextslicecap_zero h0];omega)
 rw [Nat.zero_add] at hr
 refine ⟨_,_,_,_,hr,fun W hk=>?_,((Fr.start w).drew).alloc rfl 56 _⟩
 refine ⟨hk.lt,fun i hi=>?_⟩
 obtain ⟨g1,g2⟩:=spL_get n v i hi
 have l1:=(List.getElem?_eq_some_iff.1 g1).1
 have l2:=(List.getElem?_eq_some_iff.1 g2).1
 rw [Nat.zero_add]
 constructor
 ·refine (hk.cell _).trans ?_
  rw [Array.empty_append,Array.getElem?_append,if_pos (by simpa using l1)]
  simpa using g1
 ·refine (hk.cell _).trans ?_
  rw [Array.empty_append,Array.getElem?_append,if_pos (by simpa using l2)]
  simpa using g2
theorem wpList_cloneS {ops:Array Oper} {rest:List Oper} {o:Oper} {a:Act} {w:World} {Q:Exit→Act→World→Prop} (hgd:o.guard=none) (s x:Operand) (ho:o.op=.call { callee:=.builtin .append,args:=#[s,x],argTypes:=#[25,25] })
  (b:Addr) (hs:a.eval s=.slice (some b) 0 0) (g off n c:Nat) (hx:a.eval x=.slice (some ⟨g,off,none⟩) n c) (v:Nat→SpotD) (h:SpAt w g off n v) (h0:0<n) (hn:n≤4096)
  (hK:∀ g' c' w' csx,(∀ W,Bk W g' 56 csx→SpAt W g' 0 n v)→Fr w [] [(g',56,csx)] w'→wpList Tryz.prog ops Q rest (a.put o.dst (.slice (some ⟨g',0,none⟩) n c')) w'):wpList Tryz.prog ops Q (o :: rest) a w :=
 wpList_plain hgd fun _ hK'=>by
  obtain ⟨g',c',w',csx,hr,h1,h2⟩:=run_cloneS w b g off n c v h h0 hn o.type
  unfold Oper.wp execOp
  simp only [ho,resolve,invoke,builtin,Sem.run_bind,Sem.run_pure,Result.andThen_ok,List.map_toArray,List.map_cons,List.map_nil,hs,hx,hr]
  exact hK' _ _ (hK g' c' w' csx h1 h2)
theorem clone26_any (g off n c:Nat) (v:Nat→SpotD) (h0:0<n) (hn:n≤4096) (w:World) (hs:SpAt w g off n v) :
  Calls Tryz.prog 26 #[.slice (some ⟨g,off,none⟩) n c] w fun e w'=>∃ g' c' csx,e=.returned (.slice (some ⟨g',0,none⟩) n c')∧(∀ W,Bk W g' 56 csx→SpAt W g' 0 n v)∧Fr w [] [(g',56,csx)] w':=by
 obtain ⟨PQ,hPQ⟩:∃ Q:Ending→World→Prop,(fun e w'=>∃ g' c' csx,e=.returned (.slice (some ⟨g',0,none⟩) n c')∧(∀ W,Bk W g' 56 csx→SpAt W g' 0 n v)∧Fr w [] [(g',56,csx)] w')=Q:=⟨_,rfl⟩
 have HFIN:Hid (∀ w' g' c' csx,(∀ W,Bk W g' 56 csx→SpAt W g' 0 n v)→Fr w [] [(g',56,csx)] w'→PQ (.returned (.slice (some ⟨g',0,none⟩) n c')) w'):=Lib.hid fun w' g' c' csx h1 h2=>by rw [← hPQ];exact ⟨g',c',csx,rfl,h1,h2⟩
 rw [hPQ]
 have HS:=Lib.hid hs
 have H0:=Lib.hid h0
 have HN:=Lib.hid hn
 clear hPQ hs h0 hn
 have heq:∀ w,(binOp .eql 25 (.slice (some ⟨g,off,none⟩) n c) (.slice none 0 0)).run Tryz.prog w=.ok (.bool false) w:=fun w=>by kernel_rfl
 go_enter Tryz.func26,Tryz.ntmps26
 go_upto_region 3 with (fail)
 obtain ⟨g1,hg1⟩:∃ g,w.heap.size=g:=⟨_,rfl⟩
 obtain ⟨w1,hw1⟩:∃ u,w.alloc (.cells #[] 56)=u:=⟨_,rfl⟩
 have HF1:Hid (Fr w [] [(g1,56,#[])] w1):=Lib.hid (by rw [← hw1];exact (Fr.start w).alloc hg1.symm 56 #[])
 go_wp2_with (at_builtin;refine wpList_cloneS rfl _ _ rfl _ rfl g off n c rfl v (HS.out.below HF1.out.toBelow) H0.out HN.out ?_;intro g' c' w2 csx hs2 hb2;have HS2:=Lib.hid hs2;have HB2:Hid (Fr w [] [(g1,56,#[]),(g',56,csx)] w2):=Lib.hid (HF1.out.more hb2);clear hs2 hb2)
 exact HFIN.out _ _ _ _ HS2.out (HB2.out.sub (.cons _ (List.Sublist.refl _)))
/-- A unit's cells. -/
def unitC (nm:ByteArray) (g' n c':Nat) (ov kn:Bool) (r:RectD) (d:Int):Array Value:=#[.string nm,.slice (some ⟨g',0,none⟩) n c',.int .i64 0,.int .i64 0,.bool true,.bool ov,.bool kn,.int .i64 r.a.x,.int .i64 r.a.y,.int .i64 r.b.x,.int .i64 r.b.y,.int .i64 d]
theorem newUnit_any (nm:ByteArray) (A:Option Addr) (n c:Nat) (v:Nat→SpotD) (w:World) (hz:ZoneAt w A n v) :
  Calls Tryz.prog 8 #[.agg #[.string nm,.slice A n c,.slice none 0 0,.slice none 0 0,.int .i64 0,.int .i64 0,.int .i64 0,.int .i64 0]] w fun e w' =>
   (e=.returned (.tuple #[.pointer none,.int .i64 2])∧Fr w [] [] w') ∨ (∃ U g' c' csx,e=.returned (.tuple #[.pointer (some ⟨U,0,none⟩),.int .i64 0])∧ZoneOk n v∧(∀ W,Bk W g' 56 csx→SpAt W g' 0 n v)∧Fr w [] [(g',56,csx),(U,107,unitC nm g' n c' false false zeroR 0)] w'):=by
 obtain ⟨PQ,hPQ⟩:∃ Q:Ending→World→Prop,(fun e w'=>(e=.returned (.tuple #[.pointer none,.int .i64 2])∧Fr w [] [] w') ∨ (∃ U g' c' csx,e=.returned (.tuple #[.pointer (some ⟨U,0,none⟩),.int .i64 0])∧ZoneOk n v∧(∀ W,Bk W g' 56 csx→SpAt W g' 0 n v)∧Fr w [] [(g',56,csx),(U,107,unitC nm g' n c' false false zeroR 0)] w'))=Q:=⟨_,rfl⟩
 have HFIN1:Hid (∀ w',Fr w [] [] w'→PQ (.returned (.tuple #[.pointer none,.int .i64 2])) w'):=Lib.hid fun w' h=>by rw [← hPQ];exact .inl ⟨rfl,h⟩
 have HFIN2:Hid (∀ w' U g' c' csx,ZoneOk n v→(∀ W,Bk W g' 56 csx→SpAt W g' 0 n v)→Fr w [] [(g',56,csx),(U,107,#[.string nm,.slice (some ⟨g',0,none⟩) n c',.int .i64 0,.int .i64 0,.bool true,.bool false,.bool false,.int .i64 0,.int .i64 0,.int .i64 0,.int .i64 0,.int .i64 0])] w'→PQ (.returned (.tuple #[.pointer (some ⟨U,0,none⟩),.int .i64 0])) w'):=Lib.hid fun w' U g' c' csx h1 h2 h3=>by rw [← hPQ];exact .inr ⟨U,g',c',csx,rfl,h1,h2,h3⟩
 rw [hPQ]
 have HCP:Hid (∀ {N:List Ent} {w':World},Fr w [] N w'→Calls Tryz.prog 25 #[.agg #[.string nm,.slice A n c,.slice none 0 0,.slice none 0 0,.int .i64 0,.int .i64 0,.int .i64 0,.int .i64 0]] w' fun e w''=>(∃ b,e=.returned (.bool b)∧(b=true→ZoneOk n v))∧Below w'.heap.size w' w''):=Lib.hid fun hf=>checkPlan_any nm A n c v _ (hz.below hf.toBelow)
 have HCL:Hid (ZoneOk n v→∀ {N:List Ent} {w':World},Fr w [] N w'→Calls Tryz.prog 26 #[.slice A n c] w' fun e w''=>∃ g' c' csx,e=.returned (.slice (some ⟨g',0,none⟩) n c')∧(∀ W,Bk W g' 56 csx→SpAt W g' 0 n v)∧Fr w' [] [(g',56,csx)] w''):=Lib.hid fun hzo N w' hf=>by
  obtain ⟨g,off,e,hsp⟩:=hz hzo.1 hzo.2.1
  subst e
  have:=hzo.1
  have:=hzo.2.1
  exact clone26_any g off n c v (by omega) (by omega) w' (hsp.below hf.toBelow)
 clear hPQ hz
 obtain ⟨qb,hqb⟩:∃ qb,w.heap.size=qb:=⟨_,rfl⟩
 obtain ⟨W0,hW0⟩:∃ W0,w.alloc (.cells #[.string nm,.slice A n c,.slice none 0 0,.slice none 0 0,.int .i64 0,.int .i64 0,.int .i64 0,.int .i64 0] 54)=W0:=⟨_,rfl⟩
 have HF0:Hid (Fr w [] [(qb,54,#[.string nm,.slice A n c,.slice none 0 0,.slice none 0 0,.int .i64 0,.int .i64 0,.int .i64 0,.int .i64 0])] W0):=Lib.hid (by rw [← hW0];exact (Fr.start w).alloc hqb.symm 54 #[.string nm,.slice A n c,.slice none 0 0,.slice none 0 0,.int .i64 0,.int .i64 0,.int .i64 0,.int .i64 0])
 go_enter Tryz.func8,Tryz.ntmps8
 go_upto_region 1 with (fail)
 clear hW0 hqb
 go_wp2_with (refine wpLoadF rfl 54 _ rfl qb 0 rfl _ _ (HF0.out.get 0 rfl) #[.string nm,.slice A n c,.slice none 0 0,.slice none 0 0,.int .i64 0,.int .i64 0,.int .i64 0,.int .i64 0] rfl _ und_54 rfl info_54 ?_)
 refine (HCP.out HF0.out).mono ?_
 rintro e w1 ⟨⟨z1,rfl,hz1⟩,hw⟩
 have HF2:=Lib.hid (HF0.out.below hw)
 clear hw
 have HZ1:=Lib.hid hz1
 clear hz1
 cases z1 with
 | false =>
  go_wp2_with fail
  exact HFIN1.out _ HF2.out.drop
 | true =>
  have HZO:=Lib.hid (HZ1.out rfl)
  clear HZ1
  have c3:w1.cell? ⟨qb,1,none⟩=some (.slice A n c):=(HF2.out.get 0 rfl).cell 1
  go_wp2_with fail
  clear c3
  refine (HCL.out HZO.out HF2.out).mono ?_
  rintro e w4 ⟨g',c',csx,rfl,hs',hw⟩
  have HF5:=Lib.hid (HF2.out.more hw)
  clear hw
  have HS1:=Lib.hid hs'
  clear hs'
  go_wp2_with (first
    | (refine wpLoadF rfl 27 _ rfl qb 0 rfl _ _ (HF7.out.get 0 rfl) #[.string nm,.slice (some ⟨g',0,none⟩) n c'] rfl _ und_27 rfl info_27 ?_)
    | (refine wpStoreCell rfl rfl 25 _ _ rfl qb 1 rfl (.slice (some ⟨g',0,none⟩) n c') rfl _ _ (HF5.out.get 0 rfl) (by show 1<8;omega) rfl (by kernel_rfl) ?_;intro w6 hk ho;have HF7:=Lib.hid (HF5.out.only 0 rfl ho hk);clear ho hk;have c8:w6.cell? ⟨qb,4,none⟩=some (.int .i64 0):=(HF7.out.get 0 rfl).cell 4;have c9:w6.cell? ⟨qb,5,none⟩=some (.int .i64 0):=(HF7.out.get 0 rfl).cell 5;obtain ⟨g10,hg10⟩:∃ g,w6.heap.size=g:=⟨_,rfl⟩;obtain ⟨w10,hw10⟩:∃ u,w6.alloc (.cells #[.string nm,.slice (some ⟨g',0,none⟩) n c',.int .i64 0,.int .i64 0,.bool true,.bool false,.bool false,.int .i64 0,.int .i64 0,.int .i64 0,.int .i64 0,.int .i64 0] 107)=u:=⟨_,rfl⟩;have HF11:=Lib.hid (frE hw10 (HF7.out.alloc hg10.symm 107 #[.string nm,.slice (some ⟨g',0,none⟩) n c',.int .i64 0,.int .i64 0,.bool true,.bool false,.bool false,.int .i64 0,.int .i64 0,.int .i64 0,.int .i64 0,.int .i64 0]))))
  clear c8 c9 hw10 hg10
  exact HFIN2.out _ _ _ _ _ HZO.out HS1.out (HF11.out.sub (.cons _ (List.Sublist.refl _)))

theorem SpAt.fr {w w':World} {O N:List Ent} {g off n:Nat} {v:Nat→SpotD} (h:SpAt w g off n v) (hf:Fr w O N w') (hg:g ∉ O.map (·.1)):SpAt w' g off n v :=
 h.keep (Ks:=[g]) (fun x hx=>by rw [List.mem_singleton] at hx;subst hx;exact hf.far _ h.1 hg) (by simp)
theorem ready_any (nm:ByteArray) (U g' n c':Nat) (kn:Bool) (r:RectD) (d:Int) (w:World) (hU:Bk w U 107 (unitC nm g' n c' false kn r d)) :
  Calls Tryz.prog 32 #[.pointer (some ⟨U,0,none⟩)] w fun e w'=>e=.returned (.int .i64 0)∧w'=w:=by
 have c4:w.cell? ⟨U,4,none⟩=some (.bool true):=hU.cell 4
 have c5:w.cell? ⟨U,5,none⟩=some (.bool false):=hU.cell 5
 clear hU
 have heq:∀ w,(binOp .eql 48 (.pointer (some ⟨U,0,none⟩)) (.pointer none)).run Tryz.prog w=.ok (.bool false) w:=fun w=>by kernel_rfl
 go_enter Tryz.func32,Tryz.ntmps32
 go_wp2_with fail
 go_ret
 exact ⟨by simp,rfl⟩
def tickV (why:Int) (r:RectD):Value:=.tuple #[.agg #[.bool (decide (0<why)),.int .i64 why,.bool true,.int .i64 r.a.x,.int .i64 r.a.y,.int .i64 r.b.x,.int .i64 r.b.y],.int .i64 0]
theorem tick_any (nm:ByteArray) (U g' n c':Nat) (kn:Bool) (r0 r:RectD) (d:Int) (v:Nat→SpotD) (hz:ZoneOk n v) (hr:rectB r=true) (w:World) (hs:SpAt w g' 0 n v) (hU:Bk w U 107 (unitC nm g' n c' false kn r0 d)) :
  Calls Tryz.prog 10 #[.pointer (some ⟨U,0,none⟩),rectV r,.bool true] w fun e w'=>∃ why d',(why=0 ∨ why=2 ∨ (why=1∧∃ du dv,SepUV du dv n v 4 (cornP r)))∧e=.returned (tickV why r)∧Fr w [(U,107,unitC nm g' n c' (decide (0<why)) true r d')] [] w':=by
 obtain ⟨PQ,hPQ⟩:∃ Q:Ending→World→Prop,(fun e w'=>∃ why d',(why=0 ∨ why=2 ∨ (why=1∧∃ du dv,SepUV du dv n v 4 (cornP r)))∧e=.returned (tickV why r)∧Fr w [(U,107,unitC nm g' n c' (decide (0<why)) true r d')] [] w')=Q:=⟨_,rfl⟩
 have HFIN:Hid (∀ w' why d',(why=0 ∨ why=2 ∨ (why=1∧∃ du dv,SepUV du dv n v 4 (cornP r)))→Fr w [(U,107,unitC nm g' n c' (decide (0<why)) true r d')] [] w'→PQ (.returned (tickV why r)) w'):=Lib.hid fun w' why d' h1 h2=>by rw [← hPQ];exact ⟨why,d',h1,rfl,h2⟩
 rw [hPQ]
 have hne:g' ≠ U:=fun e=>by
  subst e
  have h1:=(hs.2 0 (by have:=hz.1;omega)).1
  rw [Nat.zero_add,Nat.zero_mul,hU.cell 0] at h1
  cases h1
 have hok:spotOk r.a∧spotOk r.b:=by
  unfold rectB betwI at hr
  simp only [Bool.and_eq_true,decide_eq_true_eq] at hr
  unfold spotOk;omega
 have HSI:Hid (∀ {O N:List Ent} {w':World},O.map (·.1)=[U]→Fr w O N w'→Calls Tryz.prog 35 #[.agg #[.string nm,.slice (some ⟨g',0,none⟩) n c'],rectV r] w' fun e w''=>(∃ k:Int,e=.returned (.int .i64 k)∧(k=1 ∨ k=0 ∨ (k=-1∧∃ du dv,SepUV du dv n v 4 (cornP r))))∧Below w'.heap.size w' w''):=Lib.hid fun ho hf =>
  side_any (.string nm) g' 0 n c' v r (by have:=hz.2.1;omega) (by have:=hz.1;omega) (fun i hi=>near_ok (hz.2.2.1 i hi)) hok.1 hok.2 _ (hs.fr hf (by rw [ho];simpa using hne))
 have HCR:=Lib.hid (fun w=>checkRect_any r w)
 rw [hr] at HCR
 have HRE:Hid (∀ w',Bk w' U 107 (unitC nm g' n c' false kn r0 d)→Calls Tryz.prog 32 #[.pointer (some ⟨U,0,none⟩)] w' fun e w''=>e=.returned (.int .i64 0)∧w''=w'):=Lib.hid fun w' h=>ready_any nm U g' n c' kn r0 d w' h
 obtain ⟨SEP,hSEP⟩:∃ P:Prop,(∃ du dv,SepUV du dv n v 4 (cornP r))=P:=⟨_,rfl⟩
 rw [hSEP] at HFIN HSI
 obtain ⟨⟨ax,ay⟩,bx,byy⟩:=r
 obtain ⟨⟨kax,kay⟩,kbx,kby⟩:=r0
 have HKC:=Lib.hid hU
 unfold unitC at HFIN HRE HKC
 unfold tickV at HFIN
 unfold rectV at HSI HCR ⊢
 dsimp only at HFIN HSI HCR HRE HKC ⊢
 clear hPQ hz hr hs hU hne hok hSEP
 obtain ⟨qb,hqb⟩:∃ qb,w.heap.size=qb:=⟨_,rfl⟩
 obtain ⟨W0,hW0⟩:∃ W0,(w.alloc (.cells #[.int .i64 ax,.int .i64 ay,.int .i64 bx,.int .i64 byy] 62)).alloc (.cells #[.bool false,.int .i64 0,.bool false,.int .i64 0,.int .i64 0,.int .i64 0,.int .i64 0] 66)=W0:=⟨_,rfl⟩
 have HF0:Hid (Fr w [(U,107,#[.string nm,.slice (some ⟨g',0,none⟩) n c',.int .i64 0,.int .i64 0,.bool true,.bool false,.bool kn,.int .i64 kax,.int .i64 kay,.int .i64 kbx,.int .i64 kby,.int .i64 d])] [(qb,62,iC [ax,ay,bx,byy]),(qb+1,66,#[.bool false,.int .i64 0,.bool false,.int .i64 0,.int .i64 0,.int .i64 0,.int .i64 0])] W0):=Lib.hid (by rw [← hW0];exact ((Fr.start1 HKC.out).alloc (by simp [← hqb]) 62 #[.int .i64 ax,.int .i64 ay,.int .i64 bx,.int .i64 byy]).alloc (by simp [← hqb]) 66 #[.bool false,.int .i64 0,.bool false,.int .i64 0,.int .i64 0,.int .i64 0,.int .i64 0])
 go_enter Tryz.func10,Tryz.ntmps10
 go_upto_region 1 with (fail)
 clear hW0 hqb
 go_wp2_with fail
 refine (HRE.out _ (HF0.out.getO 0 rfl)).mono ?_
 rintro e w1 ⟨rfl,hw⟩
 rw [hw]
 clear hw w1
 go_wp2_with (refine wpLoadFG rfl 62 _ rfl qb 0 rfl _ _ (HF0.out.get 0 rfl) #[.int .i64 ax,.int .i64 ay,.int .i64 bx,.int .i64 byy] rfl _ und_62 rfl info_62 ?_)
 refine (HCR.out _).mono ?_
 rintro e w2 ⟨rfl,hw⟩
 have HF3:=Lib.hid (HF0.out.below hw)
 clear hw
 go_upto_region 13 with (first
   | (refine wpLoadF rfl 62 _ rfl qb 0 rfl _ _ (HF3.out.get 0 rfl) #[.int .i64 ax,.int .i64 ay,.int .i64 bx,.int .i64 byy] rfl _ und_62 rfl info_62 ?_)
   | (refine wpStoreF rfl rfl 62 _ _ rfl U 7 rfl #[.int .i64 ax,.int .i64 ay,.int .i64 bx,.int .i64 byy] rfl _ _ #[.string nm,.slice (some ⟨g',0,none⟩) n c',.int .i64 0,.int .i64 0,.bool true,.bool false,.bool kn,.int .i64 ax,.int .i64 ay,.int .i64 bx,.int .i64 byy,.int .i64 d] (HF3.out.getO 0 rfl) rfl (by show 7+4≤12;omega) (one_all rfl) info_62 ?_;intro w4 hk ho;have HF5:=Lib.hid (HF3.out.onlyO 0 rfl ho hk);clear ho hk)
   | (refine wpStoreCell rfl rfl 4 _ _ rfl U 6 rfl (.bool true) rfl _ _ (HF5.out.getO 0 rfl) (by show 6<12;omega) rfl (by kernel_rfl) ?_;intro w6 hk ho;have HF7:=Lib.hid (HF5.out.onlyO 0 rfl ho hk);clear ho hk;have c8:w6.cell? ⟨U,6,none⟩=some (.bool true):=(HF7.out.getO 0 rfl).cell 6))
 clear c8
 refine wp_region_fr [Kind.p,Kind.p,Kind.p,Kind.p,Kind.p,Kind.p,Kind.p,Kind.p,Kind.p,Kind.p,Kind.p] [] [] w (fun _=>_) (fun _=>_)
    (fun ix u d=>match ix with
     | 0=>u=.pointer (some ⟨U,0,none⟩)
     | 1=>u=.pointer (some ⟨U,0,none⟩)
     | 2=>u=.pointer (some ⟨U,0,none⟩)
     | 3=>u=.pointer (some ⟨U,0,none⟩)
     | 4=>u=.agg #[.string nm,.slice (some ⟨g',0,none⟩) n c']
     | 5=>u=.pointer (some ⟨U,0,none⟩)
     | 6=>u=.pointer (some ⟨U,0,none⟩)
     | 7=>u=.pointer (some ⟨U,7,none⟩)
     | 8=>u=.agg #[.int .i64 ax,.int .i64 ay,.int .i64 bx,.int .i64 byy]
     | 9=>∃ k:Int,u=.int .i64 k∧(k=1 ∨ k=0 ∨ (k=-1∧SEP))
     | 10=>u=d 9
     | _=>True)
    (by kernel_rfl) (by kernel_rfl) (by kernel_rfl) [] rfl (by decide) (by kernel_rfl) (by kernel_rfl) HF7.out ?_ ?_
 ·refine ⟨?_,?_,?_,?_,?_,?_,?_,?_,?_,?_,?_,trivial⟩
  all_goals intro a w1 vs dn k K S hpre KE DE kk
  ·have e0:=KE 0 (by decide)
   go_simp;exact kk _ _ (by simp) bR rfl
  ·have e64:=dep (DE 0 _ 64 rfl rfl rfl)
   go_simp;exact kk _ _ (by simp) bR rfl
  ·have e65:=dep (DE 1 _ 65 rfl rfl rfl)
   go_simp;exact kk _ _ (by simp) bR rfl
  ·have e66:=dep (DE 2 _ 66 rfl rfl rfl)
   go_simp;exact kk _ _ (by simp) bR rfl
  ·have e67:=dep (DE 3 _ 67 rfl rfl rfl)
   exact wpo_loadF 27 (.tmp 67) rfl U 0 (by simpa [Act.eval] using e67) _ _ (S.fr.getO 0 rfl) #[.string nm,.slice (some ⟨g',0,none⟩) n c'] rfl _ und_27 rfl info_27 (kk _ _ (by simp) bR rfl)
  ·have e0:=KE 0 (by decide)
   go_simp;exact kk _ _ (by simp) bR rfl
  ·have e69:=dep (DE 5 _ 69 rfl rfl rfl)
   go_simp;exact kk _ _ (by simp) bR rfl
  ·have e70:=dep (DE 6 _ 70 rfl rfl rfl)
   go_simp;exact kk _ _ (by simp) bR rfl
  ·have e71:=dep (DE 7 _ 71 rfl rfl rfl)
   exact wpo_loadF 62 (.tmp 71) rfl U 7 (by simpa [Act.eval] using e71) _ _ (S.fr.getO 0 rfl) #[.int .i64 ax,.int .i64 ay,.int .i64 bx,.int .i64 byy] rfl _ und_62 rfl info_62 (kk _ _ (by simp) bR rfl)
  ·have e68:=dep (DE 4 _ 68 rfl rfl rfl)
   have e72:=dep (DE 8 _ 72 rfl rfl rfl)
   have e68:=dep (DE 4 _ 68 rfl rfl rfl)
   have e72:=dep (DE 8 _ 72 rfl rfl rfl)
   exact wpo_call 35 _ _ rfl #[.agg #[.string nm,.slice (some ⟨g',0,none⟩) n c'],.agg #[.int .i64 ax,.int .i64 ay,.int .i64 bx,.int .i64 byy]] (by simp [Act.eval,e68,e72]) (fun args w=>by kernel_rfl)
    ((HSI.out (by rfl) S.fr).mono fun e w' ⟨⟨k,he,hk⟩,hb⟩=>⟨_,he,kk _ _ (by simp) hb ⟨k,rfl,hk⟩⟩)
  ·have e73:=(DE 9 _ 73 rfl rfl rfl).1
   go_simp;exact kk _ _ (by simp) bR rfl
 ·intro vs wf HFr HR
  have HFr':Fr w [(U,107,#[.string nm,.slice (some ⟨g',0,none⟩) n c',.int .i64 0,.int .i64 0,.bool true,.bool false,.bool true,.int .i64 ax,.int .i64 ay,.int .i64 bx,.int .i64 byy,.int .i64 d])] [(qb,62,iC [ax,ay,bx,byy]),(qb+1,66,#[.bool false,.int .i64 0,.bool false,.int .i64 0,.int .i64 0,.int .i64 0,.int .i64 0])] wf:=HFr
  obtain ⟨k,hk9,hk⟩:=HR 9 _ rfl
  have v10:vs 10=.int .i64 k:=(HR 10 _ rfl).trans hk9
  clear hk9
  have HK:=Lib.hid hk
  clear hk
  clear HFr HR
  have HF9:=Lib.hid HFr'
  clear HFr'
  simp only [putAll,Act.put,List.setIfInBounds_toArray,List.set_cons_zero,List.set_cons_succ]
  simp only [v10]
  clear v10
  obtain ⟨w9,rfl⟩:∃ u:World,u=wf:=⟨_,rfl⟩
  rcases HK.out with rfl | rfl | ⟨rfl,hsep⟩
  ·
   clear HK
   go_upto_region 23 with (first
     | (refine wpStoreCell rfl rfl 3 _ _ rfl U 11 rfl (.int .i64 0) rfl _ _ (HF9.out.getO 0 rfl) (by show 11<12;omega) rfl (by kernel_rfl) ?_;intro w10 hk ho;have HF11:=Lib.hid (HF9.out.onlyO 0 rfl ho hk);clear ho hk)
     | (refine wpStoreCell rfl rfl 4 _ _ rfl U 5 rfl (.bool false) rfl _ _ (HF11.out.getO 0 rfl) (by show 5<12;omega) rfl (by kernel_rfl) ?_;intro w12 hk ho;have HF13:=Lib.hid (HF11.out.onlyO 0 rfl ho hk);clear ho hk))
   refine wp_region_fr [Kind.p,Kind.p,Kind.p,Kind.p,Kind.p,Kind.p,Kind.p,Kind.p,Kind.p,Kind.p,Kind.p,Kind.p,Kind.p,Kind.p,Kind.c 0,Kind.p] [14] [] w (fun _=>_) (fun k=>[(qb,62,iC [ax,ay,bx,byy]),(qb+1,66,(if k≤0 then #[.bool false,.int .i64 0,.bool false,.int .i64 0,.int .i64 0,.int .i64 0,.int .i64 0] else #[.bool false,.int .i64 0,.bool true,.int .i64 ax,.int .i64 ay,.int .i64 bx,.int .i64 byy]))])
      (fun ix u _=>match ix with
       | 0=>u=.pointer (some ⟨U,0,none⟩)
       | 1=>u=.pointer (some ⟨U,0,none⟩)
       | 2=>u=.pointer (some ⟨U,5,none⟩)
       | 3=>u=.bool false
       | 4=>u=.int .i64 0
       | 5=>u=.pointer (some ⟨U,0,none⟩)
       | 6=>u=.pointer (some ⟨U,0,none⟩)
       | 7=>u=.pointer (some ⟨U,6,none⟩)
       | 8=>u=.bool true
       | 9=>u=.pointer (some ⟨U,0,none⟩)
       | 10=>u=.pointer (some ⟨U,0,none⟩)
       | 11=>u=.pointer (some ⟨U,7,none⟩)
       | 12=>u=.agg #[.int .i64 ax,.int .i64 ay,.int .i64 bx,.int .i64 byy]
       | 13=>u=.agg #[.bool false,.int .i64 0,.bool true,.int .i64 ax,.int .i64 ay,.int .i64 bx,.int .i64 byy]
       | 15=>u=.int .i64 0
       | _=>True)
      (by kernel_rfl) (by kernel_rfl) (by kernel_rfl) [] rfl (by decide) (by kernel_rfl) (by kernel_rfl) HF13.out ?_ ?_
   ·refine ⟨?_,?_,?_,?_,?_,?_,?_,?_,?_,?_,?_,?_,?_,?_,?_,?_,trivial⟩
    all_goals intro a w1 vs dn k K S hpre KE DE kk
    ·have e0:=KE 0 (by decide)
     go_simp;exact kk _ _ (by simp) bR rfl
    ·have e104:=dep (DE 0 _ 104 rfl rfl rfl)
     go_simp;exact kk _ _ (by simp) bR rfl
    ·have e105:=dep (DE 1 _ 105 rfl rfl rfl)
     go_simp;exact kk _ _ (by simp) bR rfl
    ·have e106:=dep (DE 2 _ 106 rfl rfl rfl)
     have ca:w1.cell? ⟨U,5,none⟩=some (.bool false):=(S.fr.getO 0 rfl).cell 5
     go_simp;exact kk _ _ (by simp) bR rfl
    ·have e11:=KE 11 (by decide)
     go_simp;exact kk _ _ (by simp) bR rfl
    ·have e0:=KE 0 (by decide)
     go_simp;exact kk _ _ (by simp) bR rfl
    ·have e109:=dep (DE 5 _ 109 rfl rfl rfl)
     go_simp;exact kk _ _ (by simp) bR rfl
    ·have e110:=dep (DE 6 _ 110 rfl rfl rfl)
     go_simp;exact kk _ _ (by simp) bR rfl
    ·have e111:=dep (DE 7 _ 111 rfl rfl rfl)
     have ca:w1.cell? ⟨U,6,none⟩=some (.bool true):=(S.fr.getO 0 rfl).cell 6
     go_simp;exact kk _ _ (by simp) bR rfl
    ·have e0:=KE 0 (by decide)
     go_simp;exact kk _ _ (by simp) bR rfl
    ·have e113:=dep (DE 9 _ 113 rfl rfl rfl)
     go_simp;exact kk _ _ (by simp) bR rfl
    ·have e114:=dep (DE 10 _ 114 rfl rfl rfl)
     go_simp;exact kk _ _ (by simp) bR rfl
    ·have e115:=dep (DE 11 _ 115 rfl rfl rfl)
     exact wpo_loadF 62 (.tmp 115) rfl U 7 (by simpa [Act.eval] using e115) _ _ (S.fr.getO 0 rfl) #[.int .i64 ax,.int .i64 ay,.int .i64 bx,.int .i64 byy] rfl _ und_62 rfl info_62 (kk _ _ (by simp) bR rfl)
    ·have e107:=dep (DE 3 _ 107 rfl rfl rfl)
     have e108:=dep (DE 4 _ 108 rfl rfl rfl)
     have e112:=dep (DE 8 _ 112 rfl rfl rfl)
     have e116:=dep (DE 12 _ 116 rfl rfl rfl)
     go_simp;exact kk _ _ (by simp) bR rfl
    ·subst hpre
     have e6:=KE 6 (by decide)
     have e117:=dep (DE 13 _ 117 rfl rfl rfl)
     exact wpo_storeF 66 (.tmp 6) (.tmp 117) rfl rfl (qb+1) 0 (by simpa [Act.eval] using e6) #[.bool false,.int .i64 0,.bool true,.int .i64 ax,.int .i64 ay,.int .i64 bx,.int .i64 byy] (by simpa [Act.eval] using e117) _ _ #[.bool false,.int .i64 0,.bool true,.int .i64 ax,.int .i64 ay,.int .i64 bx,.int .i64 byy] (by have:=S.fr.left.get 1 rfl;rw [if_pos (S.hi 0 14 rfl rfl)] at this;exact this) rfl (by show 0+7≤7;omega) (one_all rfl) info_66 fun w' hk ho=>kk _ _ (by simp) (Fr.stage (S.fr.only 1 rfl ho hk) (by exact trivial)) trivial
    ·go_simp;exact kk _ _ (by simp) bR rfl
   ·intro vs wf HFr HR
    have HFr':Fr w [(U,107,#[.string nm,.slice (some ⟨g',0,none⟩) n c',.int .i64 0,.int .i64 0,.bool true,.bool false,.bool true,.int .i64 ax,.int .i64 ay,.int .i64 bx,.int .i64 byy,.int .i64 0])] [(qb,62,iC [ax,ay,bx,byy]),(qb+1,66,#[.bool false,.int .i64 0,.bool true,.int .i64 ax,.int .i64 ay,.int .i64 bx,.int .i64 byy])] wf:=HFr
    have v15:vs 15=.int .i64 0:=HR 15 _ rfl
    clear HFr HR
    have HF14:=Lib.hid HFr'
    clear HFr'
    simp only [putAll,Act.put,List.setIfInBounds_toArray,List.set_cons_zero,List.set_cons_succ]
    simp only [v15]
    clear v15
    obtain ⟨w14,rfl⟩:∃ u:World,u=wf:=⟨_,rfl⟩
    go_wp2_with fail
    try rw [Exit.noGoto_ret]
    refine ret_agg2 rfl rfl rfl (HF14.out.get 1 rfl) rfl und_66 rfl info_66 ?_
    exact HFIN.out _ 0 (0) (.inl rfl) HF14.out.drop
  ·
   clear HK
   obtain ⟨d2,hd2⟩:∃ z,wrap64 (d+1)=z:=⟨_,rfl⟩
   have hd3:IntKind.i64.wrap (d+1)=d2:=by rw [← hd2];exact IntWalk.i64_left _
   have c10:w9.cell? ⟨U,11,none⟩=some (.int .i64 d):=(HF9.out.getO 0 rfl).cell 11
   go_upto_region 20 with (refine wpStoreCell rfl rfl 3 _ _ rfl U 11 rfl (.int .i64 d2) rfl _ _ (HF9.out.getO 0 rfl) (by show 11<12;omega) rfl (by kernel_rfl) ?_;intro w11 hk ho;clear c10;have HF12:=Lib.hid (HF9.out.onlyO 0 rfl ho hk);clear ho hk)
   clear hd2 hd3
   refine wp_region_fr [Kind.p,Kind.p,Kind.p,Kind.p,Kind.p,Kind.p,Kind.p,Kind.p,Kind.p,Kind.p] [] [] w (fun _=>_) (fun _=>_)
      (fun ix u _=>match ix with
       | 0=>u=.pointer (some ⟨U,0,none⟩)
       | 1=>u=.pointer (some ⟨U,0,none⟩)
       | 2=>u=.pointer (some ⟨U,11,none⟩)
       | 3=>u=.int .i64 d2
       | 4=>u=.pointer (some ⟨U,0,none⟩)
       | 5=>u=.pointer (some ⟨U,0,none⟩)
       | 6=>u=.pointer (some ⟨U,0,none⟩)
       | 7=>u=.pointer (some ⟨U,3,none⟩)
       | 8=>u=.int .i64 0
       | 9=>u=.bool (decide (0<d2))
       | _=>True)
      (by kernel_rfl) (by kernel_rfl) (by kernel_rfl) [] rfl (by decide) (by kernel_rfl) (by kernel_rfl) HF12.out ?_ ?_
   ·refine ⟨?_,?_,?_,?_,?_,?_,?_,?_,?_,?_,trivial⟩
    all_goals intro a w1 vs dn k K S hpre KE DE kk
    ·have e0:=KE 0 (by decide)
     go_simp;exact kk _ _ (by simp) bR rfl
    ·have e89:=dep (DE 0 _ 89 rfl rfl rfl)
     go_simp;exact kk _ _ (by simp) bR rfl
    ·have e90:=dep (DE 1 _ 90 rfl rfl rfl)
     go_simp;exact kk _ _ (by simp) bR rfl
    ·have e91:=dep (DE 2 _ 91 rfl rfl rfl)
     have ca:w1.cell? ⟨U,11,none⟩=some (.int .i64 d2):=(S.fr.getO 0 rfl).cell 11
     go_simp;exact kk _ _ (by simp) bR rfl
    ·have e0:=KE 0 (by decide)
     go_simp;exact kk _ _ (by simp) bR rfl
    ·have e93:=dep (DE 4 _ 93 rfl rfl rfl)
     go_simp;exact kk _ _ (by simp) bR rfl
    ·have e94:=dep (DE 5 _ 94 rfl rfl rfl)
     go_simp;exact kk _ _ (by simp) bR rfl
    ·have e95:=dep (DE 6 _ 95 rfl rfl rfl)
     go_simp;exact kk _ _ (by simp) bR rfl
    ·have e96:=dep (DE 7 _ 96 rfl rfl rfl)
     have ca:w1.cell? ⟨U,3,none⟩=some (.int .i64 0):=(S.fr.getO 0 rfl).cell 3
     go_simp;exact kk _ _ (by simp) bR rfl
    ·have e92:=dep (DE 3 _ 92 rfl rfl rfl)
     have e97:=dep (DE 8 _ 97 rfl rfl rfl)
     go_simp;exact kk _ _ (by simp) bR rfl
   ·intro vs wf HFr HR
    have HFr':Fr w [(U,107,#[.string nm,.slice (some ⟨g',0,none⟩) n c',.int .i64 0,.int .i64 0,.bool true,.bool false,.bool true,.int .i64 ax,.int .i64 ay,.int .i64 bx,.int .i64 byy,.int .i64 d2])] [(qb,62,iC [ax,ay,bx,byy]),(qb+1,66,#[.bool false,.int .i64 0,.bool false,.int .i64 0,.int .i64 0,.int .i64 0,.int .i64 0])] wf:=HFr
    have v9:vs 9=.bool (decide (0<d2)):=HR 9 _ rfl
    clear HFr HR
    have HF13:=Lib.hid HFr'
    clear HFr'
    simp only [putAll,Act.put,List.setIfInBounds_toArray,List.set_cons_zero,List.set_cons_succ]
    simp only [v9]
    clear v9
    obtain ⟨w13,rfl⟩:∃ u:World,u=wf:=⟨_,rfl⟩
    by_cases h2:0<d2
    ·
     go_upto_region 23 with (refine wpStoreCell rfl rfl 4 _ _ rfl U 5 rfl (.bool true) rfl _ _ (HF13.out.getO 0 rfl) (by show 5<12;omega) rfl (by kernel_rfl) ?_;intro w14 hk ho;have HF15:=Lib.hid (HF13.out.onlyO 0 rfl ho hk);clear ho hk)
     refine wp_region_fr [Kind.p,Kind.p,Kind.p,Kind.p,Kind.p,Kind.p,Kind.p,Kind.p,Kind.p,Kind.p,Kind.p,Kind.p,Kind.p,Kind.p,Kind.c 0,Kind.p] [14] [] w (fun _=>_) (fun k=>[(qb,62,iC [ax,ay,bx,byy]),(qb+1,66,(if k≤0 then #[.bool false,.int .i64 0,.bool false,.int .i64 0,.int .i64 0,.int .i64 0,.int .i64 0] else #[.bool true,.int .i64 2,.bool true,.int .i64 ax,.int .i64 ay,.int .i64 bx,.int .i64 byy]))])
        (fun ix u _=>match ix with
         | 0=>u=.pointer (some ⟨U,0,none⟩)
         | 1=>u=.pointer (some ⟨U,0,none⟩)
         | 2=>u=.pointer (some ⟨U,5,none⟩)
         | 3=>u=.bool true
         | 4=>u=.int .i64 2
         | 5=>u=.pointer (some ⟨U,0,none⟩)
         | 6=>u=.pointer (some ⟨U,0,none⟩)
         | 7=>u=.pointer (some ⟨U,6,none⟩)
         | 8=>u=.bool true
         | 9=>u=.pointer (some ⟨U,0,none⟩)
         | 10=>u=.pointer (some ⟨U,0,none⟩)
         | 11=>u=.pointer (some ⟨U,7,none⟩)
         | 12=>u=.agg #[.int .i64 ax,.int .i64 ay,.int .i64 bx,.int .i64 byy]
         | 13=>u=.agg #[.bool true,.int .i64 2,.bool true,.int .i64 ax,.int .i64 ay,.int .i64 bx,.int .i64 byy]
         | 15=>u=.int .i64 0
         | _=>True)
        (by kernel_rfl) (by kernel_rfl) (by kernel_rfl) [] rfl (by decide) (by kernel_rfl) (by kernel_rfl) HF15.out ?_ ?_
     ·refine ⟨?_,?_,?_,?_,?_,?_,?_,?_,?_,?_,?_,?_,?_,?_,?_,?_,trivial⟩
      all_goals intro a w1 vs dn k K S hpre KE DE kk
      ·have e0:=KE 0 (by decide)
       go_simp;exact kk _ _ (by simp) bR rfl
      ·have e104:=dep (DE 0 _ 104 rfl rfl rfl)
       go_simp;exact kk _ _ (by simp) bR rfl
      ·have e105:=dep (DE 1 _ 105 rfl rfl rfl)
       go_simp;exact kk _ _ (by simp) bR rfl
      ·have e106:=dep (DE 2 _ 106 rfl rfl rfl)
       have ca:w1.cell? ⟨U,5,none⟩=some (.bool true):=(S.fr.getO 0 rfl).cell 5
       go_simp;exact kk _ _ (by simp) bR rfl
      ·have e11:=KE 11 (by decide)
       go_simp;exact kk _ _ (by simp) bR rfl
      ·have e0:=KE 0 (by decide)
       go_simp;exact kk _ _ (by simp) bR rfl
      ·have e109:=dep (DE 5 _ 109 rfl rfl rfl)
       go_simp;exact kk _ _ (by simp) bR rfl
      ·have e110:=dep (DE 6 _ 110 rfl rfl rfl)
       go_simp;exact kk _ _ (by simp) bR rfl
      ·have e111:=dep (DE 7 _ 111 rfl rfl rfl)
       have ca:w1.cell? ⟨U,6,none⟩=some (.bool true):=(S.fr.getO 0 rfl).cell 6
       go_simp;exact kk _ _ (by simp) bR rfl
      ·have e0:=KE 0 (by decide)
       go_simp;exact kk _ _ (by simp) bR rfl
      ·have e113:=dep (DE 9 _ 113 rfl rfl rfl)
       go_simp;exact kk _ _ (by simp) bR rfl
      ·have e114:=dep (DE 10 _ 114 rfl rfl rfl)
       go_simp;exact kk _ _ (by simp) bR rfl
      ·have e115:=dep (DE 11 _ 115 rfl rfl rfl)
       exact wpo_loadF 62 (.tmp 115) rfl U 7 (by simpa [Act.eval] using e115) _ _ (S.fr.getO 0 rfl) #[.int .i64 ax,.int .i64 ay,.int .i64 bx,.int .i64 byy] rfl _ und_62 rfl info_62 (kk _ _ (by simp) bR rfl)
      ·have e107:=dep (DE 3 _ 107 rfl rfl rfl)
       have e108:=dep (DE 4 _ 108 rfl rfl rfl)
       have e112:=dep (DE 8 _ 112 rfl rfl rfl)
       have e116:=dep (DE 12 _ 116 rfl rfl rfl)
       go_simp;exact kk _ _ (by simp) bR rfl
      ·subst hpre
       have e6:=KE 6 (by decide)
       have e117:=dep (DE 13 _ 117 rfl rfl rfl)
       exact wpo_storeF 66 (.tmp 6) (.tmp 117) rfl rfl (qb+1) 0 (by simpa [Act.eval] using e6) #[.bool true,.int .i64 2,.bool true,.int .i64 ax,.int .i64 ay,.int .i64 bx,.int .i64 byy] (by simpa [Act.eval] using e117) _ _ #[.bool true,.int .i64 2,.bool true,.int .i64 ax,.int .i64 ay,.int .i64 bx,.int .i64 byy] (by have:=S.fr.left.get 1 rfl;rw [if_pos (S.hi 0 14 rfl rfl)] at this;exact this) rfl (by show 0+7≤7;omega) (one_all rfl) info_66 fun w' hk ho=>kk _ _ (by simp) (Fr.stage (S.fr.only 1 rfl ho hk) (by exact trivial)) trivial
      ·go_simp;exact kk _ _ (by simp) bR rfl
     ·intro vs wf HFr HR
      have HFr':Fr w [(U,107,#[.string nm,.slice (some ⟨g',0,none⟩) n c',.int .i64 0,.int .i64 0,.bool true,.bool true,.bool true,.int .i64 ax,.int .i64 ay,.int .i64 bx,.int .i64 byy,.int .i64 d2])] [(qb,62,iC [ax,ay,bx,byy]),(qb+1,66,#[.bool true,.int .i64 2,.bool true,.int .i64 ax,.int .i64 ay,.int .i64 bx,.int .i64 byy])] wf:=HFr
      have v15:vs 15=.int .i64 0:=HR 15 _ rfl
      clear HFr HR
      have HF16:=Lib.hid HFr'
      clear HFr'
      simp only [putAll,Act.put,List.setIfInBounds_toArray,List.set_cons_zero,List.set_cons_succ]
      simp only [v15]
      clear v15
      obtain ⟨w16,rfl⟩:∃ u:World,u=wf:=⟨_,rfl⟩
      go_wp2_with fail
      try rw [Exit.noGoto_ret]
      refine ret_agg2 rfl rfl rfl (HF16.out.get 1 rfl) rfl und_66 rfl info_66 ?_
      exact HFIN.out _ 2 (d2) (.inr (.inl rfl)) HF16.out.drop
    ·
     go_upto_region 23 with (refine wpStoreCell rfl rfl 4 _ _ rfl U 5 rfl (.bool false) rfl _ _ (HF13.out.getO 0 rfl) (by show 5<12;omega) rfl (by kernel_rfl) ?_;intro w14 hk ho;have HF15:=Lib.hid (HF13.out.onlyO 0 rfl ho hk);clear ho hk)
     refine wp_region_fr [Kind.p,Kind.p,Kind.p,Kind.p,Kind.p,Kind.p,Kind.p,Kind.p,Kind.p,Kind.p,Kind.p,Kind.p,Kind.p,Kind.p,Kind.c 0,Kind.p] [14] [] w (fun _=>_) (fun k=>[(qb,62,iC [ax,ay,bx,byy]),(qb+1,66,(if k≤0 then #[.bool false,.int .i64 0,.bool false,.int .i64 0,.int .i64 0,.int .i64 0,.int .i64 0] else #[.bool false,.int .i64 0,.bool true,.int .i64 ax,.int .i64 ay,.int .i64 bx,.int .i64 byy]))])
        (fun ix u _=>match ix with
         | 0=>u=.pointer (some ⟨U,0,none⟩)
         | 1=>u=.pointer (some ⟨U,0,none⟩)
         | 2=>u=.pointer (some ⟨U,5,none⟩)
         | 3=>u=.bool false
         | 4=>u=.int .i64 0
         | 5=>u=.pointer (some ⟨U,0,none⟩)
         | 6=>u=.pointer (some ⟨U,0,none⟩)
         | 7=>u=.pointer (some ⟨U,6,none⟩)
         | 8=>u=.bool true
         | 9=>u=.pointer (some ⟨U,0,none⟩)
         | 10=>u=.pointer (some ⟨U,0,none⟩)
         | 11=>u=.pointer (some ⟨U,7,none⟩)
         | 12=>u=.agg #[.int .i64 ax,.int .i64 ay,.int .i64 bx,.int .i64 byy]
         | 13=>u=.agg #[.bool false,.int .i64 0,.bool true,.int .i64 ax,.int .i64 ay,.int .i64 bx,.int .i64 byy]
         | 15=>u=.int .i64 0
         | _=>True)
        (by kernel_rfl) (by kernel_rfl) (by kernel_rfl) [] rfl (by decide) (by kernel_rfl) (by kernel_rfl) HF15.out ?_ ?_
     ·refine ⟨?_,?_,?_,?_,?_,?_,?_,?_,?_,?_,?_,?_,?_,?_,?_,?_,trivial⟩
      all_goals intro a w1 vs dn k K S hpre KE DE kk
      ·have e0:=KE 0 (by decide)
       go_simp;exact kk _ _ (by simp) bR rfl
      ·have e104:=dep (DE 0 _ 104 rfl rfl rfl)
       go_simp;exact kk _ _ (by simp) bR rfl
      ·have e105:=dep (DE 1 _ 105 rfl rfl rfl)
       go_simp;exact kk _ _ (by simp) bR rfl
      ·have e106:=dep (DE 2 _ 106 rfl rfl rfl)
       have ca:w1.cell? ⟨U,5,none⟩=some (.bool false):=(S.fr.getO 0 rfl).cell 5
       go_simp;exact kk _ _ (by simp) bR rfl
      ·have e11:=KE 11 (by decide)
       go_simp;exact kk _ _ (by simp) bR rfl
      ·have e0:=KE 0 (by decide)
       go_simp;exact kk _ _ (by simp) bR rfl
      ·have e109:=dep (DE 5 _ 109 rfl rfl rfl)
       go_simp;exact kk _ _ (by simp) bR rfl
      ·have e110:=dep (DE 6 _ 110 rfl rfl rfl)
       go_simp;exact kk _ _ (by simp) bR rfl
      ·have e111:=dep (DE 7 _ 111 rfl rfl rfl)
       have ca:w1.cell? ⟨U,6,none⟩=some (.bool true):=(S.fr.getO 0 rfl).cell 6
       go_simp;exact kk _ _ (by simp) bR rfl
      ·have e0:=KE 0 (by decide)
       go_simp;exact kk _ _ (by simp) bR rfl
      ·have e113:=dep (DE 9 _ 113 rfl rfl rfl)
       go_simp;exact kk _ _ (by simp) bR rfl
      ·have e114:=dep (DE 10 _ 114 rfl rfl rfl)
       go_simp;exact kk _ _ (by simp) bR rfl
      ·have e115:=dep (DE 11 _ 115 rfl rfl rfl)
       exact wpo_loadF 62 (.tmp 115) rfl U 7 (by simpa [Act.eval] using e115) _ _ (S.fr.getO 0 rfl) #[.int .i64 ax,.int .i64 ay,.int .i64 bx,.int .i64 byy] rfl _ und_62 rfl info_62 (kk _ _ (by simp) bR rfl)
      ·have e107:=dep (DE 3 _ 107 rfl rfl rfl)
       have e108:=dep (DE 4 _ 108 rfl rfl rfl)
       have e112:=dep (DE 8 _ 112 rfl rfl rfl)
       have e116:=dep (DE 12 _ 116 rfl rfl rfl)
       go_simp;exact kk _ _ (by simp) bR rfl
      ·subst hpre
       have e6:=KE 6 (by decide)
       have e117:=dep (DE 13 _ 117 rfl rfl rfl)
       exact wpo_storeF 66 (.tmp 6) (.tmp 117) rfl rfl (qb+1) 0 (by simpa [Act.eval] using e6) #[.bool false,.int .i64 0,.bool true,.int .i64 ax,.int .i64 ay,.int .i64 bx,.int .i64 byy] (by simpa [Act.eval] using e117) _ _ #[.bool false,.int .i64 0,.bool true,.int .i64 ax,.int .i64 ay,.int .i64 bx,.int .i64 byy] (by have:=S.fr.left.get 1 rfl;rw [if_pos (S.hi 0 14 rfl rfl)] at this;exact this) rfl (by show 0+7≤7;omega) (one_all rfl) info_66 fun w' hk ho=>kk _ _ (by simp) (Fr.stage (S.fr.only 1 rfl ho hk) (by exact trivial)) trivial
      ·go_simp;exact kk _ _ (by simp) bR rfl
     ·intro vs wf HFr HR
      have HFr':Fr w [(U,107,#[.string nm,.slice (some ⟨g',0,none⟩) n c',.int .i64 0,.int .i64 0,.bool true,.bool false,.bool true,.int .i64 ax,.int .i64 ay,.int .i64 bx,.int .i64 byy,.int .i64 d2])] [(qb,62,iC [ax,ay,bx,byy]),(qb+1,66,#[.bool false,.int .i64 0,.bool true,.int .i64 ax,.int .i64 ay,.int .i64 bx,.int .i64 byy])] wf:=HFr
      have v15:vs 15=.int .i64 0:=HR 15 _ rfl
      clear HFr HR
      have HF16:=Lib.hid HFr'
      clear HFr'
      simp only [putAll,Act.put,List.setIfInBounds_toArray,List.set_cons_zero,List.set_cons_succ]
      simp only [v15]
      clear v15
      obtain ⟨w16,rfl⟩:∃ u:World,u=wf:=⟨_,rfl⟩
      go_wp2_with fail
      try rw [Exit.noGoto_ret]
      refine ret_agg2 rfl rfl rfl (HF16.out.get 1 rfl) rfl und_66 rfl info_66 ?_
      exact HFIN.out _ 0 (d2) (.inl rfl) HF16.out.drop
  ·
   have HSEP:=Lib.hid hsep
   clear HK hsep
   go_upto_region 23 with (refine wpStoreCell rfl rfl 4 _ _ rfl U 5 rfl (.bool true) rfl _ _ (HF9.out.getO 0 rfl) (by show 5<12;omega) rfl (by kernel_rfl) ?_;intro w10 hk ho;have HF11:=Lib.hid (HF9.out.onlyO 0 rfl ho hk);clear ho hk)
   refine wp_region_fr [Kind.p,Kind.p,Kind.p,Kind.p,Kind.p,Kind.p,Kind.p,Kind.p,Kind.p,Kind.p,Kind.p,Kind.p,Kind.p,Kind.p,Kind.c 0,Kind.p] [14] [] w (fun _=>_) (fun k=>[(qb,62,iC [ax,ay,bx,byy]),(qb+1,66,(if k≤0 then #[.bool false,.int .i64 0,.bool false,.int .i64 0,.int .i64 0,.int .i64 0,.int .i64 0] else #[.bool true,.int .i64 1,.bool true,.int .i64 ax,.int .i64 ay,.int .i64 bx,.int .i64 byy]))])
      (fun ix u _=>match ix with
       | 0=>u=.pointer (some ⟨U,0,none⟩)
       | 1=>u=.pointer (some ⟨U,0,none⟩)
       | 2=>u=.pointer (some ⟨U,5,none⟩)
       | 3=>u=.bool true
       | 4=>u=.int .i64 1
       | 5=>u=.pointer (some ⟨U,0,none⟩)
       | 6=>u=.pointer (some ⟨U,0,none⟩)
       | 7=>u=.pointer (some ⟨U,6,none⟩)
       | 8=>u=.bool true
       | 9=>u=.pointer (some ⟨U,0,none⟩)
       | 10=>u=.pointer (some ⟨U,0,none⟩)
       | 11=>u=.pointer (some ⟨U,7,none⟩)
       | 12=>u=.agg #[.int .i64 ax,.int .i64 ay,.int .i64 bx,.int .i64 byy]
       | 13=>u=.agg #[.bool true,.int .i64 1,.bool true,.int .i64 ax,.int .i64 ay,.int .i64 bx,.int .i64 byy]
       | 15=>u=.int .i64 0
       | _=>True)
      (by kernel_rfl) (by kernel_rfl) (by kernel_rfl) [] rfl (by decide) (by kernel_rfl) (by kernel_rfl) HF11.out ?_ ?_
   ·refine ⟨?_,?_,?_,?_,?_,?_,?_,?_,?_,?_,?_,?_,?_,?_,?_,?_,trivial⟩
    all_goals intro a w1 vs dn k K S hpre KE DE kk
    ·have e0:=KE 0 (by decide)
     go_simp;exact kk _ _ (by simp) bR rfl
    ·have e104:=dep (DE 0 _ 104 rfl rfl rfl)
     go_simp;exact kk _ _ (by simp) bR rfl
    ·have e105:=dep (DE 1 _ 105 rfl rfl rfl)
     go_simp;exact kk _ _ (by simp) bR rfl
    ·have e106:=dep (DE 2 _ 106 rfl rfl rfl)
     have ca:w1.cell? ⟨U,5,none⟩=some (.bool true):=(S.fr.getO 0 rfl).cell 5
     go_simp;exact kk _ _ (by simp) bR rfl
    ·have e11:=KE 11 (by decide)
     go_simp;exact kk _ _ (by simp) bR rfl
    ·have e0:=KE 0 (by decide)
     go_simp;exact kk _ _ (by simp) bR rfl
    ·have e109:=dep (DE 5 _ 109 rfl rfl rfl)
     go_simp;exact kk _ _ (by simp) bR rfl
    ·have e110:=dep (DE 6 _ 110 rfl rfl rfl)
     go_simp;exact kk _ _ (by simp) bR rfl
    ·have e111:=dep (DE 7 _ 111 rfl rfl rfl)
     have ca:w1.cell? ⟨U,6,none⟩=some (.bool true):=(S.fr.getO 0 rfl).cell 6
     go_simp;exact kk _ _ (by simp) bR rfl
    ·have e0:=KE 0 (by decide)
     go_simp;exact kk _ _ (by simp) bR rfl
    ·have e113:=dep (DE 9 _ 113 rfl rfl rfl)
     go_simp;exact kk _ _ (by simp) bR rfl
    ·have e114:=dep (DE 10 _ 114 rfl rfl rfl)
     go_simp;exact kk _ _ (by simp) bR rfl
    ·have e115:=dep (DE 11 _ 115 rfl rfl rfl)
     exact wpo_loadF 62 (.tmp 115) rfl U 7 (by simpa [Act.eval] using e115) _ _ (S.fr.getO 0 rfl) #[.int .i64 ax,.int .i64 ay,.int .i64 bx,.int .i64 byy] rfl _ und_62 rfl info_62 (kk _ _ (by simp) bR rfl)
    ·have e107:=dep (DE 3 _ 107 rfl rfl rfl)
     have e108:=dep (DE 4 _ 108 rfl rfl rfl)
     have e112:=dep (DE 8 _ 112 rfl rfl rfl)
     have e116:=dep (DE 12 _ 116 rfl rfl rfl)
     go_simp;exact kk _ _ (by simp) bR rfl
    ·subst hpre
     have e6:=KE 6 (by decide)
     have e117:=dep (DE 13 _ 117 rfl rfl rfl)
     exact wpo_storeF 66 (.tmp 6) (.tmp 117) rfl rfl (qb+1) 0 (by simpa [Act.eval] using e6) #[.bool true,.int .i64 1,.bool true,.int .i64 ax,.int .i64 ay,.int .i64 bx,.int .i64 byy] (by simpa [Act.eval] using e117) _ _ #[.bool true,.int .i64 1,.bool true,.int .i64 ax,.int .i64 ay,.int .i64 bx,.int .i64 byy] (by have:=S.fr.left.get 1 rfl;rw [if_pos (S.hi 0 14 rfl rfl)] at this;exact this) rfl (by show 0+7≤7;omega) (one_all rfl) info_66 fun w' hk ho=>kk _ _ (by simp) (Fr.stage (S.fr.only 1 rfl ho hk) (by exact trivial)) trivial
    ·go_simp;exact kk _ _ (by simp) bR rfl
   ·intro vs wf HFr HR
    have HFr':Fr w [(U,107,#[.string nm,.slice (some ⟨g',0,none⟩) n c',.int .i64 0,.int .i64 0,.bool true,.bool true,.bool true,.int .i64 ax,.int .i64 ay,.int .i64 bx,.int .i64 byy,.int .i64 d])] [(qb,62,iC [ax,ay,bx,byy]),(qb+1,66,#[.bool true,.int .i64 1,.bool true,.int .i64 ax,.int .i64 ay,.int .i64 bx,.int .i64 byy])] wf:=HFr
    have v15:vs 15=.int .i64 0:=HR 15 _ rfl
    clear HFr HR
    have HF12:=Lib.hid HFr'
    clear HFr'
    simp only [putAll,Act.put,List.setIfInBounds_toArray,List.set_cons_zero,List.set_cons_succ]
    simp only [v15]
    clear v15
    obtain ⟨w12,rfl⟩:∃ u:World,u=wf:=⟨_,rfl⟩
    go_wp2_with fail
    try rw [Exit.noGoto_ret]
    refine ret_agg2 rfl rfl rfl (HF12.out.get 1 rfl) rfl und_66 rfl info_66 ?_
    exact HFIN.out _ 1 (d) (.inr (.inr ⟨rfl,HSEP.out⟩)) HF12.out.drop
end Go.Proofs.YtmkoegljnebdiaaGreat
