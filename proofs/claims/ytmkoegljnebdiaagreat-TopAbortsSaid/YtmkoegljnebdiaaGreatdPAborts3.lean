/- What is proved: the texts Wb Wc Wd Wi We Wf Wg Wh, one behind the other; each says at its head what it proves, and under which conditions. -/
import Derived.RangeFuncNested
import Derived.RangeFuncBound
import Derived.RangeFuncCalls
import Derived.RangeFuncLeaves
import Derived.RangeFuncFrom
import Derived.Shelf.Abstract
import Derived.Shelf.RegionOpen
import Derived.Sort.QuietIn
import Derived.OwnWalkIn
import Derived.TacticsInMore
import Derived.LoopNIn
import Derived.LoopIn
import Derived.Test.YtmkoegljnebdiaaGreatdPAborts2
namespace Go.Proofs.YtmkoegljnebdiaaGreat
open Go.RowKit
set_option maxRecDepth 100000
set_option maxHeartbeats 16000000

theorem up32_at {n:Bool} {l:Int} (h0:0≤l) (h1:l≤18446744073709551615):∃ h' l':Int,(∀ n',IsBig (.agg #[.bool n',.int .u64 h',.int .u64 l']) (valI n' (l * 4294967296))) ∧
  ∀ w,Calls Tryz.prog 186 #[.agg #[.bool n,.int .u64 0,.int .u64 l],.int .u64 32] w fun e w'=>e=.returned (.agg #[.bool n,.int .u64 h',.int .u64 l'])∧Below w.heap.size w w':=by
 refine ⟨l * 4294967296 / 18446744073709551616,l * 4294967296 % 18446744073709551616,fun n'=>⟨n',l * 4294967296,rfl,by omega,rfl⟩,fun w=>?_⟩
 have H1:=hZ h0;have H2:=hZ h1;clear h0 h1;go_enter Tryz.func186,Tryz.ntmps186;go_wp2_with fail
 refine ret_big rfl rfl rfl (Bk.newAt _ _ _ _ (by simp)) ⟨?_,((Below.refl _ w).alloc (Nat.le_refl _) _).alloc (by simp) _⟩
 have h0:=H1.out;have h1:=H2.out;obtain ⟨k,rfl⟩:=Int.eq_ofNat_of_zero_le h0;have e1:bits .or .u64 0 ((k:Int) / 4294967296)=(k:Int) / 4294967296:=by
  rw [show (k:Int) / 4294967296=((k / 4294967296:Nat):Int) by omega]
  have:=bits_or_u64_nat 0 (k / 4294967296) (by omega) (by omega)
  rw [Nat.zero_or] at this;exact this
 unfold bigV;rw [e1,IntKind.wrap_u64,show (k:Int) * 4294967296 / 18446744073709551616=(k:Int) / 4294967296 by omega]
theorem fq_val {a b:Int} (hb:b ≠ 0):valI (decide (a<0) != decide (b<0)) (sizeI a * 4294967296) / sizeI b=fqB a b∧-(-valI (decide (a<0) != decide (b<0)) (sizeI a * 4294967296) / sizeI b)=cqB a b:=by
 unfold cqB fqB sizeI valI;by_cases ha:a<0
 ·by_cases hb0:b<0
  ·rw [if_pos ha,if_pos hb0,if_neg (show ¬ 0<b by omega),decide_eq_true ha,decide_eq_true hb0,if_neg (by decide),if_neg (show ¬ 0<b by omega)]
   rw [Int.neg_mul,Int.neg_neg];exact ⟨rfl,rfl⟩
  ·rw [if_pos ha,if_neg hb0,if_pos (show 0<b by omega),decide_eq_true ha,decide_eq_false hb0,if_pos (by decide),if_pos (show 0<b by omega)]
   rw [Int.neg_mul,Int.neg_neg];exact ⟨rfl,rfl⟩
 ·by_cases hb0:b<0
  ·rw [if_neg ha,if_pos hb0,if_neg (show ¬ 0<b by omega),decide_eq_false ha,decide_eq_true hb0,if_pos (by decide),if_neg (show ¬ 0<b by omega)]
   rw [Int.neg_mul];exact ⟨rfl,rfl⟩
  ·rw [if_neg ha,if_neg hb0,if_pos (show 0<b by omega),decide_eq_false ha,decide_eq_false hb0,if_neg (by decide),if_pos (show 0<b by omega)]
   rw [Int.neg_mul];exact ⟨rfl,rfl⟩
def RatPost (a b:Int) (w:World) (e:Ending) (w':World):Prop:=∃ t x y t' x' y',e=.returned (.tuple #[.agg #[.bool t,.int .u64 x,.int .u64 y],.agg #[.bool t',.int .u64 x',.int .u64 y']])∧IsBig (.agg #[.bool t,.int .u64 x,.int .u64 y]) (fqB a b)∧IsBig (.agg #[.bool t',.int .u64 x',.int .u64 y']) (cqB a b)∧Below w.heap.size w w'
theorem ratio_any (a b:Int) (ha:I64 a) (hb:I64 b) (hb0:b ≠ 0) (w:World):Calls Tryz.prog 159 #[.int .i64 a,.int .i64 b] w (RatPost a b w):=by
 have H1:=hZ (fun w=>of_any a ha w);have H2:=hZ (fun w=>of_any b hb w);have hsa:0≤sizeI a∧sizeI a≤9223372036854775808:=by unfold I64 at ha;unfold sizeI;split <;> omega
 have hsb:0<sizeI b∧sizeI b≤9223372036854775808:=by unfold I64 at hb;unfold sizeI;split <;> omega
 obtain ⟨v1,v2⟩:=fq_val (a:=a) hb0;obtain ⟨l1,hl1⟩:=eX (sizeI a);obtain ⟨l2,hl2⟩:=eX (sizeI b);obtain ⟨n1,hn1⟩:=eX (decide (a<0));obtain ⟨n2,hn2⟩:=eX (decide (b<0));rw [hl1] at hsa;rw [hl2] at hsb;rw [hl1,hl2,hn1,hn2] at v1 v2;unfold bigV at H1 H2;rw [hn1,hl1] at H1;rw [hn2,hl2] at H2;obtain ⟨hh,ll,hB,hU⟩:=up32_at (n:=n1) (l:=l1) hsa.1 (by omega)
 have HU:=hZ hU;have hD:=fun w=>divide_big (b:=l2) (hB (n1 != n2)) (by unfold S127 valI;split <;> omega) hsb.1 (by omega) w
 rw [v1,v2] at hD;unfold bigV at hD;have HD:=hZ hD;refine pQ fun PQ hPQ=>?_
 have HFIN:Hid (∀ t x y t' x' y' w',IsBig (.agg #[.bool t,.int .u64 x,.int .u64 y]) (fqB a b)→IsBig (.agg #[.bool t',.int .u64 x',.int .u64 y']) (cqB a b)→Fr w [] [] w'→PQ (.returned (.tuple #[.agg #[.bool t,.int .u64 x,.int .u64 y],.agg #[.bool t',.int .u64 x',.int .u64 y']])) w'):=hZ fun t x y t' x' y' w' h1 h2 h=>by
  rw [← hPQ];exact ⟨t,x,y,t',x',y',rfl,h1,h2,h.toBelow⟩
 clear hPQ hU hD v1 v2 hsa hsb hl1 hl2 hn1 hn2 hB ha hb hb0;obtain ⟨qb,W0,hqb,hW0,HF0⟩:=fM (Fr.start w) [(#[.bool false,.int .u64 0,.int .u64 0],217),(#[.bool false,.int .u64 0,.int .u64 0],217)];go_enter Tryz.func159,Tryz.ntmps159;go_upto_region 1 with (fail);clear hW0 hqb;go_wp2_with fail
 refine mB HF0.out (H1.out _) fun w1 HF2=>?_;go_wp2_with fail
 refine mB HF2.out (HU.out _) fun w3 HF4=>?_;go_wp2_with fail
 refine mB HF4.out (H2.out _) fun w5 HF6=>?_;obtain ⟨g7,w7,hg7,hw7,HF8⟩:=fA HF6.out #[.bool false,.int .u64 0,.int .u64 0] 217;obtain ⟨g9,w9,hg9,hw9,HF10⟩:=fA HF8.out #[.bool false,.int .u64 0,.int .u64 0] 217;go_wp2_with (first
   | (refine sW 2 HF10.out i_big fun w11 HF12=>?_;clear hw7 hg7 hw9 hg9)
   | (refine sW 3 HF12.out i_big fun w13 HF14=>?_;have c15:=cA (gN HF14 2) 0;have c16:=cA (gN HF14 3) 0)
   | (refine wpStoreCell rfl rfl 4 _ _ rfl g7 0 rfl (.bool (n1 != n2)) rfl _ _ (HF14.out.get 2 rfl) (by show 0<3;omega) rfl (by kernel_rfl) ?_;intro w17 hk ho;clear c15 c16;have HF18:=fN (HF14.out.only 2 rfl ho hk);clear ho hk)
   | (refine lF (gN HF20 2) #[.bool (n1 != n2),.int .u64 hh,.int .u64 ll] u_big i_big ?_)
   | (refine lF (gN HF20 3) #[.bool false,.int .u64 0,.int .u64 l2] u_big i_big ?_)
   | (refine wpStoreCell rfl rfl 4 _ _ rfl g9 0 rfl (.bool false) rfl _ _ (HF18.out.get 3 rfl) (by show 0<3;omega) rfl (by kernel_rfl) ?_;intro w19 hk ho;have HF20:=fN (HF18.out.only 3 rfl ho hk);clear ho hk))
 refine (HD.out _).mono ?_
 rintro e w21 ⟨tp,xp,yp,tq,xq,yq,rfl,hp,hq,hw⟩;have HF22:=hZ (HF20.out.below hw);clear hw;go_wp2_with (first
   | (refine sW 0 HF22.out i_big fun w23 HF24=>?_)
   | (refine sW 1 HF24.out i_big fun w25 HF26=>?_))
 exact ret_big2 rfl rfl rfl rfl (HF26.out.get 0 rfl) (HF26.out.get 1 rfl) (HFIN.out _ _ _ _ _ _ _ hp hq HF26.out.drop)

abbrev BigR:=Bool × Int × Int
def bgV (r:BigR):List Value:=[.bool r.1,.int .u64 r.2.1,.int .u64 r.2.2]
def rowsC:List BigR→List Value
 | []=>[]
 | r :: l=>bgV r ++ rowsC l
theorem rowsC_snoc (r:BigR):∀ l:List BigR,rowsC (l ++ [r])=rowsC l ++ bgV r
 | []=>rfl
 | x :: l=>by rw [List.cons_append,rowsC,rowsC_snoc r l,rowsC,List.append_assoc]
theorem rowsC_at:∀ (l:List BigR) (i j:Nat) (r:BigR),l[i]?=some r→j<3→(rowsC l)[i * 3+j]?=(bgV r)[j]?
 | [],i,j,r,h,_=>by simp at h
 | x :: l,0,j,r,h,hj=>by
  simp at h
  subst h;rw [Nat.zero_mul,Nat.zero_add,rowsC,List.getElem?_append_left (by show j<3;exact hj)]
 | x :: l,i+1,j,r,h,hj=>by
  rw [rowsC,show (i+1) * 3+j=3+(i * 3+j) by omega,List.getElem?_append_right (by show 3≤3+_;omega),show 3+(i * 3+j) - (bgV x).length=i * 3+j from Nat.add_sub_cancel_left 3 _]
  exact rowsC_at l i j r (by simpa using h) hj
def BgL (q:Nat→Int) (v:Value) (cur:Array Value) (m:Nat):Prop:=∃ rows:List BigR,rows.length=m∧LstAt 3 v cur m (rowsC rows)∧∀ i r,rows[i]?=some r→IsBig (.agg (bgV r).toArray) (q i)
theorem BgL.nil (q:Nat→Int):BgL q (.slice none 0 0) #[] 0:=⟨[],rfl,LstAt.nil 3,fun i r h=>by simp at h⟩
theorem BgL.push {q:Nat→Int} {v':Value} {cur':Array Value} {m:Nat} {rows:List BigR} (hr:rows.length=m) (hq:∀ i r,rows[i]?=some r→IsBig (.agg (bgV r).toArray) (q i)) {r:BigR} (hl:LstAt 3 v' cur' (m+1) (rowsC rows ++ bgV r)) (hb:IsBig (.agg (bgV r).toArray) (q m)):BgL q v' cur' (m+1):=by
 refine ⟨rows ++ [r],by simp [hr],by rw [rowsC_snoc];exact hl,fun i x hx=>?_⟩
 rcases Nat.lt_or_ge i m with h | h
 ·rw [List.getElem?_append_left (by omega)] at hx;exact hq i x hx
 ·rw [List.getElem?_append_right (by omega)] at hx
  have hi:i=m:=by
   have:=(List.getElem?_eq_some_iff.1 hx).1
   simp at this;omega
  subst hi;rw [hr,Nat.sub_self] at hx;simp at hx;subst hx;exact hb
theorem hullL_any {W:World} {O N Y:List Ent} {w:World} {q:Nat→Int} {v:Value} {cur:Array Value} {n:Nat} (hf:Fr W O (N ++ (lstE 217 v cur ++ Y)) w) (h:BgL q v cur (n+1)) (h1n:1≤n) (hn:n<4096) :
  Calls Tryz.prog 139 #[v] w fun e w'=>∃ t x y t' x' y',e=.returned (.tuple #[.agg #[.bool t,.int .u64 x,.int .u64 y],.agg #[.bool t',.int .u64 x',.int .u64 y']])∧IsBig (.agg #[.bool t,.int .u64 x,.int .u64 y]) (minK q n)∧IsBig (.agg #[.bool t',.int .u64 x',.int .u64 y']) (maxK q n)∧Below w.heap.size w w':=by
 obtain ⟨rows,hr,hl,hq⟩:=h;rcases hl.2 with ⟨rfl,h0⟩ | ⟨g,cap,rfl,h2,h3,h4,h5⟩
 ·omega
 have hbk:Bk w g 217 cur:=(hf.new (g,217,cur) (List.mem_append_right _ (List.mem_append_left _ (by simp [lstE])))).2
 have hV:∀ i,i<n+1→IsBig (.agg (bc (fun i=>(rows.getD i (false,0,0)).1) (fun i=>(rows.getD i (false,0,0)).2.1) (fun i=>(rows.getD i (false,0,0)).2.2) i)) (q i):=fun i hi=>by
  have e:rows[i]?=some (rows.getD i (false,0,0)):=by rw [List.getD_eq_getElem?_getD,List.getElem?_eq_getElem (by omega)];rfl
  exact hq i _ e
 have m1:=hV (pmin q n) (Nat.lt_succ_of_le (pmin_le q n));rw [pmin_val q] at m1;have m2:=hV (pmax q n) (Nat.lt_succ_of_le (pmax_le q n));rw [pmax_val q] at m2;refine (hull_ex w _ n cap _ _ _ q ⟨by omega,fun _=>⟨g,0,rfl,hbk.lt,fun i hi j hj=>?_⟩⟩ hV h1n hn (by omega) (by unfold maxLen at h3;omega)).mono ?_
 ·have e:rows[i]?=some (rows.getD i (false,0,0)):=by rw [List.getD_eq_getElem?_getD,List.getElem?_eq_getElem (by omega)];rfl
  have hc:=rowsC_at rows i j _ e hj;have hlen:i * 3+j<(n+1) * 3:=by omega
  rw [← h5,List.getElem?_take,if_pos hlen,Array.getElem?_toList] at hc;rw [hbk.cell,Nat.zero_add,hc];match j,hj with
  | 0,_=>rfl
  | 1,_=>rfl
  | 2,_=>rfl
 ·rintro e w' ⟨rfl,hw⟩;exact ⟨_,_,_,_,_,_,rfl,m1,m2,hw⟩
theorem info_push:(Tryz.prog.info? 217).map (fun i=>(i.zero,i.size,i.bytes))=some (some (.agg #[.bool false,.int .u64 0,.int .u64 0]),3,24):=by kernel_rfl
def fx (x y:Int):Nat→Int
 | 0=>x
 | _=>y
def DivI (W:World) (base:List Ent) (qd qu:Nat→Int) (vd vu:Value) (m:Nat) (w:World):Prop :=
 ∃ cd cu,Fr W [] (base ++ (lstE 217 vd cd ++ (lstE 217 vu cu ++ []))) w∧BgL qd vd cd m∧BgL qu vu cu m
theorem fq_range {a b:Int} (ha:I64 a) (hb:b ≠ 0):S127 (fqB a b)∧S127 (cqB a b):=by
 have key:∀ {u v:Int},-9223372036854775808≤u→u≤9223372036854775808→0<v→-39614081257132168796771975168≤u * 4294967296 / v∧u * 4294967296 / v≤39614081257132168796771975168:=fun {u v} h1 h2 hv=>by
  constructor
  ·rw [Int.le_ediv_iff_mul_le hv];have:-39614081257132168796771975168 * v≤-39614081257132168796771975168 * 1:=Int.mul_le_mul_of_nonpos_left (by decide) (by omega)
   omega
  ·have h3:u * 4294967296 / v<39614081257132168796771975169:=by
    rw [Int.ediv_lt_iff_lt_mul hv];have:39614081257132168796771975169 * 1≤39614081257132168796771975169 * v:=Int.mul_le_mul_of_nonneg_left (by omega) (by decide)
    omega
   omega
 unfold I64 at ha;unfold S127 cqB fqB;by_cases h:0<b
 ·rw [if_pos h,if_pos h];have h1:=key (u:=a) (v:=b) (by omega) (by omega) h
  have h2:=key (u:=-a) (v:=b) (by omega) (by omega) h
  omega
 ·rw [if_neg h,if_neg h];have h1:=key (u:=-a) (v:=-b) (by omega) (by omega) (by omega)
  have h2:=key (u:=a) (v:=-b) (by omega) (by omega) (by omega)
  rw [Int.neg_mul,Int.neg_neg];rw [Int.neg_mul] at h1;omega
theorem div_any (a b:SpanD) (ha:WdS a) (hb:WdS b) (w:World):Calls Tryz.prog 110 #[spanV a,spanV b] w (SpPost (divB a b) w.heap.size w):=by
 have HCK:=hZ (fun w g t h=>checked2_ex a b w g t h);have HFIN:Hid (∀ w',Fr w [] [] w'→SpPost (divB a b) w.heap.size w (.returned (.tuple #[.agg #[.int .i64 (divB a b).1.lo,.int .i64 (divB a b).1.hi],.int .i64 (divB a b).2])) w'):=hZ fun w' h=>⟨rfl,h.toBelow⟩;cases hc:chkB a && chkB b with
 | false =>
  have hs:divB a b=(zeroS,2):=by unfold divB;rw [hc];rfl
  rw [hs] at HFIN ⊢;rw [hc] at HCK;obtain ⟨al,ah⟩:=a;obtain ⟨bl,bh⟩:=b;clear hc hs ha hb;unfold spanV;dsimp only at HCK HFIN ⊢;obtain ⟨qb,W0,hqb,hW0,HF0⟩:=fM (Fr.start w) [(#[al,ah],31),(#[bl,bh],31),(#[.int .i64 0,.int .i64 0],31)];go_enter Tryz.func110,Tryz.ntmps110;go_upto_region 1 with (fail);clear hW0 hqb;obtain ⟨g1,hg1⟩:=eX W0.heap.size;obtain ⟨w1,hw1⟩:=eX (W0.alloc (.cells #[al,ah,bl,bh] 31));have HF2:=fE hw1 (HF0.out.alloc hg1.symm 31 #[al,ah,bl,bh]);go_wp2_with (first
    | (refine lS (gN HF0 0) al ah ?_)
    | (refine lS (gN HF0 1) bl bh ?_))
  clear hw1 hg1;refine mB HF2.out (HCK.out _ g1 31 (HF2.out.get 3 rfl)) fun w3 HF4=>?_;go_wp2_with (refine sW 2 HF4.out i_span fun w5 HF6=>?_)
  refine ret_agg2 rfl rfl rfl (HF6.out.get 2 rfl) rfl u_span rfl i_span ?_
  exact HFIN.out _ HF6.out.drop
 | true =>
  by_cases hz:b.lo≤0∧0≤b.hi
  ·have hs:divB a b=(zeroS,10):=by unfold divB;rw [hc,if_pos rfl,if_pos hz]
   rw [hs] at HFIN ⊢;rw [hc] at HCK;obtain ⟨al,ah⟩:=a;obtain ⟨bl,bh⟩:=b;have g1:decide (bl≤0)=true:=decide_eq_true hz.1;have g2:decide (0≤bh)=true:=decide_eq_true hz.2;clear hc hs ha hb hz;unfold spanV;dsimp only at HCK HFIN ⊢;obtain ⟨qb,W0,hqb,hW0,HF0⟩:=fM (Fr.start w) [(#[al,ah],31),(#[bl,bh],31),(#[.int .i64 0,.int .i64 0],31)];go_enter Tryz.func110,Tryz.ntmps110;go_upto_region 1 with (fail);clear hW0 hqb;obtain ⟨g1,hg1⟩:=eX W0.heap.size;obtain ⟨w1,hw1⟩:=eX (W0.alloc (.cells #[al,ah,bl,bh] 31));have HF2:=fE hw1 (HF0.out.alloc hg1.symm 31 #[al,ah,bl,bh]);go_wp2_with (first
     | (refine lS (gN HF0 0) al ah ?_)
     | (refine lS (gN HF0 1) bl bh ?_))
   clear hw1 hg1;refine mB HF2.out (HCK.out _ g1 31 (HF2.out.get 3 rfl)) fun w3 HF4=>?_;have c5:=cA (gN HF4 1) 0;have c6:=cA (gN HF4 1) 1;go_wp2_with (refine sW 2 HF4.out i_span fun w7 HF8=>?_;clear c5 c6)
   refine ret_agg2 rfl rfl rfl (HF8.out.get 2 rfl) rfl u_span rfl i_span ?_
   exact HFIN.out _ HF8.out.drop
  ·have hs:divB a b=fitB (min4 (fqB a.lo b.lo) (fqB a.lo b.hi) (fqB a.hi b.lo) (fqB a.hi b.hi)) (max4 (cqB a.lo b.lo) (cqB a.lo b.hi) (cqB a.hi b.lo) (cqB a.hi b.hi)):=by unfold divB;rw [hc,if_pos rfl,if_neg hz]
   rw [hs] at HFIN ⊢;rw [hc] at HCK;obtain ⟨al,ah⟩:=a;obtain ⟨bl,bh⟩:=b;unfold spanV;dsimp only at HCK HFIN hz ⊢;have hcc:=hc;rw [Bool.and_eq_true] at hcc;have hord:=(chk_iff.1 hcc.2).2.2;dsimp only at hord;have hbl:bl ≠ 0:=by omega
   have hbh:bh ≠ 0:=by omega
   obtain ⟨a1,a2⟩:=ha;obtain ⟨b1,b2⟩:=hb;dsimp only at a1 a2 b1 b2;have HRat:Hid (∀ (i j:Nat) w,Calls Tryz.prog 159 #[.int .i64 (fx al ah i),.int .i64 (fx bl bh j)] w (RatPost (fx al ah i) (fx bl bh j) w)):=hZ fun i j w=>ratio_any _ _ (by unfold fx;split;exact a1;exact a2) (by unfold fx;split;exact b1;exact b2) (by unfold fx;split;exact hbl;exact hbh) w
   obtain ⟨qd,hqd⟩:∃ q:Nat→Int,q=fun m=>fqB (fx al ah (m / 2)) (fx bl bh (m % 2)):=⟨_,rfl⟩;obtain ⟨qu,hqu⟩:∃ q:Nat→Int,q=fun m=>cqB (fx al ah (m / 2)) (fx bl bh (m % 2)):=⟨_,rfl⟩;have HQ:Hid (∀ k j:Nat,j<2→fqB (fx al ah k) (fx bl bh j)=qd (2 * k+j)∧cqB (fx al ah k) (fx bl bh j)=qu (2 * k+j)):=hZ fun k j hj=>by
    rw [hqd,hqu];dsimp only;rw [show (2 * k+j) / 2=k by omega,show (2 * k+j) % 2=j by omega];exact ⟨rfl,rfl⟩
   have HE1:Hid (min4 (fqB al bl) (fqB al bh) (fqB ah bl) (fqB ah bh)=minK qd 3):=hZ (by rw [hqd];unfold min4;show _=min (min (min (fqB al bl) (fqB al bh)) (fqB ah bl)) (fqB ah bh);omega)
   have HE2:Hid (max4 (cqB al bl) (cqB al bh) (cqB ah bl) (cqB ah bh)=maxK qu 3):=hZ (by rw [hqu];unfold max4;show _=max (max (max (cqB al bl) (cqB al bh)) (cqB ah bl)) (cqB ah bh);omega)
   have hr1:=(fq_range a1 hbl).1;have hr2:=(fq_range a1 hbh).1;have hr3:=(fq_range a2 hbl).1;have hr4:=(fq_range a2 hbh).1;have hr5:=(fq_range a1 hbl).2;have hr6:=(fq_range a1 hbh).2;have hr7:=(fq_range a2 hbl).2;have hr8:=(fq_range a2 hbh).2;have HS1:Hid (S127 (minK qd 3)):=hZ (by rw [← HE1.out];unfold S127 at *;unfold min4;omega)
   have HS2:Hid (S127 (maxK qu 3)):=hZ (by rw [← HE2.out];unfold S127 at *;unfold max4;omega)
   clear hr1 hr2 hr3 hr4 hr5 hr6 hr7 hr8;rw [HE1.out,HE2.out] at HFIN ⊢;obtain ⟨⟨⟨fl,fh⟩,fe⟩,hfe⟩:∃ z:SpanD × Int,fitB (minK qd 3) (maxK qu 3)=z:=⟨_,rfl⟩;have HFE:=hZ hfe;rw [hfe] at HFIN ⊢;dsimp only at HFIN;have hg:(decide (bl≤0)=true∧decide (0≤bh)=false) ∨ decide (bl≤0)=false:=by
    by_cases h:bl≤0
    ·exact .inl ⟨decide_eq_true h,decide_eq_false (by omega)⟩
    ·exact .inr (decide_eq_false h)
   clear hc hcc hs hz hord hbl hbh a1 a2 b1 b2 hqd hqu hfe HE1 HE2;rcases hg with ⟨g1,g2⟩ | g1
   all_goals
    obtain ⟨qb,W0,hqb,hW0,HF0⟩:=fM (Fr.start w) [(#[al,ah],31),(#[bl,bh],31),(#[.int .i64 0,.int .i64 0],31)];go_enter Tryz.func110,Tryz.ntmps110;go_upto_region 1 with (fail);clear hW0 hqb;obtain ⟨g1,hg1⟩:=eX W0.heap.size;obtain ⟨w1,hw1⟩:=eX (W0.alloc (.cells #[al,ah,bl,bh] 31));have HF2:=fE hw1 (HF0.out.alloc hg1.symm 31 #[al,ah,bl,bh]);go_wp2_with (first
      | (refine lS (gN HF0 0) al ah ?_)
      | (refine lS (gN HF0 1) bl bh ?_))
    clear hw1 hg1;refine mB HF2.out (HCK.out _ g1 31 (HF2.out.get 3 rfl)) fun w3 HF4=>?_;have c5:=cA (gN HF4 1) 0;have c6:=cA (gN HF4 1) 1;have c7:=cA (gN HF4 0) 0;have c8:=cA (gN HF4 0) 1;obtain ⟨g9,w9,hg9,hw9,HF10⟩:=fA HF4.out #[al,ah] 29;go_wp2_with fail
    clear c5 c6 c7 c8 hw9 hg9;obtain ⟨base,hbase⟩:∃ b:List Ent,[(qb,31,iC [al,ah]),(qb+1,31,iC [bl,bh]),(qb+1+1,31,iC [0,0]),(g1,31,iC [al,ah,bl,bh]),(g9,29,iC [al,ah])]=b:=⟨_,rfl⟩;have HB:Hid (base=[(qb,31,iC [al,ah]),(qb+1,31,iC [bl,bh]),(qb+1+1,31,iC [0,0]),(g1,31,iC [al,ah,bl,bh]),(g9,29,iC [al,ah])]):=hZ hbase.symm;have HD0:Hid (DivI w base qd qu (.slice none 0 0) (.slice none 0 0) 0 w9):=hZ ⟨#[],#[],by rw [HB.out];exact HF10.out,BgL.nil qd,BgL.nil qu⟩
    clear hbase;go_loopw [7,8,42] (fun vd vu iv wr=>∃ k:Nat,k≤2∧iv=.int .i64 k∧Hid (DivI w base qd qu vd vu (2 * k) wr)) (fun _ _ iv _=>2 - (intOf iv).toNat)
    case atStart=>exact ⟨0,Nat.zero_le _,rfl,HD0⟩
    case round =>
     obtain ⟨wo,rfl⟩:∃ wo:World,wo=wr:=⟨_,rfl⟩;obtain ⟨k,hk,rfl,hs⟩:=hrel;obtain ⟨cd0,cu0,hf0,hd0,hu0⟩:=hs.out;rw [HB.out] at hf0;have HFA:=hZ hf0;have HDL:=hZ hd0;have HUL:=hZ hu0;clear hf0 hd0 hu0 hs;obtain ⟨vd0,rfl⟩:∃ z:Value,z=u7:=⟨_,rfl⟩;obtain ⟨vu0,rfl⟩:∃ z:Value,z=u8:=⟨_,rfl⟩;by_cases hlt:k<2
     ·have hki:(k:Int)<2:=by omega
      have hca:wo.cell? ⟨g9,k,none⟩=some (.int .i64 (fx al ah k)):=by
       rw [(HFA.out.get 4 rfl).cell];match k,hlt with
       | 0,_=>rfl
       | 1,_=>rfl
      have c11:=cA (gN HFA 1) 0;have c12:=cA (gN HFA 1) 1;obtain ⟨g13,hg13⟩:=eX wo.heap.size;obtain ⟨w13,hw13⟩:=eX (wo.alloc (.cells #[bl,bh] 29));have HF14:=hZ (frE hw13 (HFA.out.allocM hg13.symm 29 #[bl,bh]));go_wp2_with fail
      clear hca c11 c12 hw13 hg13;obtain ⟨base2,hbase2⟩:∃ b:List Ent,[(qb,31,iC [al,ah]),(qb+1,31,iC [bl,bh]),(qb+1+1,31,iC [0,0]),(g1,31,iC [al,ah,bl,bh]),(g9,29,iC [al,ah]),(g13,29,iC [bl,bh])]=b:=⟨_,rfl⟩;have HB2:Hid (base2=[(qb,31,iC [al,ah]),(qb+1,31,iC [bl,bh]),(qb+1+1,31,iC [0,0]),(g1,31,iC [al,ah,bl,bh]),(g9,29,iC [al,ah]),(g13,29,iC [bl,bh])]):=hZ hbase2.symm;have HD2:Hid (DivI w base2 qd qu vd0 vu0 (2 * k+0) w13):=hZ ⟨cd0,cu0,by rw [HB2.out];exact HF14.out,HDL.out,HUL.out⟩
      clear hbase2 HDL HUL;go_loopw [7,8,52] (fun vd vu iv wr=>∃ j:Nat,j≤2∧iv=.int .i64 j∧Hid (DivI w base2 qd qu vd vu (2 * k+j) wr)) (fun _ _ iv _=>2 - (intOf iv).toNat)
      case atStart=>exact ⟨0,Nat.zero_le _,rfl,HD2⟩
      case round =>
       obtain ⟨wi,rfl⟩:∃ wi:World,wi=wr:=⟨_,rfl⟩;obtain ⟨j,hj,rfl,hs⟩:=hrel;obtain ⟨vd1,rfl⟩:∃ z:Value,z=u7:=⟨_,rfl⟩;obtain ⟨vu1,rfl⟩:∃ z:Value,z=u8:=⟨_,rfl⟩;obtain ⟨cd1,cu1,hf1,hd1,hu1⟩:=hs.out;rw [HB2.out] at hf1;have HFB:=hZ hf1;by_cases hlj:j<2
       ·have hji:(j:Int)<2:=by omega
        obtain ⟨rd,hrd,hld,hqd⟩:=hd1;obtain ⟨ru,hru,hlu,hqu⟩:=hu1;have HLD:=hZ hld;have HLU:=hZ hlu;have HRD:=hZ (And.intro hrd hqd);have HRU:=hZ (And.intro hru hqu);have HM:Hid (2 * k+j≤65536):=hZ (by omega)
        clear hf1 hld hlu hrd hqd hru hqu hs;obtain ⟨mm,hmm⟩:=eX (2 * k+j);have HMM:=hZ hmm;rw [hmm] at HLD HLU HRD HRU HM;clear hmm;have hcb:wi.cell? ⟨g13,j,none⟩=some (.int .i64 (fx bl bh j)):=by
         rw [(HFB.out.get 5 rfl).cell];match j,hlj with
         | 0,_=>rfl
         | 1,_=>rfl
        go_wp2_with fail
        clear hcb;refine (HRat.out k j _).mono ?_
        rintro e w15 ⟨tp,xp,yp,tq,xq,yq,rfl,hp,hq,hw⟩;have HF16:Hid (Fr w [] ([(qb,31,iC [al,ah]),(qb+1,31,iC [bl,bh]),(qb+1+1,31,iC [0,0]),(g1,31,iC [al,ah,bl,bh]),(g9,29,iC [al,ah]),(g13,29,iC [bl,bh])] ++ (lstE 217 vd1 cd1 ++ (lstE 217 vu1 cu1 ++ []))) w15):=hZ (HFB.out.below hw);clear hw;obtain ⟨g17,hg17⟩:=eX w15.heap.size;obtain ⟨w17,hw17⟩:=eX (w15.alloc (.cells #[.bool false,.int .u64 0,.int .u64 0] 217));have HF18:Hid (Fr w [] ([(qb,31,iC [al,ah]),(qb+1,31,iC [bl,bh]),(qb+1+1,31,iC [0,0]),(g1,31,iC [al,ah,bl,bh]),(g9,29,iC [al,ah]),(g13,29,iC [bl,bh]),(g17,217,#[.bool false,.int .u64 0,.int .u64 0])] ++ (lstE 217 vd1 cd1 ++ (lstE 217 vu1 cu1 ++ []))) w17):=hZ (by rw [← hw17];exact HF16.out.allocM hg17.symm 217 #[.bool false,.int .u64 0,.int .u64 0])
        obtain ⟨g19,hg19⟩:=eX w17.heap.size;obtain ⟨w19,hw19⟩:=eX (w17.alloc (.cells #[.bool false,.int .u64 0,.int .u64 0] 217));have HF20:=hZ (frE hw19 (HF18.out.allocM hg19.symm 217 #[.bool false,.int .u64 0,.int .u64 0]));go_upto_region 14 with (first
          | (refine sW 6 HF20.out i_big fun w21 HF22=>?_;clear hw17 hg17 hw19 hg19)
          | (refine sW 7 HF22.out i_big fun w23 HF24=>?_))
        refine wp_region_ft [Kind.p,Kind.p,Kind.a 0,Kind.c 0,Kind.p,Kind.p,Kind.a 1,Kind.c 1,Kind.p,Kind.p] [3,7] [(2,217,fun _=>#[.bool tp,.int .u64 xp,.int .u64 yp]),(6,217,fun _=>#[.bool tq,.int .u64 xq,.int .u64 yq])] w
          (fun k vs O N=>O=[]∧match k with
           | 0=>N=[(qb,31,iC [al,ah]),(qb+1,31,iC [bl,bh]),(qb+1+1,31,iC [0,0]),(g1,31,iC [al,ah,bl,bh]),(g9,29,iC [al,ah]),(g13,29,iC [bl,bh]),(g17,217,#[.bool tp,.int .u64 xp,.int .u64 yp]),(g19,217,#[.bool tq,.int .u64 xq,.int .u64 yq])] ++ (lstE 217 vd1 cd1 ++ (lstE 217 vu1 cu1 ++ []))
           | 1=>∃ cd',N=[(qb,31,iC [al,ah]),(qb+1,31,iC [bl,bh]),(qb+1+1,31,iC [0,0]),(g1,31,iC [al,ah,bl,bh]),(g9,29,iC [al,ah]),(g13,29,iC [bl,bh]),(g17,217,#[.bool tp,.int .u64 xp,.int .u64 yp]),(g19,217,#[.bool tq,.int .u64 xq,.int .u64 yq])] ++ (lstE 217 (vs 3) cd' ++ (lstE 217 vu1 cu1 ++ []))∧LstAt 3 (vs 3) cd' (mm+1) (rowsC rd ++ [.bool tp,.int .u64 xp,.int .u64 yp])
           | _=>∃ cd' cu',N=[(qb,31,iC [al,ah]),(qb+1,31,iC [bl,bh]),(qb+1+1,31,iC [0,0]),(g1,31,iC [al,ah,bl,bh]),(g9,29,iC [al,ah]),(g13,29,iC [bl,bh]),(g17,217,#[.bool tp,.int .u64 xp,.int .u64 yp]),(g19,217,#[.bool tq,.int .u64 xq,.int .u64 yq])] ++ (lstE 217 (vs 3) cd' ++ (lstE 217 (vs 7) cu' ++ []))∧LstAt 3 (vs 3) cd' (mm+1) (rowsC rd ++ [.bool tp,.int .u64 xp,.int .u64 yp])∧LstAt 3 (vs 7) cu' (mm+1) (rowsC ru ++ [.bool tq,.int .u64 xq,.int .u64 yq]))
          (fun ix u d=>match ix with
           | 0=>u=vd1
           | 1=>u=.agg #[.bool tp,.int .u64 xp,.int .u64 yp]
           | 2=>u=.slice (some ⟨gOf u,0,none⟩) 1 1
           | 4=>u=vu1
           | 5=>u=.agg #[.bool tq,.int .u64 xq,.int .u64 yq]
           | 6=>u=.slice (some ⟨gOf u,0,none⟩) 1 1
           | 8=>u=d 3
           | 9=>u=d 7
           | _=>True)
          (by kernel_rfl) (by kernel_rfl) (by kernel_rfl) [2,6] rfl (by decide) (by kernel_rfl) (by kernel_rfl) ?_ HF24.out (fun _=>⟨rfl,rfl⟩) ?_ ?_
        ·intro k vs vs' O N hv ht;have h3:=hv 3 (by simp)
         have h7:=hv 7 (by simp)
         match k,ht with
         | 0,ht=>exact ht
         | 1,ht=>(try dsimp only at ht ⊢);rw [h3];exact ht
         | _+2,ht=>(try dsimp only at ht ⊢);rw [h3,h7];exact ht
        ·refine ⟨?_,?_,?_,?_,?_,?_,?_,?_,?_,?_,trivial⟩
         ·intro a w1 vs dn k O N K S hpre KE DE kk;have e7:=KE 7 (by decide)
          go_simp;exact kk _ _ (by simp) bR rfl
         ·intro a w1 vs dn k O N K S hpre KE DE kk;have e13:=KE 13 (by decide)
          have HBX:Bk w1 g17 217 #[.bool tp,.int .u64 xp,.int .u64 yp]∧Bk w1 g19 217 #[.bool tq,.int .u64 xq,.int .u64 yq]:=by
           obtain ⟨_,ht⟩:=S.t;have hkl:=S.kle;match k,ht,hkl,S.fr with
           | 0,ht,_,hf=>subst ht;exact ⟨hf.left.get 6 rfl,hf.left.get 7 rfl⟩
           | 1,ht,_,hf=>obtain ⟨cd',ht,_⟩:=ht;subst ht;exact ⟨hf.left.get 6 rfl,hf.left.get 7 rfl⟩
           | _+2,ht,_,hf=>obtain ⟨cd',cu',ht,_⟩:=ht;subst ht;exact ⟨hf.left.get 6 rfl,hf.left.get 7 rfl⟩
          exact wpo_loadF 217 (.tmp 13) rfl g17 0 (by simpa [Act.eval] using e13) 217 _ HBX.1 #[.bool tp,.int .u64 xp,.int .u64 yp] rfl _ u_big rfl i_big (kk _ _ (by simp) bR rfl)
         ·intro a w1 vs dn k O N K S hpre KE DE kk;have e63:=(DE 1 _ 63 rfl rfl rfl).1.trans (DE 1 _ 63 rfl rfl rfl).2;go_simp;exact kk _ _ (by simp) (S.fr.alloc rfl _ _) rfl
         ·intro a w1 vs dn k O N K S hpre KE DE kk;subst hpre;have e62:=(DE 0 _ 62 rfl rfl rfl).1.trans (DE 0 _ 62 rfl rfl rfl).2;have e64:=(DE 2 _ 64 rfl rfl rfl).1.trans (DE 2 _ 64 rfl rfl rfl).2;obtain ⟨rfl,rfl⟩:=S.t;have HS:=S.fr;rw [List.append_assoc,List.append_assoc,List.append_assoc,List.nil_append] at HS;exact wpo_push (.tmp 62) (.tmp 64) 241 rfl HS HLD.out (by kernel_rfl) info_push rfl (by decide) (by decide) HM.out _ 1 _ 217 (by simpa [Act.eval] using e62) (by simpa [Act.eval] using e64) (S.at 0 rfl (S.done 2 rfl)) rfl rfl
           fun v' w' cur' h1 h2=>kk _ _ (by simp) ⟨[],_,⟨rfl,cur',rfl,h1⟩,by rw [aTab_stage (A:=[(2,217,fun _=>#[.bool tp,.int .u64 xp,.int .u64 yp]),(6,217,fun _=>#[.bool tq,.int .u64 xq,.int .u64 yq])]) (s:=0) ⟨rfl,rfl,trivial⟩,List.append_assoc,List.append_assoc,List.append_assoc,List.nil_append];exact h2⟩ trivial
         ·intro a w1 vs dn k O N K S hpre KE DE kk;have e8:=KE 8 (by decide)
          go_simp;exact kk _ _ (by simp) bR rfl
         ·intro a w1 vs dn k O N K S hpre KE DE kk;have e14:=KE 14 (by decide)
          have HBX:Bk w1 g17 217 #[.bool tp,.int .u64 xp,.int .u64 yp]∧Bk w1 g19 217 #[.bool tq,.int .u64 xq,.int .u64 yq]:=by
           obtain ⟨_,ht⟩:=S.t;have hkl:=S.kle;match k,ht,hkl,S.fr with
           | 0,ht,_,hf=>subst ht;exact ⟨hf.left.get 6 rfl,hf.left.get 7 rfl⟩
           | 1,ht,_,hf=>obtain ⟨cd',ht,_⟩:=ht;subst ht;exact ⟨hf.left.get 6 rfl,hf.left.get 7 rfl⟩
           | _+2,ht,_,hf=>obtain ⟨cd',cu',ht,_⟩:=ht;subst ht;exact ⟨hf.left.get 6 rfl,hf.left.get 7 rfl⟩
          exact wpo_loadF 217 (.tmp 14) rfl g19 0 (by simpa [Act.eval] using e14) 217 _ HBX.2 #[.bool tq,.int .u64 xq,.int .u64 yq] rfl _ u_big rfl i_big (kk _ _ (by simp) bR rfl)
         ·intro a w1 vs dn k O N K S hpre KE DE kk;have e67:=(DE 5 _ 67 rfl rfl rfl).1.trans (DE 5 _ 67 rfl rfl rfl).2;go_simp;exact kk _ _ (by simp) (S.fr.alloc rfl _ _) rfl
         ·intro a w1 vs dn k O N K S hpre KE DE kk;subst hpre;have e66:=(DE 4 _ 66 rfl rfl rfl).1.trans (DE 4 _ 66 rfl rfl rfl).2;have e68:=(DE 6 _ 68 rfl rfl rfl).1.trans (DE 6 _ 68 rfl rfl rfl).2;obtain ⟨rfl,cd',rfl,hld⟩:=S.t;have HS:=S.fr;rw [← List.append_assoc,List.append_assoc _ (lstE 217 vu1 cu1 ++ []),List.append_assoc (lstE 217 vu1 cu1),List.nil_append] at HS;exact wpo_push (.tmp 66) (.tmp 68) 241 rfl HS HLU.out (by kernel_rfl) info_push rfl (by decide) (by decide) HM.out _ 1 _ 217 (by simpa [Act.eval] using e66) (by simpa [Act.eval] using e68) (S.at 1 rfl (S.done 6 rfl)) rfl rfl
           fun v' w' cur' h1 h2=>kk _ _ (by simp) ⟨[],_,⟨rfl,cd',cur',rfl,hld,h1⟩,by rw [aTab_stage (A:=[(2,217,fun _=>#[.bool tp,.int .u64 xp,.int .u64 yp]),(6,217,fun _=>#[.bool tq,.int .u64 xq,.int .u64 yq])]) (s:=1) ⟨rfl,rfl,trivial⟩,← List.append_assoc,List.append_assoc _ (lstE 217 _ cur' ++ []),List.append_assoc (lstE 217 _ cur'),List.nil_append];exact h2⟩ trivial
         ·intro a w1 vs dn k O N K S hpre KE DE kk;have e65:=(DE 3 _ 65 rfl rfl rfl).1;go_simp;exact kk _ _ (by simp) bR rfl
         ·intro a w1 vs dn k O N K S hpre KE DE kk;have e69:=(DE 7 _ 69 rfl rfl rfl).1;go_simp;exact kk _ _ (by simp) bR rfl
        ·intro vs wf O N HT HFr HR;have v8:vs 8=vs 3:=HR 8 _ rfl;have v9:vs 9=vs 7:=HR 9 _ rfl;obtain ⟨rfl,cd',cu',rfl,HLD',HLU'⟩:=HT;clear HR;have HFr':=HFr.left;clear HFr;simp only [putAll,Act.put,List.setIfInBounds_toArray,List.set_cons_zero,List.set_cons_succ];simp only [v8,v9];clear v8 v9;obtain ⟨vd',hvd'⟩:=eX (vs 3);obtain ⟨vu',hvu'⟩:=eX (vs 7);rw [hvd'] at HLD' HFr' ⊢;rw [hvu'] at HLU' HFr' ⊢;clear hvd' hvu';go_wp2_with fail
         go_roundw
         case rel =>
          refine ⟨j+1,by omega,by go_num,hZ ⟨cd',cu',?_,?_,?_⟩⟩
          ·rw [HB2.out];exact HFr'.sub ((List.sublist_append_left ([(qb,31,iC [al,ah]),(qb+1,31,iC [bl,bh]),(qb+1+1,31,iC [0,0]),(g1,31,iC [al,ah,bl,bh]),(g9,29,iC [al,ah]),(g13,29,iC [bl,bh])]:List Ent) [(g17,217,#[.bool tp,.int .u64 xp,.int .u64 yp]),(g19,217,#[.bool tq,.int .u64 xq,.int .u64 yq])]).append_right _)
          ·rw [show 2 * k+(j+1)=mm+1 by have:=HMM.out;omega]
           exact BgL.push HRD.out.1 HRD.out.2 (r:=(tp,xp,yp)) HLD' (by have:=(HQ.out k j hlj).1;rw [HMM.out] at this;rw [← this];exact hp)
          ·rw [show 2 * k+(j+1)=mm+1 by have:=HMM.out;omega]
           exact BgL.push HRU.out.1 HRU.out.2 (r:=(tq,xq,yq)) HLU' (by have:=(HQ.out k j hlj).2;rw [HMM.out] at this;rw [← this];exact hq)
         case measure=>simp [intOf];omega
       ·obtain rfl:j=2:=by omega
        have HF9:=HFB;clear hf1;go_wp2_with fail
        go_roundw
        case rel =>
         refine ⟨k+1,by omega,by go_num,hZ ⟨cd1,cu1,?_,hd1,hu1⟩⟩
         rw [HB.out];exact HFB.out.sub ((List.sublist_append_left ([(qb,31,iC [al,ah]),(qb+1,31,iC [bl,bh]),(qb+1+1,31,iC [0,0]),(g1,31,iC [al,ah,bl,bh]),(g9,29,iC [al,ah])]:List Ent) [(g13,29,iC [bl,bh])]).append_right _)
        case measure=>simp [intOf];omega
     ·obtain rfl:k=2:=by omega
      go_wp2_with fail
      refine (hullL_any HFA.out HDL.out (by decide) (by decide)).mono ?_
      rintro e w25 ⟨tp,xp,yp,tp',xp',yp',rfl,hp,hp',hw⟩;have HF26:Hid (Fr w [] ([(qb,31,iC [al,ah]),(qb+1,31,iC [bl,bh]),(qb+1+1,31,iC [0,0]),(g1,31,iC [al,ah,bl,bh]),(g9,29,iC [al,ah])] ++ (lstE 217 vd0 cd0 ++ (lstE 217 vu0 cu0 ++ []))) w25):=hZ (HFA.out.below hw);clear hw;obtain ⟨g27,hg27⟩:=eX w25.heap.size;obtain ⟨w27,hw27⟩:=eX (w25.alloc (.cells #[.bool false,.int .u64 0,.int .u64 0] 217));have HF28:Hid (Fr w [] ([(qb,31,iC [al,ah]),(qb+1,31,iC [bl,bh]),(qb+1+1,31,iC [0,0]),(g1,31,iC [al,ah,bl,bh]),(g9,29,iC [al,ah]),(g27,217,#[.bool false,.int .u64 0,.int .u64 0])] ++ (lstE 217 vd0 cd0 ++ (lstE 217 vu0 cu0 ++ []))) w27):=hZ (by rw [← hw27];exact HF26.out.allocM hg27.symm 217 #[.bool false,.int .u64 0,.int .u64 0])
      obtain ⟨g29,hg29⟩:=eX w27.heap.size;obtain ⟨w29,hw29⟩:=eX (w27.alloc (.cells #[.bool false,.int .u64 0,.int .u64 0] 217));have HF30:=hZ (frE hw29 (HF28.out.allocM hg29.symm 217 #[.bool false,.int .u64 0,.int .u64 0]));go_wp2_with (first
        | (refine sW 5 HF30.out i_big fun w31 HF32=>?_;clear hw27 hg27 hw29 hg29)
        | (refine sW 6 HF32.out i_big fun w33 HF34=>?_))
      refine (hullL_any (W:=w) (O:=[]) (N:=[(qb,31,iC [al,ah]),(qb+1,31,iC [bl,bh]),(qb+1+1,31,iC [0,0]),(g1,31,iC [al,ah,bl,bh]),(g9,29,iC [al,ah]),(g27,217,#[.bool tp,.int .u64 xp,.int .u64 yp]),(g29,217,#[.bool tp',.int .u64 xp',.int .u64 yp'])] ++ lstE 217 vd0 cd0) (Y:=[]) (by rw [List.append_assoc];exact HF34.out) HUL.out (by decide) (by decide)).mono ?_
      rintro e wh ⟨tq,xq,yq,tq',xq',yq',rfl,hq,hq',hw⟩;have HF35:Hid (Fr w [] ([(qb,31,iC [al,ah]),(qb+1,31,iC [bl,bh]),(qb+1+1,31,iC [0,0]),(g1,31,iC [al,ah,bl,bh]),(g9,29,iC [al,ah]),(g27,217,#[.bool tp,.int .u64 xp,.int .u64 yp]),(g29,217,#[.bool tp',.int .u64 xp',.int .u64 yp'])] ++ (lstE 217 vd0 cd0 ++ (lstE 217 vu0 cu0 ++ []))) wh):=hZ (HF34.out.below hw);clear hw;obtain ⟨g36,hg36⟩:=eX wh.heap.size;obtain ⟨w36,hw36⟩:=eX (wh.alloc (.cells #[.bool false,.int .u64 0,.int .u64 0] 217));have HF37:Hid (Fr w [] ([(qb,31,iC [al,ah]),(qb+1,31,iC [bl,bh]),(qb+1+1,31,iC [0,0]),(g1,31,iC [al,ah,bl,bh]),(g9,29,iC [al,ah]),(g27,217,#[.bool tp,.int .u64 xp,.int .u64 yp]),(g29,217,#[.bool tp',.int .u64 xp',.int .u64 yp']),(g36,217,#[.bool false,.int .u64 0,.int .u64 0])] ++ (lstE 217 vd0 cd0 ++ (lstE 217 vu0 cu0 ++ []))) w36):=hZ (by rw [← hw36];exact HF35.out.allocM hg36.symm 217 #[.bool false,.int .u64 0,.int .u64 0])
      obtain ⟨g38,hg38⟩:=eX w36.heap.size;obtain ⟨w38,hw38⟩:=eX (w36.alloc (.cells #[.bool false,.int .u64 0,.int .u64 0] 217));have HF39:=hZ (frE hw38 (HF37.out.allocM hg38.symm 217 #[.bool false,.int .u64 0,.int .u64 0]));go_wp2_with (first
        | (refine sW 7 HF39.out i_big fun w40 HF41=>?_;clear hw36 hg36 hw38 hg38)
        | (refine lF (gN HF43 5) #[.bool tp,.int .u64 xp,.int .u64 yp] u_big i_big ?_)
        | (refine lF (gN HF43 8) #[.bool tq',.int .u64 xq',.int .u64 yq'] u_big i_big ?_)
        | (refine sW 8 HF41.out i_big fun w42 HF43=>?_))
      have HFT:=fit_any hp hq' HS1.out HS2.out;unfold SpPost spanV at HFT;rw [HFE.out] at HFT;refine mB HF43.out (HFT _) fun w44 HF45=>?_;go_wp2_with (refine sW 2 HF45.out i_span fun w46 HF47=>?_)
      refine ret_agg2 rfl rfl rfl (HF47.out.get 2 rfl) rfl u_span rfl i_span ?_
      exact HFIN.out _ HF47.out.drop

theorem wd_abs {a:SpanD} (h:chkB a=true) (hw:WdS a):WdS (absS a):=by
 have h3:=chk_iff.1 h;unfold WdS absS negS at *;split
 ·exact hw
 ·split <;> dsimp only <;> omega
theorem square_any (a:SpanD) (ha:WdS a) (w:World):Calls Tryz.prog 135 #[spanV a] w (SpPost (squareB a) w.heap.size w):=by
 have H1:=hZ (fun w=>abs_any a ha w);have HFIN:Hid (∀ w',Fr w [] [] w'→SpPost (squareB a) w.heap.size w (.returned (.tuple #[.agg #[.int .i64 (squareB a).1.lo,.int .i64 (squareB a).1.hi],.int .i64 (squareB a).2])) w'):=hZ fun w' h=>⟨rfl,h.toBelow⟩;cases hc:chkB a with
 | false =>
  have h1:absB a=(zeroS,2):=by unfold absB;rw [hc];rfl
  have hs:squareB a=(zeroS,2):=by unfold squareB;rw [hc];rfl
  rw [h1] at H1;rw [hs] at HFIN ⊢;obtain ⟨al,ah⟩:=a;clear hc hs ha h1;unfold SpPost spanV zeroS at H1;unfold spanV;dsimp only at H1 HFIN ⊢;obtain ⟨qb,W0,hqb,hW0,HF0⟩:=fM (Fr.start w) [(#[al,ah],31),(#[.int .i64 0,.int .i64 0],31)];go_enter Tryz.func135,Tryz.ntmps135;go_upto_region 1 with (fail);clear hW0 hqb;go_wp2_with (refine lS (gN HF0 0) al ah ?_)
  refine mB HF0.out (H1.out _) fun w1 HF2=>?_;obtain ⟨g3,w3,hg3,hw3,HF4⟩:=fA HF2.out #[.int .i64 0,.int .i64 0] 31;go_wp2_with (first
    | (refine sW 2 HF4.out i_span fun w5 HF6=>?_;clear hw3 hg3)
    | (refine sW 1 HF6.out i_span fun w7 HF8=>?_))
  refine ret_agg2 rfl rfl rfl (HF8.out.get 1 rfl) rfl u_span rfl i_span ?_
  exact HFIN.out _ HF8.out.drop
 | true =>
  have h1:absB a=(absS a,0):=by unfold absB;rw [hc];rfl
  have hs:squareB a=mulB (absS a) (absS a):=by unfold squareB;rw [hc];rfl
  rw [h1] at H1;rw [hs] at HFIN ⊢;have H2:=hZ (fun w=>mul_any (absS a) (absS a) (wd_abs hc ha) (wd_abs hc ha) w);obtain ⟨⟨bl,bh⟩,hb⟩:=eX (absS a);rw [hb] at H1 H2 HFIN ⊢;obtain ⟨⟨⟨fl,fh⟩,fe⟩,hf⟩:∃ z:SpanD × Int,mulB ⟨bl,bh⟩ ⟨bl,bh⟩=z:=⟨_,rfl⟩;rw [hf] at H2 HFIN ⊢;obtain ⟨al,ah⟩:=a;clear hc hs ha h1 hb hf;unfold SpPost spanV at H1 H2;unfold spanV;dsimp only at H1 H2 HFIN ⊢;obtain ⟨qb,W0,hqb,hW0,HF0⟩:=fM (Fr.start w) [(#[al,ah],31),(#[.int .i64 0,.int .i64 0],31)];go_enter Tryz.func135,Tryz.ntmps135;go_upto_region 1 with (fail);clear hW0 hqb;go_wp2_with (refine lS (gN HF0 0) al ah ?_)
  refine mB HF0.out (H1.out _) fun w1 HF2=>?_;obtain ⟨g3,w3,hg3,hw3,HF4⟩:=fA HF2.out #[.int .i64 0,.int .i64 0] 31;go_wp2_with (first
    | (refine lS (gN HF6 2) bl bh ?_)
    | (refine sW 2 HF4.out i_span fun w5 HF6=>?_;clear hw3 hg3))
  refine mB HF6.out (H2.out _) fun w7 HF8=>?_;go_wp2_with (refine sW 1 HF8.out i_span fun w9 HF10=>?_)
  refine ret_agg2 rfl rfl rfl (HF10.out.get 1 rfl) rfl u_span rfl i_span ?_
  exact HFIN.out _ HF10.out.drop
theorem up32_exact {n:Bool} {l:Nat} (h1:l≤18446744073709551615) (w:World):Calls Tryz.prog 186 #[.agg #[.bool n,.int .u64 0,.int .u64 l],.int .u64 32] w fun e w'=>e=.returned (.agg #[.bool n,.int .u64 ((l * 4294967296 / 18446744073709551616:Nat):Int),.int .u64 ((l * 4294967296 % 18446744073709551616:Nat):Int)])∧Below w.heap.size w w':=by
 have H2:=hZ h1;clear h1;go_enter Tryz.func186,Tryz.ntmps186;go_wp2_with fail
 refine ret_big rfl rfl rfl (Bk.newAt _ _ _ _ (by simp)) ⟨?_,((Below.refl _ w).alloc (Nat.le_refl _) _).alloc (by simp) _⟩
 have h1:=H2.out;have e1:bits .or .u64 0 ((l:Int) / 4294967296)=(l:Int) / 4294967296:=by
  rw [show (l:Int) / 4294967296=((l / 4294967296:Nat):Int) by omega]
  have:=bits_or_u64_nat 0 (l / 4294967296) (by omega) (by omega)
  rw [Nat.zero_or] at this;exact this
 unfold bigV;rw [e1,IntKind.wrap_u64,show ((l * 4294967296 / 18446744073709551616:Nat):Int)=(l:Int) / 4294967296 by omega,show ((l * 4294967296 % 18446744073709551616:Nat):Int)=(l:Int) * 4294967296 % 18446744073709551616 by omega]
def bitN:Nat→Nat
 | 0=>0
 | k+1=>2 ^ k
theorem or_add {r k:Nat} (hr:r % 2 ^ (k+1)=0) (h:r<2 ^ 49) (hk:k<49):bits .or .u64 (r:Int) ((2 ^ k:Nat):Int)=((r+2 ^ k:Nat):Int):=by
 have h2:2 ^ k<2 ^ (k+1):=Nat.pow_lt_pow_right (by decide) (by omega)
 have h3:2 ^ k≤2 ^ 48:=Nat.pow_le_pow_right (by decide) (by omega)
 rw [bits_or_u64_nat r (2 ^ k) (by omega) (by omega)]
 have e:r=2 ^ (k+1) * (r / 2 ^ (k+1)):=by have:=Nat.div_add_mod r (2 ^ (k+1));omega
 rw [e,Nat.two_pow_add_eq_or_of_lt h2]
theorem sq_split (p:Nat) (X:Nat) (_:p<2 ^ 50) (_:X<2 ^ 100) :
  ((p * p / 18446744073709551616<X / 18446744073709551616 ∨ p * p / 18446744073709551616=X / 18446744073709551616∧p * p % 18446744073709551616≤X % 18446744073709551616) ↔ p * p≤X):=by
 have h1:=Nat.div_add_mod (p * p) 18446744073709551616;have h2:=Nat.div_add_mod X 18446744073709551616;have h3:=Nat.mod_lt (p * p) (show 0<18446744073709551616 by decide)
 have h4:=Nat.mod_lt X (show 0<18446744073709551616 by decide)
 generalize p * p / 18446744073709551616=a at *
 generalize X / 18446744073709551616=b at *
 generalize p * p % 18446744073709551616=c at *
 generalize X % 18446744073709551616=d at *
 omega
structure RootI (W:World) (g:Nat) (t:Bool) (xh xl:Int) (X k r:Nat) (R:Nat) (w:World):Prop where
 fr:Fr W [] [(g,217,#[.bool t,.int .u64 xh,.int .u64 xl])] w
 val:rootK X k r=R
 low:r % 2 ^ k=0
 lt:r<2 ^ 49
theorem root_any (n:Nat) (hn:n≤9223372036854775807) (w:World) :
  Calls Tryz.prog 180 #[.int .i64 n] w fun e w'=>e=.returned (.tuple #[.int .u64 (rootN n),.bool (decide (rootN n * rootN n=n * 4294967296))])∧Below w.heap.size w w':=by
 have hof:=fun w=>of_any (n:Int) (by unfold I64;omega) w
 have hd:decide ((n:Int)<0)=false:=decide_eq_false (by omega)
 have hsz:sizeI (n:Int)=(n:Int):=by unfold sizeI;rw [if_neg (by omega)]
 rw [hd,hsz] at hof;unfold bigV at hof;have HOF:=hZ hof;have hup:=fun w=>up32_exact (n:=false) (l:=n) (by omega) w
 obtain ⟨X,hX⟩:=eX (n * 4294967296);have hXl:X<2 ^ 100:=by omega
 rw [hX] at hup ⊢;have HUP:=hZ hup;obtain ⟨xh,hxh⟩:∃ z:Int,((X / 18446744073709551616:Nat):Int)=z:=⟨_,rfl⟩;obtain ⟨xl,hxl⟩:∃ z:Int,((X % 18446744073709551616:Nat):Int)=z:=⟨_,rfl⟩;rw [hxh,hxl] at HUP;have HXH:=hZ hxh;have HXL:=hZ hxl;have HXB:=hZ hXl;obtain ⟨R,hR⟩:=eX (rootN n);have HR0:Hid (rootK X 49 0=R):=hZ (by rw [← hR,← hX];rfl)
 have HRL:Hid (R<2 ^ 49):=hZ (by
  rw [← hR];have h1:=(rootN_spec (n:=n) (by omega)).1
  have h2:rootN n * rootN n<2 ^ 49 * 2 ^ 49:=by omega
  exact sq_lt h2)
 rw [hR];refine pQ fun PQ hPQ=>?_
 have HFIN:Hid (∀ b w',b=decide (R * R=X)→Fr w [] [] w'→PQ (.returned (.tuple #[.int .u64 R,.bool b])) w'):=hZ fun b w' hb h=>by rw [← hPQ];exact ⟨by rw [hb],h.toBelow⟩
 clear hPQ hof hup hX hXl hxh hxl hR hd hsz hn;obtain ⟨qb,hqb⟩:=eX w.heap.size;have HF0:Hid (Fr w [] [] w):=hZ (Fr.start w);go_enter Tryz.func180,Tryz.ntmps180;clear hqb qb;go_wp2_with fail
 refine mB HF0.out (HOF.out _) fun w1 HF2=>?_;go_wp2_with fail
 refine mB HF2.out (HUP.out _) fun w3 HF4=>?_;obtain ⟨g5,w5,hg5,hw5,HF6⟩:=fA HF4.out #[.bool false,.int .u64 0,.int .u64 0] 217;go_wp2_with (refine sW 0 HF6.out i_big fun w7 HF8=>?_;clear hw5 hg5)
 have HI0:Hid (RootI w g5 false xh xl X 49 0 R w7):=hZ ⟨HF8.out,HR0.out,by decide,by decide⟩
 go_loopw [2,5] (fun rv bv wr=>∃ k r:Nat,k≤49∧rv=.int .u64 r∧bv=.int .u64 (bitN k:Nat)∧Hid (RootI w g5 false xh xl X k r R wr)) (fun _ bv _=>(intOf bv).toNat)
 case atStart=>exact ⟨49,0,by decide,rfl,rfl,HI0⟩
 case round =>
  obtain ⟨wo,rfl⟩:∃ wo:World,wo=wr:=⟨_,rfl⟩;obtain ⟨k,r,hk,rfl,rfl,hs⟩:=hrel;cases k with
  | zero =>
   have hb0:bitN 0=0:=rfl;rw [hb0];have HF:=hZ hs.out.fr;have hrR:r=R:=hs.out.val;clear hs hk hb0;have HRR:=HRL;subst hrR;have HM:=hZ (fun w=>Tryz.bits_Mul64 r r (by have:=HRL.out;omega) (by have:=HRL.out;omega) w)
   obtain ⟨mh,hmh⟩:∃ z:Int,((r * r / 18446744073709551616:Nat):Int)=z:=⟨_,rfl⟩;obtain ⟨ml,hml⟩:∃ z:Int,((r * r % 18446744073709551616:Nat):Int)=z:=⟨_,rfl⟩;rw [hmh,hml] at HM;have hEQ:decide (r * r=X)=((mh == xh) && (ml == xl)):=by
    have h1:=HXH.out;have h2:=HXL.out;rw [← hmh,← hml,← h1,← h2];generalize r * r=p
    rw [Bool.eq_iff_iff];simp only [decide_eq_true_eq,Bool.and_eq_true,beq_iff_eq];omega
   have HEQ:=hZ hEQ;clear hEQ hmh hml;go_wp2_with fail
   refine (HM.out _).mono ?_
   rintro e w9 ⟨rfl,rfl⟩;have c1:=cA (gN HF 0) 1;have c2:=cA (gN HF 0) 2;cases he1:(mh == xh) with
   | true =>
    rw [he1] at HEQ;go_upto_region 9 with (fail);go_region
    go_wp2_with fail
    exact HFIN.out _ _ (by rw [HEQ.out];rfl) (HF.out.drop.drewN 1)
   | false =>
    rw [he1] at HEQ;go_upto_region 9 with (fail);go_region
    go_wp2_with fail
    exact HFIN.out _ _ (by rw [HEQ.out];rfl) (HF.out.drop.drewN 1)
  | succ k =>
   have hb0:bitN (k+1)=2 ^ k:=rfl;rw [hb0];have hpos:0<2 ^ k:=Nat.two_pow_pos k;have hle:2 ^ k≤2 ^ 48:=Nat.pow_le_pow_right (by decide) (by omega)
   have hor:=or_add hs.out.low hs.out.lt (by omega)
   have hlow:=hs.out.low;have hlt:=hs.out.lt;have hval:=hs.out.val;have HF:=hZ hs.out.fr;rw [rootK_succ] at hval;have hr2:r+2 ^ k<2 ^ 49:=by
    have e1:=Nat.div_add_mod r (2 ^ (k+1));have e2:2 ^ 49=2 ^ (k+1) * 2 ^ (48 - k):=by rw [← Nat.pow_add];congr 1;omega
    have e3:r / 2 ^ (k+1)<2 ^ (48 - k):=Nat.div_lt_of_lt_mul (by rw [← e2];exact hlt)
    have e4:2 ^ (k+1) * (r / 2 ^ (k+1)+1)≤2 ^ (k+1) * 2 ^ (48 - k):=Nat.mul_le_mul_left _ e3;rw [Nat.mul_add,← e2] at e4;have e5:2 ^ k<2 ^ (k+1):=Nat.pow_lt_pow_right (by decide) (by omega)
    omega
   have hl1:(r+2 ^ k) % 2 ^ k=0:=by
    rw [Nat.add_mod_right];have e1:=Nat.div_add_mod r (2 ^ (k+1));have e2:2 ^ (k+1)=2 ^ k * 2:=Nat.pow_succ ..;rw [hlow,Nat.add_zero,e2,Nat.mul_assoc] at e1;rw [← e1,Nat.mul_mod_right]
   have hl0:r % 2 ^ k=0:=by rw [Nat.add_mod_right] at hl1;exact hl1
   have hnext:((2 ^ k:Nat):Int) / 2=(bitN k:Nat):=by
    cases k with
    | zero=>rfl
    | succ q=>show ((2 ^ (q+1):Nat):Int) / 2=((2 ^ q:Nat):Int);rw [Nat.pow_succ];omega
   have hdec:bitN k<2 ^ k:=by
    cases k with
    | zero=>decide
    | succ q=>exact Nat.pow_lt_pow_right (by decide) (by omega)
   obtain ⟨b,hb⟩:=eX (2 ^ k);obtain ⟨b2,hb2⟩:=eX (bitN k);obtain ⟨p,hp⟩:=eX (r+b);rw [hb] at hor hval hr2 hl1 hl0 hnext hpos hle hdec ⊢;rw [hb2] at hnext hdec;rw [hp] at hor hval hr2 hl1;have HM:=hZ (fun w=>Tryz.bits_Mul64 p p (by omega) (by omega) w)
   obtain ⟨mh,hmh⟩:∃ z:Int,((p * p / 18446744073709551616:Nat):Int)=z:=⟨_,rfl⟩;obtain ⟨ml,hml⟩:∃ z:Int,((p * p % 18446744073709551616:Nat):Int)=z:=⟨_,rfl⟩;rw [hmh,hml] at HM;have hcmp:=sq_split p X (by omega) HXB.out
   have hcmp2:(mh<xh ∨ mh=xh∧ml≤xl) ↔ p * p≤X:=by
    rw [← hcmp,← hmh,← hml,← HXH.out,← HXL.out];omega
   clear hcmp hmh hml;have hposI:(0:Int)<(b:Int):=by omega
   have HB:=hZ hb;have HB2:=hZ hb2;have HP:=hZ hp;have HYES:Hid (p * p≤X→∀ w',Fr w [] [(g5,217,#[.bool false,.int .u64 xh,.int .u64 xl])] w'→RootI w g5 false xh xl X k p R w'):=hZ fun h w' hf=>⟨hf,by rw [if_pos h] at hval;exact hval,by rw [hb];exact hl1,hr2⟩
   have HNO:Hid (¬ p * p≤X→∀ w',Fr w [] [(g5,217,#[.bool false,.int .u64 xh,.int .u64 xl])] w'→RootI w g5 false xh xl X k r R w'):=hZ fun h w' hf=>⟨hf,by rw [if_neg h] at hval;exact hval,by rw [hb];exact hl0,hlt⟩
   clear hb hb2 hp hval hl1 hl0 hlow hs hlt hr2 hle hb0 hpos;have HK:Hid (k+1≤49):=hZ hk;have HDEC:=hZ hdec;clear hk hdec;go_wp2_with fail
   refine (HM.out _).mono ?_
   rintro e w9 ⟨rfl,rfl⟩;clear HM;have c1:=cA (gN HF 0) 1;have c2:=cA (gN HF 0) 2;by_cases h1:mh<xh
   ·have hgood:p * p≤X:=hcmp2.1 (.inl h1);have g1:decide (mh<xh)=true:=decide_eq_true h1;clear hcmp2;go_wp2_with fail
    go_roundw
    case rel=>exact ⟨k,p,by have:=HK.out;omega,rfl,by rw [HB2.out],hZ (HYES.out hgood _ HF.out)⟩
    case measure=>have:=HDEC.out;simp [intOf];omega
   ·have g1:decide (mh<xh)=false:=decide_eq_false h1;by_cases h2:mh=xh
    ·have g2:(mh == xh)=true:=by simpa using h2
     by_cases h3:ml≤xl
     ·have hgood:p * p≤X:=hcmp2.1 (.inr ⟨h2,h3⟩);have g3:decide (ml≤xl)=true:=decide_eq_true h3;clear hcmp2 h2;go_wp2_with fail
      go_roundw
      case rel=>exact ⟨k,p,by have:=HK.out;omega,rfl,by rw [HB2.out],hZ (HYES.out hgood _ HF.out)⟩
      case measure=>have:=HDEC.out;simp [intOf];omega
     ·have hgood:¬ p * p≤X:=fun h=>by have:=hcmp2.2 h;omega
      have g3:decide (ml≤xl)=false:=decide_eq_false h3;clear hcmp2 h2;go_wp2_with fail
      go_roundw
      case rel=>exact ⟨k,r,by have:=HK.out;omega,rfl,by rw [HB2.out],hZ (HNO.out hgood _ HF.out)⟩
      case measure=>have:=HDEC.out;simp [intOf];omega
    ·have hgood:¬ p * p≤X:=fun h=>by have:=hcmp2.2 h;omega
     have g2:(mh == xh)=false:=by simpa using h2
     clear hcmp2;go_wp2_with fail
     go_roundw
     case rel=>exact ⟨k,r,by have:=HK.out;omega,rfl,by rw [HB2.out],hZ (HNO.out hgood _ HF.out)⟩
     case measure=>have:=HDEC.out;simp [intOf];omega
end Go.Proofs.YtmkoegljnebdiaaGreat
namespace Go.Proofs.YtmkoegljnebdiaaGreat
open Go.RowKit Go.Shelf
set_option maxRecDepth 100000
set_option maxHeartbeats 16000000

def noDefer (o:Oper):Bool:=match o.op with | .defer _=>false | _=>true
theorem Oper.wpIn_of_wp {P:Program} {Q:Exit→Act→World→Prop} {K:Act→World→Prop} {o:Oper} {a:Act} {w:World} (l₀ n:Nat) (hd:noDefer o=true) (h:o.wp P a w K Q):o.wpIn (Fence.wide.inRound l₀) n P a w K Q:=by
 unfold Oper.wp at h;unfold Oper.wpIn;refine ⟨fun _ _=>trivial,?_⟩
 rw [show (Fence.wide.inRound l₀).round=some l₀ from rfl,Oper.semAt_some l₀ _ _ (fun c hc=>by unfold noDefer at hd;rw [hc] at hd;cases hd)]
 generalize (execOp a.eval o).run P w=r at *
 cases r with
 | ok x w' =>
  cases x <;> simp only [Oper.upon] at h <;> simp only [Oper.uponIn]
  case value u=>exact h
  case skip=>exact h
  case defer d=>exact h
  case enter f args=>exact ⟨fun hs=>by simp [Fence.wide,Fence.inRound] at hs,(CallsIn.inRound l₀ (callsIn_wide.2 h)).mono fun e w'' he=>by cases e <;> exact he⟩
  case row r args=>exact ⟨fun hs=>by simp [Fence.wide,Fence.inRound] at hs,fun c cs _=>let ⟨v,w',q,s⟩:=h c cs;⟨v,w',q,stepsIn_wide.2 s⟩⟩
  all_goals exact absurd h (by simp)
 | halt x w'=>cases x <;> simp only [Oper.upon] at h <;> simp only [Oper.uponIn] <;> exact h
section
variable {l₀ n:Nat} {P:Program} {ops:Array Oper} {rest:List Oper} {o:Oper} {a:Act} {w:World} {Q:Exit→Act→World→Prop}
theorem wpListIn_of_wp (hgd:o.guard=none) (hd:noDefer o=true) (h:∀ K:Act→World→Prop,(∀ a' w',wpListIn (Fence.wide.inRound l₀) n P ops Q rest a' w'→K a' w')→o.wp P a w K Q):wpListIn (Fence.wide.inRound l₀) n P ops Q (o :: rest) a w :=
 wpListIn_plain hgd fun K hK=>Oper.wpIn_of_wp l₀ n hd (h K hK)
theorem wpLoadFI (hgd:o.guard=none) (ty:TypeId) (x:Operand) (ho:o.op=.load ty x)
  (g off:Nat) (hx:a.eval x=.pointer (some ⟨g,off,none⟩)) (t:TypeId) (cs:Array Value) (hk:Bk w g t cs) (S:Array Value) (hs:(cs.toList.drop off).take S.size=S.toList) (d:TypeDesc)
  (hu:P.underlying ty=some d) (hd:(match d with | .struct _ | .array _ _=>true | _=>false)=true) (hi:(P.info? ty).map (·.size)=some S.size)
  (h:wpListIn (Fence.wide.inRound l₀) n P ops Q rest (a.put o.dst (.agg S)) w):wpListIn (Fence.wide.inRound l₀) n P ops Q (o :: rest) a w :=
 wpListIn_of_wp hgd (by unfold noDefer;rw [ho]) fun _ hK=>wpo_loadF ty x ho g off hx t cs hk S hs d hu hd hi (hK _ _ h)
theorem wpStoreAtI (hgd:o.guard=none) (hdst:o.dst=none) (ty:TypeId) (x y:Operand) (ho:o.op=.store ty x y)
  (g off:Nat) (hx:a.eval x=.pointer (some ⟨g,off,none⟩)) (S:Array Value) (hy:a.eval y=.agg S) (t:TypeId) (cs:Array Value) (hb:Bk w g t cs)
  (hl:off+S.size≤cs.size) (h1:∀ u ∈ S.toList,u.oneCell'=true) (hi:(P.info? ty).map (·.size)=some S.size)
  (h:∀ w',Bk w' g t (splA cs off S.toList)→Only g w w'→wpListIn (Fence.wide.inRound l₀) n P ops Q rest a w'):wpListIn (Fence.wide.inRound l₀) n P ops Q (o :: rest) a w :=
 wpListIn_of_wp hgd (by unfold noDefer;rw [ho]) fun _ hK=>wpo_storeS ty x y ho hdst g off hx S hy t cs hb hl h1 hi fun w' h2 h3=>by
  have:=hK _ _ (h w' h2 h3)
  simpa [hdst,Act.put] using this
theorem wpStoreFI (hgd:o.guard=none) (hdst:o.dst=none) (ty:TypeId) (x y:Operand) (ho:o.op=.store ty x y)
  (g off:Nat) (hx:a.eval x=.pointer (some ⟨g,off,none⟩)) (S:Array Value) (hy:a.eval y=.agg S) (t:TypeId) (cs R:Array Value) (hb:Bk w g t cs) (hR:cs.toList.take off ++ S.toList ++ cs.toList.drop (off+S.size)=R.toList)
  (hl:off+S.size≤cs.size) (h1:∀ u ∈ S.toList,u.oneCell'=true) (hi:(P.info? ty).map (·.size)=some S.size)
  (h:∀ w',Bk w' g t R→Only g w w'→wpListIn (Fence.wide.inRound l₀) n P ops Q rest a w'):wpListIn (Fence.wide.inRound l₀) n P ops Q (o :: rest) a w :=
 wpStoreAtI hgd hdst ty x y ho g off hx S hy t cs hb hl h1 hi fun w' hk ho=>h w' (hk.spl hl hR) ho
theorem wpStoreCellI (hgd:o.guard=none) (hdst:o.dst=none) (ty:TypeId) (x y:Operand) (ho:o.op=.store ty x y)
  (g off:Nat) (hx:a.eval x=.pointer (some ⟨g,off,none⟩)) (u:Value) (hy:a.eval y=u) (t:TypeId) (cs:Array Value) (hb:Bk w g t cs)
  (hl:off<cs.size) (h1:u.oneCell'=true) (hi:(P.info? ty).map (·.size)=some 1)
  (h:∀ w',Bk w' g t (cs.setIfInBounds off u)→Only g w w'→wpListIn (Fence.wide.inRound l₀) n P ops Q rest a w'):wpListIn (Fence.wide.inRound l₀) n P ops Q (o :: rest) a w :=
 wpListIn_of_wp hgd (by unfold noDefer;rw [ho]) fun _ hK=>wpo_storeCell ty x y ho hdst g off hx u hy t cs hb hl h1 hi fun w' h2 h3=>by
  have:=hK _ _ (h w' h2 h3)
  simpa [hdst,Act.put] using this
end
def KeepL (Ks:List Nat) (w w':World):Prop:=∀ b,b ∈ Ks→w'.heap[b]?=w.heap[b]?
theorem KeepL.refl (Ks:List Nat) (w:World):KeepL Ks w w:=fun _ _=>rfl
theorem KeepL.trans {Ks:List Nat} {a b c:World} (h:KeepL Ks a b) (k:KeepL Ks b c):KeepL Ks a c:=fun x hx=>(k x hx).trans (h x hx)
theorem KeepL.drewN {Ks:List Nat} {a b:World} (h:KeepL Ks a b) (m:Nat):KeepL Ks a (b.drewN m):=fun x hx=>h x hx
theorem KeepL.below {Ks:List Nat} {a b:World} {n₀:Nat} (h:Below n₀ a b) (hk:∀ x,x ∈ Ks→x<n₀):KeepL Ks a b:=fun x hx=>h.block x (hk x hx)
theorem KeepL.cell {Ks:List Nat} {a b:World} (h:KeepL Ks a b) {p:Addr} (hp:p.block ∈ Ks):b.cell? p=a.cell? p:=World.cell?_of_block (h _ hp)
theorem keepL_b {Ks:List Nat} {w:World} (h:∀ x,x ∈ Ks→x<w.heap.size) (W:World) (l:Nat) (o o':Obj) (hl:w.heap.size≤l) (_:W.heap[l]?=some o) (_:o.isCells=false) (_:o.isWalk=false):KeepL Ks W (W.putObj l o') :=
 fun x hx=>World.putObj_heap_other (by have:=h x hx;omega)
section
variable {W w w':World} {O N O1 N1:List Ent}
theorem Bk.turned {g:Nat} {t:TypeId} {cs:Array Value} {row:Option Nat} (h:Bk w g t cs) (hg:w.grownBy w' row) (hr:∀ r,row=some r→∃ o:Obj,w.heap[r]?=some o∧o.isCells=false):Bk w' g t cs :=
 (hg.block g h.lt fun e=>by
  obtain ⟨o,ho,hx⟩:=hr g e.symm;rw [show w.heap[g]?=_ from h] at ho
  cases ho;cases hx).trans h
theorem Fr.turned {B:Nat} (h:Fr W O N w) {row:Option Nat} (hB:W.heap.size≤B) (hg:w.grownBy w' row) (hr:∀ r,row=some r→B≤r∧∃ o:Obj,w.heap[r]?=some o∧o.isCells=false):Fr W O N w' :=
 ⟨hg.os.trans h.os,hg.tape.trans h.tape,hg.output.trans h.output,Nat.le_trans h.size hg.size,fun c hc hx=>(hg.block c (Nat.lt_of_lt_of_le hc h.size) (fun e=>by have:=(hr c e.symm).1;omega)).trans (h.far c hc hx),
  fun x hx=>⟨(h.old x hx).1,(h.old x hx).2.turned hg fun r e=>(hr r e).2⟩,fun x hx=>⟨(h.new x hx).1,(h.new x hx).2.turned hg fun r e=>(hr r e).2⟩,h.ndO,h.ndN⟩
theorem Fr.putObj (h:Fr W O N w) {D:Nat} {o:Obj} (o':Obj) (hB:W.heap.size≤D) (hD:w.heap[D]?=some o) (ho:o.isCells=false):Fr W O N (w.putObj D o') :=
 h.turned hB (grownBy_putObj' w D o') fun r e=>by cases e;exact ⟨Nat.le_refl _,o,hD,ho⟩
theorem Fr.keepsOthers (h:Fr W O N w) (hO:∀ x ∈ O,∃ t cs,Bk W x.1 t cs):KeepsOthers W w :=
 ⟨h.size,fun k o hk ho=>by
  have hkl:k<W.heap.size:=(Array.getElem?_eq_some_iff.1 hk).1;refine (h.far k hkl fun hm=>?_).trans hk
  obtain ⟨x,hx,rfl⟩:=List.mem_map.1 hm;obtain ⟨t,cs,hb⟩:=hO x hx;rw [show W.heap[x.1]?=_ from hb] at hk
  cases hk;cases ho⟩
theorem Fr.keepL {Ks:List Nat} (h:Fr W O N w) (hK:∀ b ∈ Ks,b<W.heap.size∧b ∉ O.map (·.1)):KeepL Ks W w:=fun b hb=>h.far b (hK b hb).1 (hK b hb).2
theorem Fr.startL (hb:∀ x ∈ O,Bk W x.1 x.2.1 x.2.2) (hn:(O.map (·.1)).Nodup):Fr W O [] W :=
 ⟨rfl,rfl,rfl,Nat.le_refl _,fun _ _ _=>rfl,fun x hx=>⟨(hb x hx).lt,hb x hx⟩,fun _ h=>(List.not_mem_nil h).elim,hn,List.nodup_nil⟩
end
def updF:List Bool→List Ent→List Ent→List Ent
 | true :: bs,_ :: N,y :: O1=>y :: updF bs N O1
 | false :: bs,x :: N,O1=>x :: updF bs N O1
 | _,N,_=>N
def KeysOk:List Bool→List Ent→List Ent→Prop
 | true :: bs,x :: N,y :: O1=>x.1=y.1∧KeysOk bs N O1
 | false :: bs,_ :: N,O1=>KeysOk bs N O1
 | _,_,[]=>True
 | _,_,_=>False
theorem keys_sub:∀ (bs:List Bool) (N O1:List Ent),KeysOk bs N O1→∀ k ∈ O1.map (·.1),k ∈ N.map (·.1)
 | true :: bs,x :: N,y :: O1,h,k,hk=>by
  rw [List.map_cons,List.mem_cons] at hk ⊢;rcases hk with rfl | hk
  ·exact .inl h.1.symm
  ·exact .inr (keys_sub bs N O1 h.2 k hk)
 | false :: bs,x :: N,O1,h,k,hk=>by
  rw [List.map_cons,List.mem_cons];cases O1 with
  | nil=>simp at hk
  | cons y O1=>exact .inr (keys_sub bs N (y :: O1) h k hk)
 | _,_,[],_,k,hk=>by simp at hk
 | [],N,y :: O1,h,_,_=>h.elim
 | true :: bs,[],y :: O1,h,_,_=>h.elim
 | false :: bs,[],y :: O1,h,_,_=>h.elim
theorem updF_keys:∀ (bs:List Bool) (N O1:List Ent),KeysOk bs N O1→(updF bs N O1).map (·.1)=N.map (·.1)
 | true :: bs,x :: N,y :: O1,h=>by
  show y.1 :: (updF bs N O1).map (·.1)=_
  rw [updF_keys bs N O1 h.2,← h.1];rfl
 | false :: bs,x :: N,[],h=>by
  show x.1 :: (updF bs N []).map (·.1)=_
  rw [updF_keys bs N [] h];rfl
 | false :: bs,x :: N,y :: O1,h=>by
  show x.1 :: (updF bs N (y :: O1)).map (·.1)=_
  rw [updF_keys bs N (y :: O1) h];rfl
 | true :: bs,x :: N,[],_=>rfl
 | true :: bs,[],O1,h=>by cases O1 <;> rfl
 | false :: bs,[],O1,h=>by cases O1 <;> rfl
 | [],N,O1,h=>by cases N <;> cases O1 <;> rfl
theorem updF_mem:∀ (bs:List Bool) (N O1:List Ent),KeysOk bs N O1→(N.map (·.1)).Nodup→∀ x ∈ updF bs N O1,x ∈ O1 ∨ (x ∈ N∧x.1 ∉ O1.map (·.1))
 | true :: bs,z :: N,y :: O1,h,hn,x,hx=>by
  rw [List.map_cons,List.nodup_cons] at hn;rcases List.mem_cons.1 hx with rfl | hx
  ·exact .inl (List.mem_cons_self ..)
  ·rcases updF_mem bs N O1 h.2 hn.2 x hx with h1 | ⟨h1,h2⟩
   ·exact .inl (List.mem_cons_of_mem _ h1)
   ·refine .inr ⟨List.mem_cons_of_mem _ h1,fun hm=>?_⟩
    rw [List.map_cons,List.mem_cons] at hm;rcases hm with hm | hm
    ·exact hn.1 (by rw [h.1,← hm];exact List.mem_map.2 ⟨x,h1,rfl⟩)
    ·exact h2 hm
 | false :: bs,z :: N,[],h,hn,x,hx=>by
  rw [List.map_cons,List.nodup_cons] at hn;rcases List.mem_cons.1 hx with rfl | hx
  ·exact .inr ⟨List.mem_cons_self ..,by simp⟩
  ·rcases updF_mem bs N [] h hn.2 x hx with h1 | ⟨h1,h2⟩
   ·exact .inl h1
   ·exact .inr ⟨List.mem_cons_of_mem _ h1,h2⟩
 | false :: bs,z :: N,y :: O1,h,hn,x,hx=>by
  rw [List.map_cons,List.nodup_cons] at hn;rcases List.mem_cons.1 hx with rfl | hx
  ·exact .inr ⟨List.mem_cons_self ..,fun hm=>hn.1 (keys_sub bs N (y :: O1) h _ hm)⟩
  ·rcases updF_mem bs N (y :: O1) h hn.2 x hx with h1 | ⟨h1,h2⟩
   ·exact .inl h1
   ·exact .inr ⟨List.mem_cons_of_mem _ h1,h2⟩
 | true :: bs,z :: N,[],_,_,x,hx=>.inr ⟨hx,by simp⟩
 | true :: bs,[],[],_,_,x,hx=>by cases hx
 | true :: bs,[],y :: O1,h,_,x,hx=>h.elim
 | false :: bs,[],[],_,_,x,hx=>by cases hx
 | false :: bs,[],y :: O1,h,_,x,hx=>h.elim
 | [],N,[],_,_,x,hx=>.inr ⟨by cases N <;> exact hx,by simp⟩
 | [],N,y :: O1,h,_,x,hx=>by cases N <;> exact h.elim
theorem Fr.turns {W w w':World} {O N O1 N1:List Ent} (h:Fr W O N w) (bs:List Bool) (k:Fr w O1 N1 w') (hk:KeysOk bs N O1):Fr W O (updF bs N O1) w':=by
 have hsub:=keys_sub bs N O1 hk;have hge:∀ c ∈ O1.map (·.1),W.heap.size≤c:=fun c hc=>by
  obtain ⟨x,hx,rfl⟩:=List.mem_map.1 (hsub c hc);exact (h.new x hx).1
 refine ⟨k.os.trans h.os,k.tape.trans h.tape,k.output.trans h.output,Nat.le_trans h.size k.size,fun c hc hx=>?_,fun x hx=>⟨(h.old x hx).1,?_⟩,fun x hx=>?_,h.ndO,by rw [updF_keys bs N O1 hk];exact h.ndN⟩
 ·exact (k.far c (Nat.lt_of_lt_of_le hc h.size) (fun hm=>by have:=hge c hm;omega)).trans (h.far c hc hx)
 ·exact (k.far x.1 (h.old x hx).2.lt (fun hm=>by have:=hge x.1 hm;have:=(h.old x hx).1;omega)).trans (h.old x hx).2
 ·rcases updF_mem bs N O1 hk h.ndN x hx with h1 | ⟨h1,h2⟩
  ·exact ⟨hge x.1 (List.mem_map.2 ⟨x,h1,rfl⟩),(k.old x h1).2⟩
  ·exact ⟨(h.new x h1).1,(k.far x.1 (h.new x h1).2.lt h2).trans (h.new x h1).2⟩
theorem Fr.more {W w w':World} {O N N1:List Ent} (h:Fr W O N w) (k:Fr w [] N1 w'):Fr W O (N ++ N1) w':=by
 have h1:=h.below k.toBelow;refine ⟨h1.os,h1.tape,h1.output,h1.size,h1.far,h1.old,fun x hx=>?_,h.ndO,?_⟩
 ·rcases List.mem_append.1 hx with hx | hx
  ·exact h1.new x hx
  ·exact ⟨Nat.le_trans h.size (k.new x hx).1,(k.new x hx).2⟩
 ·rw [List.map_append,List.nodup_append];refine ⟨h.ndN,k.ndN,fun a ha c hc=>?_⟩
  obtain ⟨x,hx,rfl⟩:=List.mem_map.1 ha;obtain ⟨y,hy,rfl⟩:=List.mem_map.1 hc;have h2:=(h.new x hx).2.lt;have h3:=(k.new y hy).1;omega
theorem anyW.inR {P:Program} {Q:Exit→Act→World→Prop} {ops:Array Oper} (l₀ n:Nat) (hd:∀ (i:Nat) (o:Oper),ops[i]?=some o→noDefer o=true):∀ {fuel:Nat} {li:Array Bool} {a:Act} {w:World},anyW P ops Q fuel li a w→wpAnyIn (Fence.wide.inRound l₀) n P .any ops Q fuel li a w
 | 0,_,_,_,h=>h
 | fuel+1,li,a,w,h=>⟨h.1,fun i hi=>by
  have h2:=h.2 i hi;unfold opW at h2;unfold wpOpIn;cases ho:ops[i]? with
  | none=>rw [ho] at h2;exact anyW.inR l₀ n hd h2
  | some o =>
   rw [ho] at h2;dsimp only at h2 ⊢;split at h2
   ·rename_i hw;rw [if_pos hw];exact Oper.wpIn_of_wp l₀ n (hd i o ho) (Oper.wp_mono (fun a w h=>anyW.inR l₀ n hd h) h2)
   ·rename_i hw;rw [if_neg hw];exact ⟨fun _ _=>trivial,anyW.inR l₀ n hd h2⟩⟩
end Go.Proofs.YtmkoegljnebdiaaGreat
namespace Go.Proofs.YtmkoegljnebdiaaGreat
open Go.RowKit Go.Shelf
set_option maxRecDepth 100000
set_option maxHeartbeats 16000000
attribute [local go_sem] Oper.semAt_some

theorem rootN_lt {n:Nat} (h:n≤9223372036854775807):rootN n<2 ^ 49:=by
 have h1:=(rootN_spec (n:=n) (by omega)).1
 have h2:rootN n * rootN n<2 ^ 49 * 2 ^ 49:=by omega
 exact sq_lt h2
theorem rootS_any (a:SpanD) (ha:WdS a) (w:World):Calls Tryz.prog 141 #[spanV a] w (SpPost (rootB a) w.heap.size w):=by
 have H1:=hZ (fun w=>check_any a w);have HFIN:Hid (∀ w',Fr w [] [] w'→SpPost (rootB a) w.heap.size w (.returned (.tuple #[.agg #[.int .i64 (rootB a).1.lo,.int .i64 (rootB a).1.hi],.int .i64 (rootB a).2])) w'):=hZ fun w' h=>⟨rfl,h.toBelow⟩;cases hc:chkB a with
 | false =>
  have h1:errC a=2:=by unfold errC;rw [hc];rfl
  have hs:rootB a=(zeroS,2):=by unfold rootB;rw [hc];rfl
  rw [h1] at H1;rw [hs] at HFIN ⊢;obtain ⟨al,ah⟩:=a;clear hc hs ha h1;unfold spanV at H1 ⊢;dsimp only [zeroS] at H1 HFIN ⊢;obtain ⟨qb,W0,hqb,hW0,HF0⟩:=fM (Fr.start w) [(#[al,ah],31),(#[.int .i64 0,.int .i64 0],31)];go_enter Tryz.func141,Tryz.ntmps141;go_upto_region 1 with (fail);clear hW0 hqb;go_wp2_with (refine lS (gN HF0 0) al ah ?_)
  refine mB HF0.out (H1.out _) fun w1 HF2=>?_;go_wp2_with (refine sW 1 HF2.out i_span fun w3 HF4=>?_)
  refine ret_agg2 rfl rfl rfl (HF4.out.get 1 rfl) rfl u_span rfl i_span ?_
  exact HFIN.out _ HF4.out.drop
 | true =>
  have h1:errC a=0:=by unfold errC;rw [hc];rfl
  rw [h1] at H1;by_cases hneg:a.hi<0
  ·have hs:rootB a=(zeroS,4):=by unfold rootB;rw [hc,if_pos rfl,if_pos hneg]
   rw [hs] at HFIN ⊢;obtain ⟨al,ah⟩:=a;have g1:decide (ah<0)=true:=decide_eq_true hneg;clear hc hs ha h1 hneg;unfold spanV at H1 ⊢;dsimp only [zeroS] at H1 HFIN ⊢;obtain ⟨qb,W0,hqb,hW0,HF0⟩:=fM (Fr.start w) [(#[al,ah],31),(#[.int .i64 0,.int .i64 0],31)];go_enter Tryz.func141,Tryz.ntmps141;go_upto_region 1 with (fail);clear hW0 hqb;go_wp2_with (refine lS (gN HF0 0) al ah ?_)
   refine mB HF0.out (H1.out _) fun w1 HF2=>?_;have c3:=cA (gN HF2 0) 1;go_wp2_with (refine sW 1 HF2.out i_span fun w4 HF5=>?_;clear c3)
   refine ret_agg2 rfl rfl rfl (HF5.out.get 1 rfl) rfl u_span rfl i_span ?_
   exact HFIN.out _ HF5.out.drop
  ·have hs:rootB a=(⟨rootN (max a.lo 0).toNat,if rootN a.hi.toNat * rootN a.hi.toNat=a.hi.toNat * 4294967296 then rootN a.hi.toNat else rootN a.hi.toNat+1⟩,0):=by unfold rootB;rw [hc,if_pos rfl,if_neg hneg]
   rw [hs] at HFIN ⊢;obtain ⟨al,ah⟩:=a;have g1:decide (ah<0)=false:=decide_eq_false hneg;obtain ⟨⟨a1,a2⟩,a3,a4⟩:=ha;dsimp only at hneg a1 a2 a3 a4;have HR1:=fun w=>root_any (max al 0).toNat (by omega) w
   have HR2:=fun w=>root_any ah.toNat (by omega) w
   have l1:=rootN_lt (n:=(max al 0).toNat) (by omega)
   have l2:=rootN_lt (n:=ah.toNat) (by omega)
   rw [show (((max al 0).toNat:Nat):Int)=max al 0 by omega] at HR1
   rw [show ((ah.toNat:Nat):Int)=ah by omega] at HR2
   replace HR1:=hZ HR1;replace HR2:=hZ HR2;obtain ⟨r1,hr1⟩:=eX (rootN (max al 0).toNat);obtain ⟨r2,hr2⟩:=eX (rootN ah.toNat);obtain ⟨b1,hb1⟩:∃ b,decide (r1 * r1=(max al 0).toNat * 4294967296)=b:=⟨_,rfl⟩;dsimp only at HFIN ⊢;rw [hr1] at HR1 HFIN l1 ⊢;rw [hr2] at HR2 HFIN l2 ⊢;rw [hb1] at HR1;have m1:IntKind.i64.wrap (r1:Int)=(r1:Int):=IntWalk.i64_in _ (by omega)
   have m1':wrap64 (r1:Int)=(r1:Int):=w64_in (by omega) (by omega)
   unfold spanV at H1 ⊢;dsimp only at H1 ⊢;by_cases hex:r2 * r2=ah.toNat * 4294967296
   ·rw [decide_eq_true hex] at HR2;rw [if_pos hex] at HFIN ⊢;have m2:IntKind.i64.wrap (r2:Int)=(r2:Int):=IntWalk.i64_in _ (by omega)
    have m2':wrap64 (r2:Int)=(r2:Int):=w64_in (by omega) (by omega)
    clear hc hs h1 hneg a1 a2 a3 a4 hr1 hr2 hb1 hex l1 l2;obtain ⟨qb,W0,hqb,hW0,HF0⟩:=fM (Fr.start w) [(#[al,ah],31),(#[.int .i64 0,.int .i64 0],31)];go_enter Tryz.func141,Tryz.ntmps141;go_upto_region 1 with (fail);clear hW0 hqb;go_wp2_with (refine lS (gN HF0 0) al ah ?_)
    refine mB HF0.out (H1.out _) fun w1 HF2=>?_;have c3:=cA (gN HF2 0) 1;have c4:=cA (gN HF2 0) 0;go_wp2_with fail
    clear c3 c4;refine mB HF2.out (HR1.out _) fun w5 HF6=>?_;have c7:=cA (gN HF6 0) 1;go_wp2_with fail
    clear c7;refine mB HF6.out (HR2.out _) fun w8 HF9=>?_;go_wp2_with (refine sF 1 (iC [(r1:Int),(r2:Int)]) HF9.out i_span fun w10 HF11=>?_)
    refine ret_agg2 rfl rfl rfl (HF11.out.get 1 rfl) rfl u_span rfl i_span ?_
    exact HFIN.out _ HF11.out.drop
   ·rw [decide_eq_false hex] at HR2;rw [if_neg hex] at HFIN ⊢;obtain ⟨q,hq⟩:∃ q:Int,(r2:Int)+1=q:=⟨_,rfl⟩;rw [hq] at HFIN ⊢;have m2:IntKind.i64.wrap q=q:=IntWalk.i64_in _ (by omega)
    have m2':wrap64 q=q:=w64_in (by omega) (by omega)
    have m3:IntKind.u64.wrap ((r2:Int)+1)=q:=by rw [IntKind.wrap_u64];omega
    clear hq hc hs h1 hneg a1 a2 a3 a4 hr1 hr2 hb1 hex l1 l2;obtain ⟨qb,W0,hqb,hW0,HF0⟩:=fM (Fr.start w) [(#[al,ah],31),(#[.int .i64 0,.int .i64 0],31)];go_enter Tryz.func141,Tryz.ntmps141;go_upto_region 1 with (fail);clear hW0 hqb;go_wp2_with (refine lS (gN HF0 0) al ah ?_)
    refine mB HF0.out (H1.out _) fun w1 HF2=>?_;have c3:=cA (gN HF2 0) 1;have c4:=cA (gN HF2 0) 0;go_wp2_with fail
    clear c3 c4;refine mB HF2.out (HR1.out _) fun w5 HF6=>?_;have c7:=cA (gN HF6 0) 1;go_wp2_with fail
    clear c7;refine mB HF6.out (HR2.out _) fun w8 HF9=>?_;go_wp2_with (refine sF 1 (iC [(r1:Int),q]) HF9.out i_span fun w10 HF11=>?_)
    refine ret_agg2 rfl rfl rfl (HF11.out.get 1 rfl) rfl u_span rfl i_span ?_
    exact HFIN.out _ HF11.out.drop
theorem few1_any (w:World) (gl:Nat) (t:TypeId) (A:Option Addr) (n c:Nat) (v:Nat→SpanD) (hk:Bk w gl t #[.slice A n c]) (h:SpansAt w w.heap.size A n v) (hn:n≤64) :
  Calls Tryz.prog 160 #[.slice (some ⟨gl,0,none⟩) 1 1] w fun e w'=>e=.returned (.int .i64 (if (allN n fun i=>chkB (v i))=true then 0 else 2))∧Below w.heap.size w w':=by
 have HK:=hZ hk;have HS:=hZ h;have HCK:=hZ (checked_any w A n c v h (by omega))
 obtain ⟨R,hR⟩:∃ R:Int,(if (allN n fun i=>chkB (v i))=true then (0:Int) else 2)=R:=⟨_,rfl⟩;rw [hR] at HCK ⊢;have HR:=hZ hR;refine pQ fun PQ hPQ=>?_
 have HFIN:Hid (∀ r w',r=R→Below w.heap.size w w'→PQ (.returned (.int .i64 r)) w'):=hZ fun r w' hr hw=>by rw [← hPQ];exact ⟨by rw [hr],hw⟩
 have hn64:¬ (64:Int)<(n:Int):=by omega
 clear hk h hR hPQ hn;go_enter Tryz.func160,Tryz.ntmps160;go_wp2_with fail
 go_loopw [10] (fun iv wr=>∃ k:Nat,k≤1∧iv=.int .i64 k∧Hid (wr=w)) (fun iv _=>1 - (intOf iv).toNat)
 case atStart=>exact ⟨0,Nat.zero_le _,rfl,hZ (by simp)⟩
 case round =>
  obtain ⟨k,hk,rfl,hs⟩:=hrel;obtain rfl:=hs.out;match k,hk with
  | 0,_ =>
   have c0:=cA HK.out 0;go_wp2_with fail
   go_roundw
   case rel=>exact ⟨1,by omega,rfl,hZ (by simp)⟩
   case measure=>simp [intOf]
  | 1,_ =>
   obtain ⟨wo,rfl⟩:∃ u:World,u=wr:=⟨_,rfl⟩;go_wp2_with fail
   go_loopw [20] (fun iv w1=>∃ k:Nat,k≤1∧iv=.int .i64 k∧Hid (Below wo.heap.size wo w1∧(k=0→w1=wo)∧(k=1→R=0))) (fun iv _=>1 - (intOf iv).toNat)
   case atStart=>exact ⟨0,Nat.zero_le _,rfl,hZ ⟨Below.refl _ _,fun _=>rfl,fun h=>absurd h (by decide)⟩⟩
   case round =>
    obtain ⟨k,hk,rfl,hs⟩:=hrel;match k,hk with
    | 0,_ =>
     obtain rfl:=hs.out.2.1 rfl;have c0:=cA HK.out 0;clear hs;go_wp2_with fail
     refine HCK.out.mono ?_
     rintro e w2 ⟨rfl,hw2⟩;have HW2:=hZ hw2;clear hw2 c0;have hRR:R=0 ∨ R=2:=by have:=HR.out;split at this <;> omega
     rcases hRR with rfl | rfl
     ·go_wp2_with fail
      go_roundw
      case rel=>exact ⟨1,by omega,rfl,hZ ⟨HW2.out,by simp,by simp⟩⟩
      case measure=>simp [intOf]
     ·go_wp2_with fail
      exact HFIN.out _ _ rfl HW2.out
    | 1,_ =>
     go_wp2_with fail
     exact HFIN.out _ _ (hs.out.2.2 (by simp)).symm hs.out.1
end Go.Proofs.YtmkoegljnebdiaaGreat
namespace Go.Proofs.YtmkoegljnebdiaaGreat
open Go.RowKit Go.Shelf
set_option maxRecDepth 100000
set_option maxHeartbeats 16000000
attribute [local go_sem] Oper.semAt_some

def Fin.vals {n:Nat} (l:List (Fin n)):List Nat:=l.map Fin.val
theorem all_any (A:Option Addr) (n c:Nat) (w:World) :
  Calls Tryz.prog 162 #[.slice A n c] w fun e w'=>e=.returned (.func (.func 187) #[] #[.pointer (some ⟨w.heap.size,0,none⟩)])∧w'=w.alloc (.cells #[.slice A n c] 185):=by
 go_enter Tryz.func162,Tryz.ntmps162;go_wp2_with fail
 go_ret
 exact ⟨by simp,rfl⟩
theorem wpLoadFW {n:Nat} {P:Program} {ops:Array Oper} {rest:List Oper} {o:Oper} {a:Act} {w:World} {Q:Exit→Act→World→Prop} (hgd:o.guard=none) (ty:TypeId) (x:Operand) (ho:o.op=.load ty x)
  (g off:Nat) (hx:a.eval x=.pointer (some ⟨g,off,none⟩)) (S:Array Value) (d:TypeDesc) (hc:∀ j u,S[j]?=some u→w.cell? ⟨g,off+j,none⟩=some u)
  (hu:P.underlying ty=some d) (hd:(match d with | .struct _ | .array _ _=>true | _=>false)=true) (hi:(P.info? ty).map (·.size)=some S.size)
  (h:wpListIn Fence.wide n P ops Q rest (a.put o.dst (.agg S)) w):wpListIn Fence.wide n P ops Q (o :: rest) a w :=
 wpListIn_plain hgd fun K hK=>by
  have h1:o.wp P a w K Q:=wpo_loadS ty x ho g off hx S d hc hu hd hi (hK _ _ h);unfold Oper.wp at h1;unfold Oper.wpIn;refine ⟨fun _ _=>trivial,?_⟩
  rw [show Fence.wide.round=none from rfl,Oper.semAt_none]
  generalize (execOp a.eval o).run P w=r at *
  cases r with
  | ok x w' =>
   cases x <;> simp only [Oper.upon] at h1 <;> simp only [Oper.uponIn]
   case value u=>exact h1
   case skip=>exact h1
   case defer d=>exact h1
   case enter f args=>exact ⟨fun hs=>by simp [Fence.wide] at hs,(callsIn_wide.2 h1).mono fun e w'' he=>by cases e <;> exact he⟩
   case row r args=>exact ⟨fun hs=>by simp [Fence.wide] at hs,fun c cs _=>let ⟨v,w',q,s⟩:=h1 c cs;⟨v,w',q,stepsIn_wide.2 s⟩⟩
   all_goals exact absurd h1 (by simp)
  | halt x w'=>cases x <;> simp only [Oper.upon] at h1 <;> simp only [Oper.uponIn] <;> exact h1

theorem all1_in (l Bs g off n c:Nat) (v:Nat→SpanD) (hn:n≤4096) (J Jx:List (Fin n)→World→Prop)
  (hY:∀ pre x W,J pre W→pre.length<n→YieldAt Fence.wide 4 Tryz.prog l #[.int .i64 (x.val:Int),spanV (v x.val)] W fun e W' =>
   (e=.returned (.bool true)∧J (pre ++ [x]) W'∧KeepL [Bs,g] W W') ∨ (e=.returned (.bool false)∧Jx (pre ++ [x]) W'))
  (W:World) (hbs:W.cell? ⟨Bs,0,none⟩=some (.slice (some ⟨g,off,none⟩) n c)) (hc:∀ i,i<n→W.cell? ⟨g,off+i * 2,none⟩=some (.int .i64 (v i).lo)∧W.cell? ⟨g,off+i * 2+1,none⟩=some (.int .i64 (v i).hi)) (h0:J [] W) :
  CallsIn Fence.wide 5 Tryz.prog 187 #[.func (.yield l) #[] #[],.pointer (some ⟨Bs,0,none⟩)] W fun e W'=>(∃ v,e=.returned v) ∧
   ((∃ ys,Fin.vals ys=List.range n∧J ys W') ∨ (∃ pre,Fin.vals pre <+: List.range n∧pre ≠ []∧Jx pre W')):=by
 refine callsIn_of_wp Tryz.func187 rfl trivial ?_ rfl
 simp only [Tryz.ntmps187,List.size_toArray,List.length_cons,List.length_nil,Nat.reduceAdd,Nat.reduceSub,Array.replicate_succ,Array.replicate_zero,List.push_toArray,List.append_toArray,List.nil_append,List.cons_append];have HC:=hZ hc;clear hc;gi_wp2
 gi_loopw [6] (fun p wr=>∃ (k:Nat) (ys:List (Fin n)),k≤n∧p=.int .i64 (k:Int)∧Hid (Fin.vals ys=List.range k∧J ys wr∧KeepL [Bs,g] W wr))
  (fun p _=>n - (intOf p).toNat)
 case atStart=>exact ⟨0,[],Nat.zero_le _,rfl,hZ ⟨rfl,h0,KeepL.refl _ _⟩⟩
 case round =>
  obtain ⟨k,ys,hk,rfl,hs'⟩:=hrel;have fs:wr.cell? ⟨Bs,0,none⟩=some (.slice (some ⟨g,off,none⟩) n c):=(hs'.out.2.2.cell (p:=⟨Bs,0,none⟩) (by simp)).trans hbs
  by_cases hlt:k<n
  ·have hki:(k:Int)<(n:Int):=by omega
   have h0k:(0:Int)≤(k:Int):=by omega
   have HCK:Hid (∀ j u,(#[Value.int .i64 (v k).lo,.int .i64 (v k).hi])[j]?=some u→wr.cell? ⟨g,off+k * 2+j,none⟩=some u):=hZ fun j u hj=>by
    match j,hj with
    | 0,hj=>simp at hj;subst hj;exact (hs'.out.2.2.cell (p:=⟨g,off+k * 2,none⟩) (by simp)).trans (HC.out k hlt).1
    | 1,hj=>simp at hj;subst hj;exact (hs'.out.2.2.cell (p:=⟨g,off+k * 2+1,none⟩) (by simp)).trans (HC.out k hlt).2
    | j+2,hj=>simp at hj
   obtain ⟨fn,tmps,assign,body,hy,hR⟩:=hY ys ⟨k,hlt⟩ wr hs'.out.2.1 (by
    have h3:=congrArg List.length hs'.out.1;rw [List.length_range] at h3;unfold Fin.vals at h3;rw [List.length_map] at h3;omega)
   dsimp only at hy hR;have HTK:Hid (Fin.vals (ys ++ [⟨k,hlt⟩])=List.range (k+1)):=hZ (by
    rw [List.range_succ,← hs'.out.1];simp [Fin.vals])
   have hR':=hR.mono (R':=fun e W'=>∃ b,e=.returned (.bool b)∧Hid ((b=true∧J (ys ++ [⟨k,hlt⟩]) W'∧KeepL [Bs,g] wr W') ∨ (b=false∧Jx (ys ++ [⟨k,hlt⟩]) W'))) (by
    rintro e W' (⟨rfl,h1,h2⟩ | ⟨rfl,h1⟩)
    ·exact ⟨true,rfl,hZ (.inl ⟨rfl,h1,h2⟩)⟩
    ·exact ⟨false,rfl,hZ (.inr ⟨rfl,h1⟩)⟩)
   have HBW:Hid (∀ W',KeepL [Bs,g] wr W'→KeepL [Bs,g] W W'):=hZ fun W' hb=>hs'.out.2.2.trans hb;have HLT:=hZ hlt;clear hR hY hs';obtain ⟨x,hx⟩:=eX (v k);rw [hx] at HCK hy;obtain ⟨xl,hxl⟩:=eX x.lo;obtain ⟨xh,hxh⟩:=eX x.hi;unfold spanV at hy;rw [hxl,hxh] at HCK hy;clear hx hxl hxh;gi_wp2_with (refine wpLoadFW rfl 31 _ rfl g (off+k * 2) rfl #[xl,xh] _ HCK.out u_span rfl i_span ?_)
   gi_wp2
   refine hR'.mono ?_
   clear hR';rintro e W3 ⟨b,rfl,hb3⟩;cases b with
   | true =>
    have hb4:J (ys ++ [⟨k,hlt⟩]) W3∧KeepL [Bs,g] wr W3:=by
     rcases hb3.out with ⟨_,h3,h4⟩ | ⟨h3,_⟩
     ·exact ⟨h3,h4⟩
     ·cases h3
    have HB4:=hZ hb4;clear hb4;gi_wp2
    go_roundw
    case rel=>exact ⟨k+1,_,by have:=HLT.out;omega,by go_num,hZ ⟨HTK.out,HB4.out.1,HBW.out _ HB4.out.2⟩⟩
    case measure=>simp [intOf];omega
   | false =>
    gi_wp2
    refine bodyPost_ret (results_none rfl _ _ _) rfl ⟨⟨_,rfl⟩,.inr ⟨ys ++ [⟨k,hlt⟩],?_,?_,?_⟩⟩
    ·rw [HTK.out];have:List.range (k+1)=(List.range n).take (k+1):=by rw [List.take_range];congr 1;have:=HLT.out;omega
     rw [this];exact List.take_prefix _ _
    ·simp
    ·rcases hb3.out with ⟨h3,_⟩ | ⟨_,h3⟩
     ·cases h3
     ·exact h3
  ·obtain rfl:k=n:=by omega
   have hneg:¬ (k:Int)<(k:Int):=by omega
   gi_wp2
   go_end0
   exact ⟨⟨_,rfl⟩,.inl ⟨ys,hs'.out.1,hs'.out.2.1⟩⟩
theorem all_stops (Bs g off n c:Nat) (v:Nat→SpanD) (hn:n≤4096) (w:World) (hs4:Bs<w.heap.size) (hg:g<w.heap.size) (hbs:w.cell? ⟨Bs,0,none⟩=some (.slice (some ⟨g,off,none⟩) n c)) (hc:∀ i,i<n→w.cell? ⟨g,off+i * 2,none⟩=some (.int .i64 (v i).lo)∧w.cell? ⟨g,off+i * 2+1,none⟩=some (.int .i64 (v i).hi)) :
  SeqStopsK Fence.wide 5 Tryz.prog 187 #[.pointer (some ⟨Bs,0,none⟩)] (fun x:Fin n=>#[Value.int .i64 (x.val:Int),spanV (v x.val)]) (KeepL [Bs,g])
   (fun ys=>Fin.vals ys=List.range n) (fun pre=>Fin.vals pre <+: List.range n∧pre ≠ []) n w:=fun l J Jx W hW _ _ hY h0=>by
 have hk:KeepL [Bs,g] w W:=KeepL.below hW (by simp;exact ⟨hs4,hg⟩)
 refine (all1_in l Bs g off n c v hn J Jx hY W ((hk.cell (p:=⟨Bs,0,none⟩) (by simp)).trans hbs) (fun i hi=>⟨(hk.cell (p:=⟨g,off+i * 2,none⟩) (by simp)).trans (hc i hi).1,(hk.cell (p:=⟨g,off+i * 2+1,none⟩) (by simp)).trans (hc i hi).2⟩) h0).mono ?_
 rintro e W' ⟨he,⟨ys,h1,h2⟩ | ⟨pre,h1,h2,h3⟩⟩
 ·exact ⟨he,.inl ⟨ys,h1,h2⟩⟩
 ·exact ⟨he,.inr ⟨pre,⟨h1,h2⟩,h3⟩⟩
end Go.Proofs.YtmkoegljnebdiaaGreat
namespace Go.Proofs.YtmkoegljnebdiaaGreat
open Go.RowKit Go.Shelf
set_option maxRecDepth 100000
set_option maxHeartbeats 16000000
attribute [local go_sem] Oper.semAt_some

theorem sqsB_ok {a:SpanD} {l:List SpanD} {s:SpanD} (h:(squareB a).2=0) (h2:(addB s (squareB a).1).2=0):sqsB (a :: l) s=sqsB l (addB s (squareB a).1).1:=by
 show (if (squareB a).2=0 then (if (addB s (squareB a).1).2=0 then _ else _) else _)=_
 rw [if_pos h,if_pos h2]
theorem sqsB_bad {a:SpanD} {l:List SpanD} {s:SpanD} (h:(squareB a).2=0) (h2:¬ (addB s (squareB a).1).2=0):sqsB (a :: l) s=(zeroS,(addB s (squareB a).1).2):=by
 show (if (squareB a).2=0 then (if (addB s (squareB a).1).2=0 then _ else _) else _)=_
 rw [if_pos h,if_neg h2]
theorem sqsB_bad2 {a:SpanD} {l:List SpanD} {s:SpanD} (h:¬ (squareB a).2=0):sqsB (a :: l) s=(zeroS,(squareB a).2):=by
 show (if (squareB a).2=0 then _ else _)=_
 rw [if_neg h]
theorem addB_bad {a b:SpanD} (h:¬ (addB a b).2=0):(addB a b).1=zeroS:=by
 unfold addB fitB at h ⊢;split
 ·rename_i hc
  rw [if_pos hc] at h;split
  ·rename_i hb
   rw [if_pos hb] at h;exact absurd rfl h
  ·rfl
 ·rfl
def sqStep (r:SpanD × Int) (x:SpanD):SpanD × Int:=if r.2=0 then (if (squareB x).2=0 then addB r.1 (squareB x).1 else (zeroS,(squareB x).2)) else r
theorem sqsB_snoc (x:SpanD):∀ (l:List SpanD) (s:SpanD),sqsB (l ++ [x]) s=sqStep (sqsB l s) x
 | [],s=>by
  show sqsB [x] s=if (0:Int)=0 then _ else _
  rw [if_pos rfl];by_cases h:(squareB x).2=0
  ·rw [if_pos h];by_cases h2:(addB s (squareB x).1).2=0
   ·rw [sqsB_ok h h2];exact Prod.ext rfl h2.symm
   ·rw [sqsB_bad h h2];exact Prod.ext (addB_bad h2).symm rfl
  ·rw [if_neg h,sqsB_bad2 h]
 | a :: l,s=>by
  rw [List.cons_append];by_cases h:(squareB a).2=0
  ·by_cases h2:(addB s (squareB a).1).2=0
   ·rw [sqsB_ok h h2,sqsB_ok h h2,sqsB_snoc x l]
   ·rw [sqsB_bad h h2,sqsB_bad h h2];unfold sqStep;rw [if_neg h2]
  ·rw [sqsB_bad2 h,sqsB_bad2 h];unfold sqStep;rw [if_neg h]
theorem sqsB_prefix (s:SpanD):∀ (r l:List SpanD),¬ (sqsB l s).2=0→sqsB (l ++ r) s=sqsB l s
 | [],l,_=>by rw [List.append_nil]
 | x :: r,l,h=>by
  have e:sqsB (l ++ [x]) s=sqsB l s:=by rw [sqsB_snoc];unfold sqStep;rw [if_neg h]
  rw [show l ++ x :: r=(l ++ [x]) ++ r by simp,sqsB_prefix s r (l ++ [x]) (by rw [e];exact h),e]
theorem wd_sqs (l:List SpanD):WdS (sqsB l zeroS).1:=by
 have key:∀ (l:List SpanD) (s:SpanD),WdS s→WdS (sqsB l s).1:=by
  intro l;induction l with
  | nil=>intro s hs;exact hs
  | cons a l ih =>
   intro s hs;by_cases h:(squareB a).2=0
   ·by_cases h2:(addB s (squareB a).1).2=0
    ·rw [sqsB_ok h h2];exact ih _ (wd_add _ _)
    ·rw [sqsB_bad h h2];exact wd_zero
   ·rw [sqsB_bad2 h];exact wd_zero
 exact key l zeroS wd_zero
theorem results_sp2 {P:Program} {fn:Func} {p q:Tmp} {ty ty2:TypeId} (h:fn.results=#[.cell p ty,.cell q ty2]) (tmps:Array Value) (w:World) (g k:Nat) (t t':TypeId) (cs:Array Value) (u:Value) (d d2:TypeDesc)
  (hp:tmps.getD p undef=.pointer (some ⟨g,0,none⟩)) (hq:tmps.getD q undef=.pointer (some ⟨k,0,none⟩)) (hk:Bk w g t cs) (hk2:Bk w k t' #[u])
  (hu:P.underlying ty=some d) (hd:(match d with | .struct _ | .array _ _=>true | _=>false)=true) (hi:(P.info? ty).map (·.size)=some cs.size)
  (hu2:P.underlying ty2=some d2) (hd2:(match d2 with | .struct _ | .array _ _=>true | _=>false)=false) :
  (results fn tmps).run P w=.ok (.tuple #[.agg cs,u]) w:=by
 have hl:=run_loadVar_at (P:=P) w g 0 ty cs d (fun j v hj=>by rw [Nat.zero_add,hk.cell];exact hj) hu hd hi
 have hp':tmps[p]?.getD undef=.pointer (some ⟨g,0,none⟩):=by simpa using hp
 have hq':tmps[q]?.getD undef=.pointer (some ⟨k,0,none⟩):=by simpa using hq
 have hc:w.cell? ⟨k,0,none⟩=some u:=hk2.cell 0;have hagg:(isAgg ty2).run P w=.ok false w:=by
  unfold isAgg;rw [Sem.run_bind,run_underlying hu2 w];cases d2 <;> simp_all
 have hl2:(loadVar ty2 ⟨k,0,none⟩).run P w=.ok u w:=by
  simp [loadVar,Sem.run_bind,hagg,go_sem,hc]
 simp [results,h,hp',hq',asAddr,hl,hl2]
theorem u_41:Tryz.prog.underlying 41=some (match Tryz.prog.underlying 41 with | some d=>d | none=>.string):=by kernel_rfl
theorem fold_any (w:World) (Bs g off n c:Nat) (v:Nat→SpanD) (hbs:Bk w Bs 185 #[.slice (some ⟨g,off,none⟩) n c]) (hc:∀ i,i<n→w.cell? ⟨g,off+i * 2,none⟩=some (.int .i64 (v i).lo)∧w.cell? ⟨g,off+i * 2+1,none⟩=some (.int .i64 (v i).hi)) (hg:g<w.heap.size) (hw:∀ i,i<n→WdS (v i)) (hn:n≤64) :
  Calls Tryz.prog 161 #[.func (.func 187) #[] #[.pointer (some ⟨Bs,0,none⟩)],.func (.func 135) #[] #[]] w (SpPost (sqsB ((List.range n).map v) zeroS) w.heap.size w):=by
 refine pQ fun PQ hPQ=>?_
 have HFIN:Hid (∀ w' lo hi e,sqsB ((List.range n).map v) zeroS=(⟨lo,hi⟩,e)→Fr w [] [] w'→PQ (.returned (.tuple #[.agg #[.int .i64 lo,.int .i64 hi],.int .i64 e])) w'):=hZ fun w' lo hi e he h=>by rw [← hPQ,he];exact ⟨rfl,h.toBelow⟩
 have HSQ:Hid (∀ i,i<n→∀ w,Calls Tryz.prog 135 #[spanV (v i)] w (SpPost (squareB (v i)) w.heap.size w)):=hZ fun i hi w=>square_any (v i) (hw i hi) w;have HBS:=hZ hbs;have HC:=hZ hc;clear hPQ;refine (callsIn_wide (n:=6)).1 ?_
 refine callsIn_of_wp_marks Tryz.func161 rfl trivial ?_ rfl
 simp only [Tryz.ntmps161,List.size_toArray,List.length_cons,List.length_nil,Nat.reduceAdd,Nat.reduceSub,Array.replicate_succ,Array.replicate_zero,List.push_toArray,List.append_toArray,List.nil_append,List.cons_append];refine wpIn_wide.2 ?_
 obtain ⟨qb,W0,hqb,hW0,HF0⟩:=fM (Fr.start w) [(#[.func (.func 135) #[] #[]],165),(#[.int .i64 0,.int .i64 0],31),(#[.int .i64 0],41),(#[.int .i64 0,.int .i64 0],31)];have HQ:Hid (qb=w.heap.size):=hZ hqb.symm;have hs0:W0.heap.size=qb+1+1+1+1:=by rw [← hW0,← hqb];simp
 have HBS0:=hZ (hbs.below HF0.out.toBelow hbs.lt);have HC0:Hid (∀ i,i<n→W0.cell? ⟨g,off+i * 2,none⟩=some (.int .i64 (v i).lo)∧W0.cell? ⟨g,off+i * 2+1,none⟩=some (.int .i64 (v i).hi)):=hZ fun i hi=>⟨(HF0.out.toBelow.cell (p:=⟨g,off+i * 2,none⟩) hg).trans (hc i hi).1,(HF0.out.toBelow.cell (p:=⟨g,off+i * 2+1,none⟩) hg).trans (hc i hi).2⟩;have HSTOP:=hZ (all_stops Bs g off n c v (by omega) W0 HBS0.out.lt (by have:=hbs.lt;omega) (HBS0.out.cell 0) HC0.out)
 have HKB:Hid (∀ x,x ∈ [Bs,g]→x<W0.heap.size):=hZ (by have:=HBS0.out.lt;simp;omega)
 have HKW:Hid (∀ x,x ∈ [Bs,g]→x<w.heap.size):=hZ (by have:=hbs.lt;simp;omega)
 obtain ⟨S,hS⟩:∃ S:List (Fin n)→SpanD × Int,S=fun pre=>sqsB (pre.map fun x=>v x.val) zeroS:=⟨_,rfl⟩;obtain ⟨I,hI⟩:∃ I:List (Fin n)→World→Prop,(fun pre W=>(S pre).2=0∧Fr w [] [(qb,165,#[.func (.func 135) #[] #[]]),(qb+1,31,#[.int .i64 0,.int .i64 0]),(qb+1+1,41,#[.int .i64 0]),(qb+1+1+1,31,#[.int .i64 (S pre).1.lo,.int .i64 (S pre).1.hi])] W)=I:=⟨_,rfl⟩;have HI:Hid (∀ pre W,I pre W ↔ ((S pre).2=0∧Fr w [] [(qb,165,#[.func (.func 135) #[] #[]]),(qb+1,31,#[.int .i64 0,.int .i64 0]),(qb+1+1,41,#[.int .i64 0]),(qb+1+1+1,31,#[.int .i64 (S pre).1.lo,.int .i64 (S pre).1.hi])] W)):=hZ fun pre W=>by rw [← hI]
 have HOI:Hid (OwnFrom W0.heap.size I):=hZ (by
  rw [← hI];rintro pre A B row ⟨h1,h2⟩ hgr hr;exact ⟨h1,h2.turned (by rw [hs0,hqb];omega) hgr hr⟩)
 obtain ⟨Ix,hIx⟩:∃ Ix:Code→List (Fin n)→World→Prop,(fun cd pre W=>cd=.ret∧(S pre).2 ≠ 0∧Fr w [] [(qb,165,#[.func (.func 135) #[] #[]]),(qb+1,31,#[.int .i64 (S pre).1.lo,.int .i64 (S pre).1.hi]),(qb+1+1,41,#[.int .i64 (S pre).2])] W)=Ix:=⟨_,rfl⟩;have HIX:Hid (∀ cd pre W,Ix cd pre W ↔ (cd=.ret∧(S pre).2 ≠ 0∧Fr w [] [(qb,165,#[.func (.func 135) #[] #[]]),(qb+1,31,#[.int .i64 (S pre).1.lo,.int .i64 (S pre).1.hi]),(qb+1+1,41,#[.int .i64 (S pre).2])] W)):=hZ fun cd pre W=>by rw [← hIx]
 have HOX:Hid (∀ cd,OwnFrom W0.heap.size (Ix cd)):=hZ fun cd=>by
  rw [← hIx];rintro pre A B row ⟨h0,h1,h2⟩ hgr hr;exact ⟨h0,h1,h2.turned (by rw [hs0,hqb];omega) hgr hr⟩
 have H0I:Hid (I [] W0):=hZ ((HI.out _ _).2 (by rw [hS];exact ⟨rfl,HF0.out⟩))
 obtain ⟨Ax,hAx⟩:∃ Ax:Fin n→Act→World→Prop,(fun x a' W=>∃ gx,a'=⟨#[.func (.func 187) #[] #[.pointer (some ⟨Bs,0,none⟩)],.func (.func 135) #[] #[],undef,.pointer (some ⟨qb,0,none⟩),.pointer (some ⟨qb+1,0,none⟩),.pointer (some ⟨qb+1+1,0,none⟩),.pointer (some ⟨qb+1+1+1,0,none⟩),undef,.pointer (some ⟨gx,0,none⟩),undef,undef,.func (.func 187) #[] #[.pointer (some ⟨Bs,0,none⟩)],.int .i64 (x.val:Int),spanV (v x.val),undef,undef,undef,undef,undef,undef,undef,undef,undef,undef,undef,undef,undef,undef,undef,undef,undef,undef,undef],[]⟩∧Bk W gx 31 #[.int .i64 (v x.val).lo,.int .i64 (v x.val).hi])=Ax:=⟨_,rfl⟩;have HAX:Hid (∀ x a' W,Ax x a' W ↔ ∃ gx,a'=⟨#[.func (.func 187) #[] #[.pointer (some ⟨Bs,0,none⟩)],.func (.func 135) #[] #[],undef,.pointer (some ⟨qb,0,none⟩),.pointer (some ⟨qb+1,0,none⟩),.pointer (some ⟨qb+1+1,0,none⟩),.pointer (some ⟨qb+1+1+1,0,none⟩),undef,.pointer (some ⟨gx,0,none⟩),undef,undef,.func (.func 187) #[] #[.pointer (some ⟨Bs,0,none⟩)],.int .i64 (x.val:Int),spanV (v x.val),undef,undef,undef,undef,undef,undef,undef,undef,undef,undef,undef,undef,undef,undef,undef,undef,undef,undef,undef],[]⟩∧Bk W gx 31 #[.int .i64 (v x.val).lo,.int .i64 (v x.val).hi]):=hZ fun x a' W=>by rw [← hAx]
 have HOA:Hid (∀ x a',OwnFrom W0.heap.size (fun (_:Unit) W=>Ax x a' W)):=hZ fun x a'=>by
  rw [← hAx];rintro _ A B row ⟨gx,h2,h3⟩ hgr hr;exact ⟨gx,h2,h3.turned hgr fun r e=>(hr r e).2⟩
 have HS:=hZ hS;clear hI hIx hAx hS hbs hc hg hw hs0;go_wp2_with fail
 try rw [hW0]
 clear hW0;refine (wpIn_wide (n:=6)).1 ?_
 refine wpIn_rangeFunc_ownH (n:=6) rfl (by decide) (gf:=187) rfl trivial (enters_of Tryz.func187 (by kernel_rfl) rfl) HSTOP.out KeepL.trans (keepL_b HKB.out) (Below.refl _ _) (fun _=>rfl)
  I Ix HOI.out HOX.out H0I.out Ax HOA.out ?assign ?body ?done ?stop
 case assign =>
  intro l pre x W K hIW hK;have HFW:Hid (Fr W [] [] W):=hZ (Fr.start W);unfold spanV;dsimp only;obtain ⟨xl,hxl⟩:=eX ((v x.val).lo);obtain ⟨xh,hxh⟩:=eX ((v x.val).hi);rw [hxl,hxh];have HIW:=hZ hIW;have HXL:=hZ hxl;have HXH:=hZ hxh;have HK:=hZ hK;clear hIW hxl hxh hK;obtain ⟨g101,hg101⟩:=eX W.heap.size;obtain ⟨w101,hw101⟩:=eX (W.alloc (.cells #[.int .i64 0,.int .i64 0] 31));have HF102:=fE hw101 (HFW.out.alloc hg101.symm 31 #[.int .i64 0,.int .i64 0]);gi_wp2_with (refine wpStoreFI rfl rfl 31 _ _ rfl g101 0 rfl #[xl,xh] rfl _ _ (iC [xl,xh]) (HF102.out.get 0 rfl) rfl (by show 0+2≤2;omega) (one_all rfl) i_span ?_;intro w103 hk ho;clear hw101 hg101;have HF104:=fN (HF102.out.only 0 rfl ho hk);clear ho hk)
  have hb:=HF104.out.toBelow;obtain ⟨hi1,hi2⟩:=(HI.out _ _).1 HIW.out;have hqw:qb≤W.heap.size:=by rw [HQ.out];exact hi2.size
  refine HK.out _ _ ((HF104.out.keepsOthers (by simp)).from _) (HF104.out.keepL fun b hb=>⟨Nat.lt_of_lt_of_le (HKW.out b hb) hi2.size,by simp⟩) ((HI.out _ _).2 ⟨hi1,hi2.below hb⟩) ((HAX.out _ _ _).2 ⟨g101,?_,by rw [HXL.out,HXH.out];exact (HF104.out.get 0 rfl)⟩)
  unfold spanV;rw [HXL.out,HXH.out]
 case body =>
  intro l pre x a' W hDl hrec hIW hAx hpl;obtain ⟨gx,rfl,hgx⟩:=(HAX.out _ _ _).1 hAx;obtain ⟨h1,h2⟩:=(HI.out _ _).1 hIW;obtain ⟨PB,hPB⟩:=eX (ownPostG W0.heap.size (KeepL [Bs,g]) I Ix (pre ++ [x]) W);have hstep:S (pre ++ [x])=sqStep (S pre) (v x.val):=by rw [HS.out];dsimp only;rw [List.map_append];exact sqsB_snoc _ _ _
  have hkeys:∀ b ∈ [Bs,g],b<W.heap.size∧b ∉ [qb+1,qb+1+1,qb+1+1+1]:=fun b hb=>by
   have h3:=HKW.out b hb;have h4:=h2.size;have h5:=HQ.out;refine ⟨by omega,?_⟩
   simp only [List.mem_cons,List.not_mem_nil,or_false];omega
  have HEN:Hid (∀ a W' lo hi,sqStep (S pre) (v x.val)=(⟨lo,hi⟩,0)→Fr W [(qb+1,31,#[.int .i64 0,.int .i64 0]),(qb+1+1,41,#[.int .i64 0]),(qb+1+1+1,31,#[.int .i64 lo,.int .i64 hi])] [] W'→PB .normal a W'):=hZ fun a W' lo hi he hf=>by
   rw [← hPB];have h6:=h2.turns [false,true,true,true] hf ⟨rfl,rfl,rfl,trivial⟩;refine ⟨(hf.keepsOthers ?_).from _,hf.keepL hkeys,(HI.out _ _).2 ?_⟩
   ·intro y hy;simp only [List.mem_cons,List.not_mem_nil,or_false] at hy;rcases hy with rfl | rfl | rfl
    ·exact ⟨_,_,h2.get 1 rfl⟩
    ·exact ⟨_,_,h2.get 2 rfl⟩
    ·exact ⟨_,_,h2.get 3 rfl⟩
   ·rw [hstep,he];exact ⟨rfl,h6⟩
  have HER:Hid (∀ a W' lo hi e,sqStep (S pre) (v x.val)=(⟨lo,hi⟩,e)→e ≠ 0→∀ s1 s2,Fr W [(qb+1,31,#[.int .i64 lo,.int .i64 hi]),(qb+1+1,41,#[.int .i64 e]),(qb+1+1+1,31,#[.int .i64 s1,.int .i64 s2])] [] W'→PB .ret a W'):=hZ fun a W' lo hi e he hne s1 s2 hf=>by
   rw [← hPB];have h6:=h2.turns [false,true,true,true] hf ⟨rfl,rfl,rfl,trivial⟩;refine ⟨(hf.keepsOthers ?_).from _,(HIX.out _ _ _).2 ?_⟩
   ·intro y hy;simp only [List.mem_cons,List.not_mem_nil,or_false] at hy;rcases hy with rfl | rfl | rfl
    ·exact ⟨_,_,h2.get 1 rfl⟩
    ·exact ⟨_,_,h2.get 2 rfl⟩
    ·exact ⟨_,_,h2.get 3 rfl⟩
   ·rw [hstep,he];exact ⟨rfl,hne,h6.sub (List.sublist_append_left [_,_,_] [_])⟩
  rw [hPB];obtain ⟨⟨⟨sl,sh⟩,se⟩,hsp⟩:=eX (S pre);have hws:WdS (S pre).1:=by rw [HS.out];exact wd_sqs _
  rw [hsp] at h1 h2 hws HEN HER;dsimp only at h1 h2 hws;subst h1;have HFB:Hid (Fr W [(qb+1,31,#[.int .i64 0,.int .i64 0]),(qb+1+1,41,#[.int .i64 0]),(qb+1+1+1,31,#[sl,sh])] [] W):=hZ (Fr.startL (fun y hy=>by
   simp only [List.mem_cons,List.not_mem_nil,or_false] at hy;rcases hy with rfl | rfl | rfl
   ·exact h2.get 1 rfl
   ·exact h2.get 2 rfl
   ·exact h2.get 3 rfl) (by simp))
  have HGX:=hZ hgx;have HGQ:=hZ (h2.get 0 rfl);have HSQ1:=hZ (HSQ.out x.val x.isLt);obtain ⟨⟨⟨ql,qh⟩,qe⟩,hq⟩:=eX (squareB (v x.val));have hwq:WdS (squareB (v x.val)).1:=wd_square _;have HADD:=fun w=>add_any ⟨sl,sh⟩ (squareB (v x.val)).1 hws hwq w;unfold sqStep at HEN HER;rw [hq] at HSQ1 HADD HEN HER;dsimp only at HADD HEN HER;rw [if_pos rfl] at HEN HER;obtain ⟨⟨⟨tl,th⟩,te⟩,ht⟩:=eX (addB ⟨sl,sh⟩ ⟨ql,qh⟩);have HTE:Hid (¬ te=0→tl=0∧th=0):=hZ fun h=>by
   have:=addB_bad (a:=⟨sl,sh⟩) (b:=⟨ql,qh⟩) (by rw [ht];exact h)
   rw [ht] at this;unfold zeroS at this;injection this with e1 e2
   exact ⟨e1,e2⟩
  rw [ht] at HADD HEN HER;replace HADD:=hZ HADD;obtain ⟨xl,hxl⟩:=eX ((v x.val).lo);obtain ⟨xh,hxh⟩:=eX ((v x.val).hi);unfold SpPost spanV at HSQ1 HADD;unfold spanV;rw [hxl,hxh] at HSQ1 HGX ⊢;dsimp only at HSQ1 HADD ⊢;clear hIW hAx hpl hPB hstep hkeys hsp hws hwq hq ht hxl hxh hgx h2 hDl hrec;have c101:W.cell? ⟨qb,0,none⟩=some (.func (.func 135) #[] #[]):=HGQ.out.cell 0;gi_wp2_with (refine wpLoadFI rfl 31 _ rfl gx 0 rfl _ _ HGX.out #[xl,xh] rfl _ u_span rfl i_span ?_)
  clear c101;refine ⟨trivial,?_⟩
  refine (CallsIn.inRound l (callsIn_wide.2 (HSQ1.out _))).mono ?_
  rintro e w102 ⟨rfl,hw⟩;have HF103:=hZ (HFB.out.below hw);clear hw;by_cases hq0:qe=0
  ·subst hq0;rw [if_pos rfl] at HEN HER;obtain ⟨g104,w104,hg104,hw104,HF105⟩:=fA HF103.out #[.int .i64 0,.int .i64 0] 31;gi_wp2_with (first
     | (refine wpLoadFI rfl 31 _ rfl (qb+1+1+1) 0 rfl _ _ (HF107.out.getO 2 rfl) #[sl,sh] rfl _ u_span rfl i_span ?_)
     | (refine wpLoadFI rfl 31 _ rfl g104 0 rfl _ _ (HF107.out.get 0 rfl) #[ql,qh] rfl _ u_span rfl i_span ?_)
     | (refine wpStoreFI rfl rfl 31 _ _ rfl g104 0 rfl #[ql,qh] rfl _ _ (iC [ql,qh]) (HF105.out.get 0 rfl) rfl (by show 0+2≤2;omega) (one_all rfl) i_span ?_;intro w106 hk ho;clear hw104 hg104;have HF107:=fN (HF105.out.only 0 rfl ho hk);clear ho hk))
   refine ⟨trivial,?_⟩
   refine (CallsIn.inRound l (callsIn_wide.2 (HADD.out _))).mono ?_
   rintro e w108 ⟨rfl,hw⟩;have HF109:=hZ (HF107.out.below hw);clear hw;by_cases ht0:te=0
   ·subst ht0;gi_wp2_with (refine wpStoreFI rfl rfl 31 _ _ rfl (qb+1+1+1) 0 rfl #[tl,th] rfl _ _ (iC [tl,th]) (HF109.out.getO 2 rfl) rfl (by show 0+2≤2;omega) (one_all rfl) i_span ?_;intro w110 hk ho;have HF111:=fN (HF109.out.onlyO 2 rfl ho hk);clear ho hk)
    exact HEN.out _ _ _ _ rfl HF111.out.drop
   ·obtain ⟨rfl,rfl⟩:=HTE.out ht0;have hb2:(te == 0)=false:=by simpa using ht0
    have HT0:=hZ ht0;clear ht0;gi_wp2_with (first
      | (refine wpStoreFI rfl rfl 31 _ _ rfl (qb+1+1+1) 0 rfl #[.int .i64 0,.int .i64 0] rfl _ _ (iC [0,0]) (HF109.out.getO 2 rfl) rfl (by show 0+2≤2;omega) (one_all rfl) i_span ?_;intro w110 hk ho;have HF111:=fN (HF109.out.onlyO 2 rfl ho hk);clear ho hk)
      | (refine wpStoreFI rfl rfl 31 _ _ rfl (qb+1) 0 rfl #[.int .i64 0,.int .i64 0] rfl _ _ (iC [0,0]) (HF111.out.getO 0 rfl) rfl (by show 0+2≤2;omega) (one_all rfl) i_span ?_;intro w112 hk ho;have HF113:=fN (HF111.out.onlyO 0 rfl ho hk);clear ho hk)
      | (refine wpStoreCellI rfl rfl 41 _ _ rfl (qb+1+1) 0 rfl (.int .i64 te) rfl _ _ (HF113.out.getO 1 rfl) (by show 0<1;omega) rfl (by kernel_rfl) ?_;intro w114 hk ho;have HF115:=fN (HF113.out.onlyO 1 rfl ho hk);clear ho hk))
    exact HER.out _ _ _ _ _ rfl HT0.out _ _ HF115.out.drop
  ·rw [if_neg hq0] at HER;clear HEN;have hb2:(qe == 0)=false:=by simpa using hq0
   have HT0:=hZ hq0;clear hq0;obtain ⟨g104,w104,hg104,hw104,HF105⟩:=fA HF103.out #[.int .i64 0,.int .i64 0] 31;gi_wp2_with (first
     | (refine wpStoreFI rfl rfl 31 _ _ rfl g104 0 rfl #[ql,qh] rfl _ _ (iC [ql,qh]) (HF105.out.get 0 rfl) rfl (by show 0+2≤2;omega) (one_all rfl) i_span ?_;intro w106 hk ho;clear hw104 hg104;have HF107:=fN (HF105.out.only 0 rfl ho hk);clear ho hk)
     | (refine wpStoreFI rfl rfl 31 _ _ rfl (qb+1) 0 rfl #[.int .i64 0,.int .i64 0] rfl _ _ (iC [0,0]) (HF107.out.getO 0 rfl) rfl (by show 0+2≤2;omega) (one_all rfl) i_span ?_;intro w108 hk ho;have HF109:=fN (HF107.out.onlyO 0 rfl ho hk);clear ho hk)
     | (refine wpStoreCellI rfl rfl 41 _ _ rfl (qb+1+1) 0 rfl (.int .i64 qe) rfl _ _ (HF109.out.getO 1 rfl) (by show 0<1;omega) rfl (by kernel_rfl) ?_;intro w110 hk ho;have HF111:=fN (HF109.out.onlyO 1 rfl ho hk);clear ho hk))
   exact HER.out _ _ _ _ _ rfl HT0.out _ _ HF111.out.drop
 case done =>
  intro D ys W hD hys hIW hK;obtain ⟨h1,h2⟩:=(HI.out _ _).1 hIW;have hL:S ys=sqsB ((List.range n).map v) zeroS:=by
   rw [HS.out];dsimp only;rw [← hys];unfold Fin.vals;rw [List.map_map];rfl
  obtain ⟨⟨⟨sl,sh⟩,se⟩,hsp⟩:=eX (S ys);rw [hsp] at h1 h2;rw [hsp] at hL;dsimp only at h1 h2;subst h1;have hq:=h2.size;have HFB:Hid (Fr W [(qb+1,31,#[.int .i64 0,.int .i64 0]),(qb+1+1,41,#[.int .i64 0]),(qb+1+1+1,31,#[sl,sh])] [] W):=hZ (Fr.startL (fun y hy=>by
   simp only [List.mem_cons,List.not_mem_nil,or_false] at hy;rcases hy with rfl | rfl | rfl
   ·exact h2.get 1 rfl
   ·exact h2.get 2 rfl
   ·exact h2.get 3 rfl) (by simp))
  have HEND:Hid (∀ W' s1 s2,Fr W [(qb+1,31,#[sl,sh]),(qb+1+1,41,#[.int .i64 0]),(qb+1+1+1,31,#[.int .i64 s1,.int .i64 s2])] [] W'→W'.heap[D]?=some (.deferred (some []))∧PQ (.returned (.tuple #[.agg #[sl,sh],.int .i64 0])) (W'.putObj D (.deferred none))∧Bk (W'.putObj D (.deferred none)) (qb+1) 31 #[sl,sh]∧Bk (W'.putObj D (.deferred none)) (qb+1+1) 41 #[.int .i64 0]):=hZ fun W' s1 s2 hf=>by
   have hDK:W'.heap[D]?=some (.deferred (some [])):=(hf.keepsOthers (fun y hy=>by
    simp only [List.mem_cons,List.not_mem_nil,or_false] at hy;rcases hy with rfl | rfl | rfl
    ·exact ⟨_,_,h2.get 1 rfl⟩
    ·exact ⟨_,_,h2.get 2 rfl⟩
    ·exact ⟨_,_,h2.get 3 rfl⟩)).same D _ hK rfl
   have h6:=(h2.turns [false,true,true,true] hf ⟨rfl,rfl,rfl,trivial⟩).putObj (.deferred none) (by have:=HF0.out.size;omega) hDK rfl
   exact ⟨hDK,HFIN.out _ _ _ _ hL.symm h6.drop,h6.get 1 rfl,h6.get 2 rfl⟩
  clear hD hys hIW hK hL hsp hq h2;go_wp2_with (first
    | (refine lS (HFB.out.getO 2 rfl) sl sh ?_)
    | (refine sFO 0 (iC [sl,sh]) HFB.out i_span fun w101 HF102=>?_)
    | (refine wpStoreCell rfl rfl 41 _ _ rfl (qb+1+1) 0 rfl (.int .i64 0) rfl _ _ (HF102.out.getO 1 rfl) (by show 0<1;omega) rfl (by kernel_rfl) ?_;intro w103 hk ho;have HF104:=fN (HF102.out.onlyO 1 rfl ho hk);clear ho hk))
  obtain ⟨hd1,hd2,hd3,hd4⟩:=HEND.out _ _ _ HF104.out.drop;refine ⟨by simp,.inl ⟨_,_,rfl,run_takeDeferred hd1,?_⟩⟩
  exact ⟨_,results_sp2 rfl _ _ (qb+1) (qb+1+1) 31 41 _ _ _ _ rfl rfl hd3 hd4 u_span rfl i_span u_41 rfl,hd2⟩
 case stop =>
  intro D cd pre W hD hSp hIx hK;obtain ⟨rfl,h1,h2⟩:=(HIX.out _ _ _).1 hIx;have hL:S pre=sqsB ((List.range n).map v) zeroS:=by
   obtain ⟨r,hr⟩:=hSp.1;have e:sqsB (((Fin.vals pre) ++ r).map v) zeroS=sqsB ((Fin.vals pre).map v) zeroS:=by
    rw [List.map_append];refine sqsB_prefix zeroS _ _ ?_
    have e2:S pre=sqsB ((Fin.vals pre).map v) zeroS:=by rw [HS.out];dsimp only;unfold Fin.vals;rw [List.map_map];rfl
    rw [← e2];exact h1
   rw [← hr,e,HS.out];dsimp only;unfold Fin.vals;rw [List.map_map];rfl
  obtain ⟨⟨⟨sl,sh⟩,se⟩,hsp⟩:=eX (S pre);rw [hsp] at h1 h2 hL;dsimp only at h1 h2;have h6:=h2.putObj (.deferred none) (by have:=HF0.out.size;omega) hK rfl
  have HKD:=hZ hK;have HH:=hZ (And.intro (HFIN.out _ _ _ _ hL.symm h6.drop) (And.intro (h6.get 1 rfl) (h6.get 2 rfl)));clear hD hSp hIx hK h1 h2 hL hsp h6;refine wpIn_wide.2 ?_
  go_wp2_with fail
  refine ⟨by simp,.inl ⟨_,_,rfl,run_takeDeferred HKD.out,?_⟩⟩
  exact ⟨_,results_sp2 rfl _ _ (qb+1) (qb+1+1) 31 41 _ _ _ _ rfl rfl HH.out.2.1 HH.out.2.2 u_span rfl i_span u_41 rfl,HH.out.1⟩
end Go.Proofs.YtmkoegljnebdiaaGreat
namespace Go.Proofs.YtmkoegljnebdiaaGreat
open Go.RowKit
set_option maxRecDepth 100000
set_option maxHeartbeats 16000000

theorem all_fr (A:Option Addr) (n c:Nat) (w:World) :
  Calls Tryz.prog 162 #[.slice A n c] w fun e w'=>∃ g,e=.returned (.func (.func 187) #[] #[.pointer (some ⟨g,0,none⟩)])∧Fr w [] [(g,185,#[.slice A n c])] w' :=
 (all_any A n c w).mono fun e w' ⟨he,hw⟩=>⟨_,he,by rw [hw];exact (Fr.start w).alloc rfl 185 _⟩
theorem all_chk (n:Nat) (v:Nat→SpanD):((List.range n).map v).all chkB=allN n fun i=>chkB (v i):=by unfold allN;rw [List.all_map];rfl
theorem SpansAt.later {w w':World} {B B' n:Nat} {A:Option Addr} {v:Nat→SpanD} (h:SpansAt w B A n v) (hb:Below B w w') (hB:B≤B'):SpansAt w' B' A n v:=(Sl.below h hb).mono hB
theorem SpansAt.cells {w:World} {B g off n:Nat} {v:Nat→SpanD} (h:SpansAt w B (some ⟨g,off,none⟩) n v) (hn:0<n):g<B∧∀ i,i<n→w.cell? ⟨g,off+i * 2,none⟩=some (.int .i64 (v i).lo)∧w.cell? ⟨g,off+i * 2+1,none⟩=some (.int .i64 (v i).hi):=by
 obtain ⟨b,o,e,hb,hc⟩:=h.2 hn;injection e with e
 injection e with e1 e2
 subst e1 e2;exact ⟨hb,fun i hi=>⟨hc i hi 0 (by omega),hc i hi 1 (by omega)⟩⟩
theorem norm_any (w:World) (ga off n c:Nat) (v:Nat→SpanD) (h:SpansAt w w.heap.size (some ⟨ga,off,none⟩) n v) (hn0:0<n) (hn:n≤64) (hw:∀ i,i<n→WdS (v i)) :
  Calls Tryz.prog 114 #[.slice (some ⟨ga,off,none⟩) n c] w (SpPost (normB ((List.range n).map v)) w.heap.size w):=by
 have HS:=hZ h;have HW:=hZ hw;have HN:=hZ hn;have HN0:=hZ hn0;refine pQ fun PQ hPQ=>?_
 have HFIN:Hid (∀ w' lo hi e,normB ((List.range n).map v)=(⟨lo,hi⟩,e)→Fr w [] [] w'→PQ (.returned (.tuple #[.agg #[.int .i64 lo,.int .i64 hi],.int .i64 e])) w'):=hZ fun w' lo hi e he h=>by rw [← hPQ,he];exact ⟨rfl,h.toBelow⟩
 have hnb:normB ((List.range n).map v)=if (allN n fun i=>chkB (v i))=true then (if (sqsB ((List.range n).map v) zeroS).2=0 then rootB (sqsB ((List.range n).map v) zeroS).1 else (zeroS,(sqsB ((List.range n).map v) zeroS).2)) else (zeroS,2):=by
  unfold normB;rw [if_neg (by simp;omega),all_chk]
 have hwq:=wd_sqs ((List.range n).map v);have HFEW:Hid (∀ (w':World) (gl:Nat) (t:TypeId),Below w.heap.size w w'→Bk w' gl t #[.slice (some ⟨ga,off,none⟩) n c]→Calls Tryz.prog 160 #[.slice (some ⟨gl,0,none⟩) 1 1] w' fun e w''=>e=.returned (.int .i64 (if (allN n fun i=>chkB (v i))=true then 0 else 2))∧Below w'.heap.size w' w''):=hZ fun w' gl t hb hk=>few1_any w' gl t (some ⟨ga,off,none⟩) n c v hk (h.later hb hb.size) hn
 have HFOLD:Hid (∀ (w':World) (Bs:Nat),Below w.heap.size w w'→Bk w' Bs 185 #[.slice (some ⟨ga,off,none⟩) n c]→Calls Tryz.prog 161 #[.func (.func 187) #[] #[.pointer (some ⟨Bs,0,none⟩)],.func (.func 135) #[] #[]] w' (SpPost (sqsB ((List.range n).map v) zeroS) w'.heap.size w')):=hZ fun w' Bs hb hk =>
  fold_any w' Bs ga off n c v hk (h.later hb hb.size |>.cells hn0).2 (h.later hb hb.size |>.cells hn0).1 hw hn
 rw [hnb] at HFIN;clear hPQ h hn hn0 hw hnb;cases hall:allN n fun i=>chkB (v i) with
 | false =>
  rw [hall] at HFEW HFIN;rw [if_neg (by decide)] at HFEW HFIN
  clear hall hwq HFOLD;obtain ⟨qb,W0,hqb,hW0,HF0⟩:=fM (Fr.start w) [(#[.int .i64 0,.int .i64 0],31)];go_enter Tryz.func114,Tryz.ntmps114;go_upto_region 1 with (fail);clear hW0 hqb;obtain ⟨g1,hg1⟩:=eX W0.heap.size;obtain ⟨w1,hw1⟩:=eX (W0.alloc (.cells #[.slice (some ⟨ga,off,none⟩) n c] 185));have HF2:=fE hw1 (HF0.out.alloc hg1.symm 185 #[.slice (some ⟨ga,off,none⟩) n c]);go_wp2_with fail
  clear hw1 hg1;refine mB HF2.out (HFEW.out _ g1 185 HF2.out.toBelow (HF2.out.get 1 rfl)) fun w3 HF4=>?_;go_wp2_with (refine sW 0 HF4.out i_span fun w5 HF6=>?_)
  refine ret_agg2 rfl rfl rfl (HF6.out.get 0 rfl) rfl u_span rfl i_span ?_
  exact HFIN.out _ _ _ _ rfl HF6.out.drop
 | true =>
  rw [hall] at HFEW HFIN;rw [if_pos rfl] at HFEW HFIN;have HROOT:=fun w=>rootS_any _ hwq w;clear hall hwq;obtain ⟨⟨⟨sl,sh⟩,se⟩,hs⟩:=eX (sqsB ((List.range n).map v) zeroS);rw [hs] at HFOLD HFIN HROOT;dsimp only at HROOT HFIN;replace HROOT:=hZ HROOT;unfold SpPost spanV at HFOLD;clear hs;by_cases he:se=0
  ·subst he;rw [if_pos rfl] at HFIN;obtain ⟨⟨⟨rl,rh⟩,re⟩,hr⟩:=eX (rootB ⟨sl,sh⟩);rw [hr] at HROOT HFIN;unfold SpPost spanV at HROOT;dsimp only at HROOT;clear hr;obtain ⟨qb,W0,hqb,hW0,HF0⟩:=fM (Fr.start w) [(#[.int .i64 0,.int .i64 0],31)];go_enter Tryz.func114,Tryz.ntmps114;go_upto_region 1 with (fail);clear hW0 hqb;obtain ⟨g1,hg1⟩:=eX W0.heap.size;obtain ⟨w1,hw1⟩:=eX (W0.alloc (.cells #[.slice (some ⟨ga,off,none⟩) n c] 185));have HF2:=fE hw1 (HF0.out.alloc hg1.symm 185 #[.slice (some ⟨ga,off,none⟩) n c]);go_wp2_with fail
   clear hw1 hg1;refine mB HF2.out (HFEW.out _ g1 185 HF2.out.toBelow (HF2.out.get 1 rfl)) fun w3 HF4=>?_;go_wp2_with fail
   refine (all_fr (some ⟨ga,off,none⟩) n c _).mono ?_
   rintro e w5 ⟨gB,rfl,hw⟩;have HF6:=hZ (HF4.out.more hw);clear hw;go_wp2_with fail
   refine mB HF6.out (HFOLD.out _ gB HF6.out.toBelow (HF6.out.get 2 rfl)) fun w7 HF8=>?_;obtain ⟨g9,w9,hg9,hw9,HF10⟩:=fA HF8.out #[.int .i64 0,.int .i64 0] 31;go_wp2_with (first
     | (refine lS (gN HF12 3) sl sh ?_)
     | (refine sW 3 HF10.out i_span fun w11 HF12=>?_;clear hw9 hg9))
   refine mB HF12.out (HROOT.out _) fun w13 HF14=>?_;go_wp2_with (refine sW 0 HF14.out i_span fun w15 HF16=>?_)
   refine ret_agg2 rfl rfl rfl (HF16.out.get 0 rfl) rfl u_span rfl i_span ?_
   exact HFIN.out _ _ _ _ rfl HF16.out.drop
  ·rw [if_neg he] at HFIN;have hb2:(se == 0)=false:=by simpa using he
   clear he HROOT;obtain ⟨qb,W0,hqb,hW0,HF0⟩:=fM (Fr.start w) [(#[.int .i64 0,.int .i64 0],31)];go_enter Tryz.func114,Tryz.ntmps114;go_upto_region 1 with (fail);clear hW0 hqb;obtain ⟨g1,hg1⟩:=eX W0.heap.size;obtain ⟨w1,hw1⟩:=eX (W0.alloc (.cells #[.slice (some ⟨ga,off,none⟩) n c] 185));have HF2:=fE hw1 (HF0.out.alloc hg1.symm 185 #[.slice (some ⟨ga,off,none⟩) n c]);go_wp2_with fail
   clear hw1 hg1;refine mB HF2.out (HFEW.out _ g1 185 HF2.out.toBelow (HF2.out.get 1 rfl)) fun w3 HF4=>?_;go_wp2_with fail
   refine (all_fr (some ⟨ga,off,none⟩) n c _).mono ?_
   rintro e w5 ⟨gB,rfl,hw⟩;have HF6:=hZ (HF4.out.more hw);clear hw;go_wp2_with fail
   refine mB HF6.out (HFOLD.out _ gB HF6.out.toBelow (HF6.out.get 2 rfl)) fun w7 HF8=>?_;obtain ⟨g9,w9,hg9,hw9,HF10⟩:=fA HF8.out #[.int .i64 0,.int .i64 0] 31;go_wp2_with (first
     | (refine sW 3 HF10.out i_span fun w11 HF12=>?_;clear hw9 hg9)
     | (refine sW 0 HF12.out i_span fun w13 HF14=>?_))
   refine ret_agg2 rfl rfl rfl (HF14.out.get 0 rfl) rfl u_span rfl i_span ?_
   exact HFIN.out _ _ _ _ rfl HF14.out.drop
end Go.Proofs.YtmkoegljnebdiaaGreat
