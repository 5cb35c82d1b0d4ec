/- What is proved: the texts G H I J K L M, one behind the other; each says at its head what it proves, and under which conditions. -/
import Derived.StillTailTactics
import Derived.Sort.Grow
import Derived.RegionTactic
import Derived.BigRegion
import Derived.Test.YtcnjenlojnognaaGreatg2
/- What is proved: contracts of cmp.Compare, cmp.Or, slices.Compare at int, of campaign.compare, and of the document's order. Conditions: the lists lie in memory. -/
namespace Go.Proofs.YtcnjenlojnognaaGreat
open Go.RowKit

theorem ordL_at:∀ {a b:List Int} (k:Nat),k<a.length→k<b.length→(∀ j,j<k→numI a j=numI b j)→ordL a b=if numI a k<numI b k then -1 else if numI b k<numI a k then 1 else ordL (a.drop (k+1)) (b.drop (k+1))
 | [],_,k,h,_,_=>absurd h (by simp)
 | _ :: _,[],k,_,h,_=>absurd h (by simp)
 | x :: a,y :: b,0,_,_,_=>rfl
 | x :: a,y :: b,k+1,h1,h2,h=>by
  have e:x=y:=h 0 (by omega)
  subst e
  have ih:=ordL_at (a:=a) (b:=b) k (by simpa using h1) (by simpa using h2) fun j hj=>h (j+1) (by omega)
  show (if x<x then -1 else if x<x then 1 else ordL a b)=_
  rw [if_neg (by omega),if_neg (by omega),ih];rfl
theorem ordL_end:∀ {a b:List Int},(∀ j,j<a.length→j<b.length→numI a j=numI b j)→ordL a b=if a.length<b.length then -1 else if b.length<a.length then 1 else 0
 | [],[],_=>rfl
 | [],_ :: _,_=>by simp [ordL]
 | _ :: _,[],_=>by simp [ordL]
 | x :: a,y :: b,h=>by
  have e:x=y:=h 0 (by simp) (by simp)
  subst e
  have ih:=ordL_end (a:=a) (b:=b) fun j h1 h2=>h (j+1) (by simpa using h1) (by simpa using h2)
  show (if x<x then -1 else if x<x then 1 else ordL a b)=_
  rw [if_neg (by omega),if_neg (by omega),ih]
  simp only [List.length_cons,Nat.add_lt_add_iff_right]
theorem ordL_range (a b:List Int):ordL a b=-1 ∨ ordL a b=0 ∨ ordL a b=1:=by
 induction a generalizing b with
 | nil=>cases b <;> simp [ordL]
 | cons x a ih =>
  cases b with
  | nil=>simp [ordL]
  | cons y b =>
   show (if x<y then (-1:Int) else if y<x then 1 else ordL a b)=-1 ∨ _ ∨ _
   by_cases h1:x<y
   ·rw [if_pos h1];simp [ordL,h1]
   ·rw [if_neg h1]
    by_cases h2:y<x
    ·simp [ordL,h1,h2]
    ·simp only [ordL,if_neg h1,if_neg h2];exact ih b
theorem nan_any (a:Int) (w:World):Calls Tryz.prog 120 #[.int .i64 a] w fun e w'=>e=.returned (.bool false)∧w'=w:=by
 go_enter Tryz.func120,Tryz.ntmps120
 go_wp2_with fail
 go_ret
 exact ⟨ret_bool (by simp),rfl⟩
set_option maxHeartbeats 1000000 in
theorem cmpc_any (a b:Int) (w:World):Calls Tryz.prog 102 #[.int .i64 a,.int .i64 b] w fun e w'=>e=.returned (.int .i64 (cmpI a b))∧w'=w:=by
 have H1:=Lib.hid (nan_any a w)
 have H2:=Lib.hid (nan_any b w)
 have HD:Hid (cmpI a b=if a<b then -1 else if b<a then 1 else 0):=Lib.hid rfl
 obtain ⟨R,hR⟩:∃ R,cmpI a b=R:=⟨_,rfl⟩
 rw [hR] at HD ⊢
 clear hR
 by_cases h1:a<b
 ·have HR:Hid (R=-1):=Lib.hid (by rw [HD.out,if_pos h1])
  have g1:decide (a<b)=true:=decide_eq_true h1
  clear h1
  go_enter Tryz.func102,Tryz.ntmps102
  go_wp2_with fail
  refine H1.out.mono ?_
  rintro e w' ⟨rfl,rfl⟩
  go_wp2_with fail
  refine H2.out.mono ?_
  rintro e w' ⟨rfl,rfl⟩
  go_wp2_with fail
  go_ret
  exact ⟨ret_int HR.out.symm,rfl⟩
 ·have g1:decide (a<b)=false:=decide_eq_false h1
  by_cases h2:b<a
  ·have HR:Hid (R=1):=Lib.hid (by rw [HD.out,if_neg h1,if_pos h2])
   have g2:decide (b<a)=true:=decide_eq_true h2
   clear h1 h2
   go_enter Tryz.func102,Tryz.ntmps102
   go_wp2_with fail
   refine H1.out.mono ?_
   rintro e w' ⟨rfl,rfl⟩
   go_wp2_with fail
   refine H2.out.mono ?_
   rintro e w' ⟨rfl,rfl⟩
   go_wp2_with fail
   go_ret
   exact ⟨ret_int HR.out.symm,rfl⟩
  ·have HR:Hid (R=0):=Lib.hid (by rw [HD.out,if_neg h1,if_neg h2])
   have g2:decide (b<a)=false:=decide_eq_false h2
   clear h1 h2
   go_enter Tryz.func102,Tryz.ntmps102
   go_wp2_with fail
   refine H1.out.mono ?_
   rintro e w' ⟨rfl,rfl⟩
   go_wp2_with fail
   refine H2.out.mono ?_
   rintro e w' ⟨rfl,rfl⟩
   go_wp2_with fail
   go_ret
   exact ⟨ret_int HR.out.symm,rfl⟩
/-- The first of four numbers that is not 0. -/
theorem or_any (w:World) (g:Nat) (a b c d:Int) (h0:w.cell? ⟨g,0,none⟩=some (.int .i64 a)) (h1:w.cell? ⟨g,1,none⟩=some (.int .i64 b)) (h2:w.cell? ⟨g,2,none⟩=some (.int .i64 c)) (h3:w.cell? ⟨g,3,none⟩=some (.int .i64 d)) :
  Calls Tryz.prog 109 #[.slice (some ⟨g,0,none⟩) 4 4] w fun e w'=>e=.returned (.int .i64 (orI a (orI b (orI c d))))∧w'=w:=by
 obtain ⟨R,hR⟩:∃ R,orI a (orI b (orI c d))=R:=⟨_,rfl⟩
 have HR:=Lib.hid hR
 have HC:Hid (∀ k,k<4→∃ y,w.cell? ⟨g,k,none⟩=some (.int .i64 y)∧numI [a,b,c,d] k=y):=Lib.hid fun k hk=>by
  match k,hk with
  | 0,_=>exact ⟨a,h0,rfl⟩
  | 1,_=>exact ⟨b,h1,rfl⟩
  | 2,_=>exact ⟨c,h2,rfl⟩
  | 3,_=>exact ⟨d,h3,rfl⟩
 have HF:Hid (∀ k y,k<4→(∀ j,j<k→numI [a,b,c,d] j=0)→numI [a,b,c,d] k=y→y ≠ 0→R=y):=Lib.hid fun k y hk hz hy hn=>by
  rw [← hR]
  unfold orI
  match k,hk with
  | 0,_=>have e:a=y:=hy;rw [if_neg (by omega),e]
  | 1,_=>have z0:a=0:=hz 0 (by omega);have e:b=y:=hy;rw [if_pos z0,if_neg (by omega),e]
  | 2,_=>have z0:a=0:=hz 0 (by omega);have z1:b=0:=hz 1 (by omega);have e:c=y:=hy;rw [if_pos z0,if_pos z1,if_neg (by omega),e]
  | 3,_=>have z0:a=0:=hz 0 (by omega);have z1:b=0:=hz 1 (by omega);have z2:c=0:=hz 2 (by omega);have e:d=y:=hy;rw [if_pos z0,if_pos z1,if_pos z2,e]
 have HZ:Hid ((∀ j,j<4→numI [a,b,c,d] j=0)→R=0):=Lib.hid fun hz=>by
  have z0:a=0:=hz 0 (by omega)
  have z1:b=0:=hz 1 (by omega)
  have z2:c=0:=hz 2 (by omega)
  have z3:d=0:=hz 3 (by omega)
  rw [← hR];unfold orI;rw [if_pos z0,if_pos z1,if_pos z2,z3]
 rw [hR]
 clear h0 h1 h2 h3 hR
 go_enter Tryz.func109,Tryz.ntmps109
 go_wp2_with fail
 go_loop [8] (fun i=>∃ k:Nat,k≤4∧i=.int .i64 k∧Hid (∀ j,j<k→numI [a,b,c,d] j=0)) (fun i=>4 - (intOf i).toNat)
 case atStart=>exact ⟨0,Nat.zero_le _,rfl,Lib.hid fun j hj=>absurd hj (Nat.not_lt_zero j)⟩
 case round =>
  obtain ⟨k,hk,rfl,hz⟩:=hrel
  by_cases hlt:k<4
  ·obtain ⟨y,hc,hy⟩:=HC.out k hlt
   have HY:=Lib.hid hy
   have hki:(k:Int)<4:=by omega
   have h0k:(0:Int)≤(k:Int):=by omega
   clear hy
   by_cases he:y=0
   ·subst he
    go_wp2_with fail
    go_round
    case rel=>exact ⟨k+1,by omega,by go_num,Lib.hid fun j hj=>by
     by_cases e:j=k
     ·subst e;exact HY.out
     ·exact hz.out j (by omega)⟩
    case measure=>simp [intOf];omega
   ·have he1:(y == 0)=false:=by rw [beq_eq_false_iff_ne];exact he
    have HRR:Hid (R=y):=Lib.hid (HF.out k y hlt hz.out HY.out he)
    go_wp2_with fail
    go_ret
    exact ⟨ret_int HRR.out.symm,rfl⟩
  ·obtain rfl:k=4:=by omega
   have HRR:Hid (R=0):=Lib.hid (HZ.out hz.out)
   go_wp2_with fail
   go_ret
   exact ⟨ret_int HRR.out.symm,rfl⟩
set_option maxRecDepth 100000 in
set_option maxHeartbeats 4000000 in
theorem sliCmp_any (w:World) (A B:Option Addr) (ca cb:Nat) (l m:List Int) (hl:IntsAt w w.heap.size A l) (hm:IntsAt w w.heap.size B m) :
  Calls Tryz.prog 71 #[.slice A l.length ca,.slice B m.length cb] w fun e w'=>e=.returned (.int .i64 (ordL l m))∧w'=w:=by
 have HL:=Lib.hid hl
 have HM:=Lib.hid hm
 have hll:=hl.1
 have hmm:=hm.1
 obtain ⟨nl,hnl⟩:∃ n,l.length=n:=⟨_,rfl⟩
 obtain ⟨nm,hnm⟩:∃ n,m.length=n:=⟨_,rfl⟩
 have HNL:=Lib.hid hnl
 have HNM:=Lib.hid hnm
 obtain ⟨R,hR⟩:∃ R,ordL l m=R:=⟨_,rfl⟩
 have HR:=Lib.hid hR
 have HAT:=Lib.hid fun (k:Nat) (h1:k<l.length) (h2:k<m.length) (h:∀ j,j<k→numI l j=numI m j)=>ordL_at k h1 h2 h
 have HEND:=Lib.hid fun (h:∀ j,j<l.length→j<m.length→numI l j=numI m j)=>ordL_end h
 have HFIN:Hid (∀ (z:Int) (w':World),z=R→w'=w→Ending.returned (.int .i64 z)=.returned (.int .i64 R)∧w'=w):=Lib.hid fun z w' h1 h2=>⟨by rw [h1],h2⟩
 have HCC:=Lib.hid fun (x y:Int)=>cmpc_any x y w
 rw [hnl] at hll ⊢
 rw [hnm] at hmm ⊢
 rw [hR]
 clear hl hm hnl hnm hR
 go_enter Tryz.func71,Tryz.ntmps71
 go_wp2_with fail
 go_loop [11] (fun i=>∃ k:Nat,k≤nl∧i=.int .i64 k∧Hid (k≤nm∧∀ j,j<k→numI l j=numI m j)) (fun i=>nl - (intOf i).toNat)
 case atStart=>exact ⟨0,Nat.zero_le _,rfl,Lib.hid ⟨Nat.zero_le _,fun j hj=>absurd hj (Nat.not_lt_zero j)⟩⟩
 case round =>
  obtain ⟨k,hk,rfl,hs⟩:=hrel
  obtain ⟨hkm,hsame⟩:=hs.out
  have HS:=Lib.hid hsame
  clear hs hsame
  have h0k:(0:Int)≤(k:Int):=by omega
  by_cases hlt:k<nl
  ·have hki:(k:Int)<(nl:Int):=by omega
   obtain ⟨bb,off,rfl,_,d0⟩:=Sl.at1 HL.out (i:=k) (by rw [HNL.out];exact hlt)
   try dsimp only at d0
   obtain ⟨x,hx⟩:∃ x,numI l k=x:=⟨_,rfl⟩
   have HX:=Lib.hid hx
   rw [hx] at d0
   clear hx
   by_cases hlt2:k<nm
   ·have hki2:(k:Int)<(nm:Int):=by omega
    have hk2:decide (nm≤k)=false:=decide_eq_false (by omega)
    obtain ⟨bb2,off2,rfl,_,d1⟩:=Sl.at1 HM.out (i:=k) (by rw [HNM.out];exact hlt2)
    try dsimp only at d1
    obtain ⟨y,hy⟩:∃ y,numI m k=y:=⟨_,rfl⟩
    have HY:=Lib.hid hy
    rw [hy] at d1
    clear hy
    have HC:=Lib.hid (HCC.out x y)
    obtain ⟨z,hz⟩:∃ z,cmpI x y=z:=⟨_,rfl⟩
    have HZ:=Lib.hid hz
    rw [hz] at HC
    clear hz
    by_cases he:z=0
    ·subst he
     go_wp2_with fail
     refine HC.out.mono ?_
     rintro e w' ⟨rfl,rfl⟩
     go_wp2_with fail
     go_round
     case rel=>exact ⟨k+1,by omega,by go_num,Lib.hid ⟨by omega,fun j hj=>by
      by_cases e:j=k
      ·subst e;rw [HX.out,HY.out];exact cmpI_zero.1 HZ.out
      ·exact HS.out j (by omega)⟩⟩
     case measure=>simp [intOf];omega
    ·have he1:(z == 0)=false:=by rw [beq_eq_false_iff_ne];exact he
     have HRR:Hid (z=R):=Lib.hid (by
      have h:=HAT.out k (by rw [HNL.out];exact hlt) (by rw [HNM.out];exact hlt2) HS.out
      rw [HX.out,HY.out,HR.out] at h
      rw [h,← HZ.out]
      have h2:=HZ.out
      unfold cmpI at h2 ⊢
      by_cases g1:x<y
      ·rw [if_pos g1,if_pos g1]
      ·rw [if_neg g1,if_neg g1]
       by_cases g2:y<x
       ·rw [if_pos g2,if_pos g2]
       ·rw [if_neg g1,if_neg g2] at h2
        exact absurd h2.symm he)
     go_wp2_with fail
     refine HC.out.mono ?_
     rintro e w' ⟨rfl,rfl⟩
     go_wp2_with fail
     go_ret
     exact HFIN.out _ _ HRR.out rfl
   ·have hk2:decide (nm≤k)=true:=decide_eq_true (by omega)
    have HRR:Hid ((1:Int)=R):=Lib.hid (by
     have h:=HEND.out fun j h1 h2=>HS.out j (by rw [HNM.out] at h2;omega)
     rw [HR.out,HNL.out,HNM.out,if_neg (by omega),if_pos (by omega)] at h
     exact h.symm)
    go_wp2_with fail
    go_ret
    exact HFIN.out _ _ HRR.out rfl
  ·obtain rfl:k=nl:=by omega
   by_cases h2:k<nm
   ·have g2:decide (k<nm)=true:=decide_eq_true h2
    have HRR:Hid ((-1:Int)=R):=Lib.hid (by
     have h:=HEND.out fun j h1 h2=>HS.out j (by rw [HNL.out] at h1;exact h1)
     rw [HR.out,HNL.out,HNM.out,if_pos h2] at h
     exact h.symm)
    go_wp2_with fail
    go_ret
    exact HFIN.out _ _ HRR.out rfl
   ·have g2:decide (k<nm)=false:=decide_eq_false h2
    have HRR:Hid ((0:Int)=R):=Lib.hid (by
     have h:=HEND.out fun j h1 h2=>HS.out j (by rw [HNL.out] at h1;exact h1)
     rw [HR.out,HNL.out,HNM.out,if_neg h2,if_neg (by omega)] at h
     exact h.symm)
    go_wp2_with fail
    go_ret
    exact HFIN.out _ _ HRR.out rfl
end Go.Proofs.YtcnjenlojnognaaGreat
/- What is proved: contracts of campaign.compare, and of the document's order, Compare, Same. Conditions: the lists and plans lie in memory. -/
namespace Go.Proofs.YtcnjenlojnognaaGreat
open Go.RowKit

/-- What a call that only reads and makes memory leaves, to the letter. -/
def GrowR (w w':World):Prop:=∃ q os,w'=Go.Sort.grow (w.drewN q) os
theorem GrowR.below {w w':World} (h:GrowR w w'):Below w.heap.size w w':=by
 obtain ⟨q,os,rfl⟩:=h
 refine ⟨rfl,rfl,rfl,?_,fun k hk=>?_⟩
 ·show w.heap.size≤(w.heap ++ os).size
  rw [Array.size_append];omega
 ·show (w.heap ++ os)[k]?=w.heap[k]?
  rw [Array.getElem?_append_left hk]
set_option maxRecDepth 100000 in
set_option maxHeartbeats 4000000 in
theorem compare_any (w:World) (x y:LaunchD) (A B:Option Addr) (ca cb:Nat) (hx:IntsAt w w.heap.size A x.cargos) (hy:IntsAt w w.heap.size B y.cargos) :
  Calls Tryz.prog 82 #[.agg (launchA x A ca),.agg (launchA y B cb)] w fun e w'=>e=.returned (.int .i64 (cmpL x y))∧GrowR w w':=by
 obtain ⟨W0,hW0⟩:∃ W0,(w.alloc (.cells (launchA x A ca) 52)).alloc (.cells (launchA y B cb) 52)=W0:=⟨_,rfl⟩
 have hb0:Below w.heap.size w W0:=by rw [← hW0];exact ((Below.refl _ w).alloc (Nat.le_refl _) _).alloc (by simp) _
 obtain ⟨qb,hqb⟩:∃ qb,w.heap.size=qb:=⟨_,rfl⟩
 have HKX:Hid (Bk W0 qb 52 (launchA x A ca)):=Lib.hid (by rw [← hW0,← hqb];exact (Bk.new _ _ _).alloc _)
 have HKY:Hid (Bk W0 (qb+1) 52 (launchA y B cb)):=Lib.hid (by rw [← hW0,← hqb];exact Bk.newAt _ _ _ _ (by simp))
 have HX:=Lib.hid (hx.later hb0)
 have HY:=Lib.hid (hy.later hb0)
 obtain ⟨d,hd⟩:∃ d,cmpI x.day y.day=d:=⟨_,rfl⟩
 obtain ⟨cr,hcr⟩:∃ d,cmpI x.craft y.craft=d:=⟨_,rfl⟩
 obtain ⟨pd,hpd⟩:∃ d,cmpI x.pad y.pad=d:=⟨_,rfl⟩
 obtain ⟨og,hog⟩:∃ d,ordL x.cargos y.cargos=d:=⟨_,rfl⟩
 have HR:Hid (cmpL x y=orI d (orI cr (orI pd og))):=Lib.hid (by unfold cmpL;rw [hd,hcr,hpd,hog])
 obtain ⟨R,hR⟩:∃ R,cmpL x y=R:=⟨_,rfl⟩
 have HW:Hid (W0=Go.Sort.grow w #[.cells (launchA x A ca) 52,.cells (launchA y B cb) 52]):=Lib.hid (by
  rw [← hW0,Go.Sort.alloc_eq_grow,Go.Sort.alloc_eq_grow,Go.Sort.grow_grow];rfl)
 have H1:Hid (∀ w1,Calls Tryz.prog 102 #[.int .i64 x.day,.int .i64 y.day] w1 fun e w'=>e=.returned (.int .i64 d)∧w'=w1):=Lib.hid fun w1=>by rw [← hd];exact cmpc_any _ _ _
 have H2:Hid (∀ w1,Calls Tryz.prog 102 #[.int .i64 x.craft,.int .i64 y.craft] w1 fun e w'=>e=.returned (.int .i64 cr)∧w'=w1):=Lib.hid fun w1=>by rw [← hcr];exact cmpc_any _ _ _
 have H3:Hid (∀ w1,Calls Tryz.prog 102 #[.int .i64 x.pad,.int .i64 y.pad] w1 fun e w'=>e=.returned (.int .i64 pd)∧w'=w1):=Lib.hid fun w1=>by rw [← hpd];exact cmpc_any _ _ _
 have H4:Hid (Calls Tryz.prog 71 #[.slice A x.cargos.length ca,.slice B y.cargos.length cb] { W0 with drawn:=W0.drawn+1 } fun e w'=>e=.returned (.int .i64 og)∧w'={ W0 with drawn:=W0.drawn+1 }):=Lib.hid (by
  rw [← hog]
  exact sliCmp_any _ A B ca cb _ _ (HX.out.later (Below.refl _ _).drew) (HY.out.later (Below.refl _ _).drew))
 have H5:=Lib.hid fun w1 h0 h1 h2 h3=>or_any w1 W0.heap.size d cr pd og h0 h1 h2 h3
 rw [hR] at HR ⊢
 clear hx hy hb0 hd hcr hpd hog hR
 have x0:W0.cell? ⟨qb,0,none⟩=some (.int .i64 x.day):=HKX.out.cell 0
 have x1:W0.cell? ⟨qb,1,none⟩=some (.int .i64 x.craft):=HKX.out.cell 1
 have x2:W0.cell? ⟨qb,2,none⟩=some (.int .i64 x.pad):=HKX.out.cell 2
 have x3:W0.cell? ⟨qb,3,none⟩=some (.slice A x.cargos.length ca):=HKX.out.cell 3
 have y0:W0.cell? ⟨qb+1,0,none⟩=some (.int .i64 y.day):=HKY.out.cell 0
 have y1:W0.cell? ⟨qb+1,1,none⟩=some (.int .i64 y.craft):=HKY.out.cell 1
 have y2:W0.cell? ⟨qb+1,2,none⟩=some (.int .i64 y.pad):=HKY.out.cell 2
 have y3:W0.cell? ⟨qb+1,3,none⟩=some (.slice B y.cargos.length cb):=HKY.out.cell 3
 simp only [launchA] at hW0 ⊢
 go_enter Tryz.func82,Tryz.ntmps82
 go_upto_region 1 with (fail)
 clear hqb hW0
 go_still_tail 20,(by kernel_rfl)
 still_call (H1.out _)
 repeat still_step
 still_call (H2.out _)
 repeat still_step
 still_call (H3.out _)
 repeat still_step
 still_call H4.out
 refine wpStill_nil ?_
 go_wp2_with fail
 refine (H5.out _ (by simp) (by simp) (by simp) (by simp)).mono ?_
 rintro e w' ⟨rfl,rfl⟩
 go_wp2_with fail
 go_ret
 refine ⟨ret_int HR.out.symm,1,#[.cells (launchA x A ca) 52,.cells (launchA y B cb) 52,.cells #[.int .i64 d,.int .i64 cr,.int .i64 pd,.int .i64 og] 3],?_⟩
 rw [HW.out]
 simp [World.alloc,Go.Sort.grow,World.drewN]
 rfl
set_option maxRecDepth 100000 in
set_option maxHeartbeats 8000000 in
theorem order_any (w:World) (A B:Option Addr) (ca cb:Nat) (l m:List Int) (hl:IntsAt w w.heap.size A l) (hm:IntsAt w w.heap.size B m) :
  Calls Tryz.prog 73 #[.slice A l.length ca,.slice B m.length cb] w fun e w'=>e=.returned (.int .i64 (ordL l m))∧Below w.heap.size w w':=by
 have HL:=Lib.hid hl
 have HM:=Lib.hid hm
 have hll:=hl.1
 have hmm:=hm.1
 obtain ⟨nl,hnl⟩:∃ n,l.length=n:=⟨_,rfl⟩
 obtain ⟨nm,hnm⟩:∃ n,m.length=n:=⟨_,rfl⟩
 have HNL:=Lib.hid hnl
 have HNM:=Lib.hid hnm
 obtain ⟨R,hR⟩:∃ R,ordL l m=R:=⟨_,rfl⟩
 have HR:=Lib.hid hR
 have HAT:=Lib.hid fun (k:Nat) (h1:k<l.length) (h2:k<m.length) (h:∀ j,j<k→numI l j=numI m j)=>ordL_at k h1 h2 h
 have HEND:=Lib.hid fun (h:∀ j,j<l.length→j<m.length→numI l j=numI m j)=>ordL_end h
 have HFIN:Hid (∀ (z:Int) (w':World),z=R→Below w.heap.size w w'→Ending.returned (.int .i64 z)=.returned (.int .i64 R)∧Below w.heap.size w w'):=Lib.hid fun z w' h1 h2=>⟨by rw [h1],h2⟩
 rw [hnl] at hll ⊢
 rw [hnm] at hmm ⊢
 rw [hR]
 clear hl hm hnl hnm hR
 go_enter Tryz.func73,Tryz.ntmps73
 go_wp2_with fail
 go_loopw [5] (fun i wr=>∃ k:Nat,k≤nl∧i=.int .i64 k∧Hid (Below w.heap.size w wr∧k≤nm∧∀ j,j<k→numI l j=numI m j)) (fun i _=>nl - (intOf i).toNat)
 case atStart=>exact ⟨0,Nat.zero_le _,rfl,Lib.hid ⟨Below.refl _ _,Nat.zero_le _,fun j hj=>absurd hj (Nat.not_lt_zero j)⟩⟩
 case round =>
  obtain ⟨k,hk,rfl,hs⟩:=hrel
  obtain ⟨hbl,hkm,hsame⟩:=hs.out
  have HS:=Lib.hid hsame
  have HB:=Lib.hid hbl
  have HL2:=Lib.hid (Sl.below HL.out hbl)
  have HM2:=Lib.hid (Sl.below HM.out hbl)
  clear hs hsame hbl
  have h0k:(0:Int)≤(k:Int):=by omega
  by_cases hlt:k<nl
  ·have g1:decide (k<nl)=true:=decide_eq_true hlt
   have hki:(k:Int)<(nl:Int):=by omega
   obtain ⟨bb,off,rfl,_,d0⟩:=Sl.at1 HL2.out (i:=k) (by rw [HNL.out];exact hlt)
   try dsimp only at d0
   obtain ⟨x,hx⟩:∃ x,numI l k=x:=⟨_,rfl⟩
   have HX:=Lib.hid hx
   rw [hx] at d0
   clear hx
   by_cases hlt2:k<nm
   ·have g2:decide (k<nm)=true:=decide_eq_true hlt2
    have hki2:(k:Int)<(nm:Int):=by omega
    obtain ⟨bb2,off2,rfl,_,d1⟩:=Sl.at1 HM2.out (i:=k) (by rw [HNM.out];exact hlt2)
    try dsimp only at d1
    obtain ⟨y,hy⟩:∃ y,numI m k=y:=⟨_,rfl⟩
    have HY:=Lib.hid hy
    rw [hy] at d1
    clear hy
    have HA:Hid (R=if x<y then -1 else if y<x then 1 else R):=Lib.hid (by
     have h:=HAT.out k (by rw [HNL.out];exact hlt) (by rw [HNM.out];exact hlt2) HS.out
     rw [HX.out,HY.out,HR.out] at h
     by_cases q1:x<y
     ·rw [if_pos q1] at h ⊢;exact h
     ·rw [if_neg q1] at h ⊢
      by_cases q2:y<x
      ·rw [if_pos q2] at h ⊢;exact h
      ·rw [if_neg q2])
    by_cases h1:x<y
    ·have q1:decide (x<y)=true:=decide_eq_true h1
     have HRR:Hid ((-1:Int)=R):=Lib.hid (by have:=HA.out;rw [if_pos h1] at this;exact this.symm)
     clear h1
     go_wp2_with fail
     go_quiet (fail)
     go_wp2_with fail
     go_ret
     exact HFIN.out _ _ HRR.out (below_drewN HB.out _)
    ·have q1:decide (x<y)=false:=decide_eq_false h1
     by_cases h2:y<x
     ·have q2:decide (y<x)=true:=decide_eq_true h2
      have HRR:Hid ((1:Int)=R):=Lib.hid (by have:=HA.out;rw [if_neg h1,if_pos h2] at this;exact this.symm)
      clear h1 h2
      go_wp2_with fail
      go_quiet (fail)
      go_wp2_with fail
      go_quiet (fail)
      go_wp2_with fail
      go_ret
      exact HFIN.out _ _ HRR.out (below_drewN (below_drewN HB.out _) _)
     ·have q2:decide (y<x)=false:=decide_eq_false h2
      have HXY:Hid (x=y):=Lib.hid (by omega)
      clear h1 h2
      go_wp2_with fail
      go_quiet (fail)
      go_wp2_with fail
      go_quiet (fail)
      go_wp2_with fail
      go_roundw
      case rel=>exact ⟨k+1,by omega,by go_num,Lib.hid ⟨by first | exact below_drewN HB.out _ | exact below_drewN (below_drewN HB.out _) _,by omega,fun j hj=>by
       by_cases e:j=k
       ·subst e;rw [HX.out,HY.out];exact HXY.out
       ·exact HS.out j (by omega)⟩⟩
      case measure=>simp [intOf];omega
   ·have g2:decide (k<nm)=false:=decide_eq_false hlt2
    have q1:decide (nl<nm)=false:=decide_eq_false (by omega)
    have q2:decide (nm<nl)=true:=decide_eq_true (by omega)
    have HRR:Hid ((1:Int)=R):=Lib.hid (by
     have h:=HEND.out fun j h1 h2=>HS.out j (by rw [HNM.out] at h2;omega)
     rw [HR.out,HNL.out,HNM.out,if_neg (by omega),if_pos (by omega)] at h
     exact h.symm)
    go_wp2_with fail
    go_ret
    exact HFIN.out _ _ HRR.out HB.out
  ·have g1:decide (k<nl)=false:=decide_eq_false hlt
   obtain rfl:k=nl:=by omega
   by_cases h2:k<nm
   ·have q1:decide (k<nm)=true:=decide_eq_true h2
    have HRR:Hid ((-1:Int)=R):=Lib.hid (by
     have h:=HEND.out fun j h1 h2=>HS.out j (by rw [HNL.out] at h1;exact h1)
     rw [HR.out,HNL.out,HNM.out,if_pos h2] at h
     exact h.symm)
    go_wp2_with fail
    go_ret
    exact HFIN.out _ _ HRR.out HB.out
   ·have q1:decide (k<nm)=false:=decide_eq_false h2
    have q2:decide (nm<k)=false:=decide_eq_false (by omega)
    have HRR:Hid ((0:Int)=R):=Lib.hid (by
     have h:=HEND.out fun j h1 h2=>HS.out j (by rw [HNL.out] at h1;exact h1)
     rw [HR.out,HNL.out,HNM.out,if_neg h2,if_neg (by omega)] at h
     exact h.symm)
    go_wp2_with fail
    go_ret
    exact HFIN.out _ _ HRR.out HB.out
theorem ints3 (w:World) (g:Nat) (a b c:Int) (h:Bk w g 3 #[.int .i64 a,.int .i64 b,.int .i64 c]):IntsAt w w.heap.size (some ⟨g,0,none⟩) [a,b,c]:=by
 refine ⟨(by decide:3≤9223372036854775807),fun _=>⟨g,0,rfl,h.lt,fun i hi j hj=>?_⟩⟩
 obtain rfl:j=0:=by omega
 rw [h.cell]
 match i,hi with
 | 0,_=>rfl
 | 1,_=>rfl
 | 2,_=>rfl
theorem ordL3 (x y:LaunchD):cmpL x y=orI (ordL [x.day,x.craft,x.pad] [y.day,y.craft,y.pad]) (ordL x.cargos y.cargos):=by
 have e:ordL [x.day,x.craft,x.pad] [y.day,y.craft,y.pad]=orI (cmpI x.day y.day) (orI (cmpI x.craft y.craft) (cmpI x.pad y.pad)):=by
  simp only [ordL,cmpI,orI]
  by_cases h1:x.day<y.day <;> by_cases h2:y.day<x.day <;> by_cases h3:x.craft<y.craft <;> by_cases h4:y.craft<x.craft <;> by_cases h5:x.pad<y.pad <;> by_cases h6:y.pad<x.pad <;> simp [h1,h2,h3,h4,h5,h6]
 rw [e]
 unfold cmpL orI
 by_cases h1:cmpI x.day y.day=0
 ·simp only [h1,if_true]
  by_cases h2:cmpI x.craft y.craft=0
  ·simp only [h2,if_true]
  ·simp only [h2,if_false]
 ·simp only [h1,if_false]
set_option maxRecDepth 100000 in
set_option maxHeartbeats 4000000 in
theorem refCompare_any (w:World) (x y:LaunchD) (A B:Option Addr) (ca cb:Nat) (hx:IntsAt w w.heap.size A x.cargos) (hy:IntsAt w w.heap.size B y.cargos) :
  Calls Tryz.prog 67 #[.agg (launchA x A ca),.agg (launchA y B cb)] w fun e w'=>e=.returned (.int .i64 (cmpL x y))∧Below w.heap.size w w':=by
 obtain ⟨W0,hW0⟩:∃ W0,(((w.alloc (.cells (launchA x A ca) 52)).alloc (.cells (launchA y B cb) 52)).alloc (.cells #[.int .i64 x.day,.int .i64 x.craft,.int .i64 x.pad] 3)).alloc (.cells #[.int .i64 y.day,.int .i64 y.craft,.int .i64 y.pad] 3)=W0:=⟨_,rfl⟩
 have hb0:Below w.heap.size w W0:=by rw [← hW0];exact ((((Below.refl _ w).alloc (Nat.le_refl _) _).alloc (by simp) _).alloc (by simp;omega) _).alloc (by simp;omega) _
 obtain ⟨qb,hqb⟩:∃ qb,w.heap.size=qb:=⟨_,rfl⟩
 have HKX:Hid (Bk W0 qb 52 (launchA x A ca)):=Lib.hid (by rw [← hW0,← hqb];exact (((Bk.new _ _ _).alloc _).alloc _).alloc _)
 have HKY:Hid (Bk W0 (qb+1) 52 (launchA y B cb)):=Lib.hid (by rw [← hW0,← hqb];exact ((Bk.newAt _ _ _ _ (by simp)).alloc _).alloc _)
 have HK1:Hid (Bk W0 (qb+1+1) 3 #[.int .i64 x.day,.int .i64 x.craft,.int .i64 x.pad]):=Lib.hid (by rw [← hW0,← hqb];exact (Bk.newAt _ _ _ _ (by simp)).alloc _)
 have HK2:Hid (Bk W0 (qb+1+1+1) 3 #[.int .i64 y.day,.int .i64 y.craft,.int .i64 y.pad]):=Lib.hid (by rw [← hW0,← hqb];exact Bk.newAt _ _ _ _ (by simp))
 have HX:=Lib.hid (hx.later hb0)
 have HY:=Lib.hid (hy.later hb0)
 have HB0:Hid (Below qb w W0):=Lib.hid (by rw [← hqb];exact hb0)
 have HR:=Lib.hid (ordL3 x y)
 obtain ⟨R,hR⟩:∃ R,cmpL x y=R:=⟨_,rfl⟩
 obtain ⟨d,hd⟩:∃ d,ordL [x.day,x.craft,x.pad] [y.day,y.craft,y.pad]=d:=⟨_,rfl⟩
 obtain ⟨og,hog⟩:∃ d,ordL x.cargos y.cargos=d:=⟨_,rfl⟩
 have H1:Hid (Calls Tryz.prog 73 #[.slice (some ⟨qb+1+1,0,none⟩) 3 3,.slice (some ⟨qb+1+1+1,0,none⟩) 3 3] W0 fun e w'=>e=.returned (.int .i64 d)∧Below W0.heap.size W0 w'):=Lib.hid (by
  rw [← hd];exact order_any W0 _ _ 3 3 [x.day,x.craft,x.pad] [y.day,y.craft,y.pad] (ints3 _ _ _ _ _ HK1.out) (ints3 _ _ _ _ _ HK2.out))
 have H2:Hid (∀ w1,Below W0.heap.size W0 w1→Calls Tryz.prog 73 #[.slice A x.cargos.length ca,.slice B y.cargos.length cb] w1 fun e w'=>e=.returned (.int .i64 og)∧Below w1.heap.size w1 w'):=Lib.hid fun w1 hb=>by
  rw [← hog];exact order_any w1 A B ca cb _ _ (HX.out.later hb) (HY.out.later hb)
 have HSZ:Hid (qb≤W0.heap.size):=Lib.hid (Nat.le_of_lt HKX.out.lt)
 have HC:Hid (∀ w1,Below W0.heap.size W0 w1→w1.cell? ⟨qb,3,none⟩=some (.slice A x.cargos.length ca)∧w1.cell? ⟨qb+1,3,none⟩=some (.slice B y.cargos.length cb)):=Lib.hid fun w1 hb =>
  ⟨(HKX.out.below hb HKX.out.lt).cell 3,(HKY.out.below hb HKY.out.lt).cell 3⟩
 rw [hR,hd,hog] at HR
 rw [hR,hqb]
 clear hx hy hb0 hd hog hR
 simp only [launchA] at hW0 ⊢
 by_cases hz:d=0
 ·have HRR:Hid (og=R):=Lib.hid (by rw [HR.out];unfold orI;rw [if_pos hz])
  subst hz
  go_enter Tryz.func67,Tryz.ntmps67
  go_wp2_with fail
  refine H1.out.mono ?_
  clear hW0 hqb
  rintro e w1 ⟨rfl,hb1⟩
  obtain ⟨c0,c1⟩:=HC.out w1 hb1
  have H2':=Lib.hid (H2.out w1 hb1)
  have HB1:=Lib.hid hb1
  clear hb1
  go_wp2_with fail
  refine H2'.out.mono ?_
  rintro e w2 ⟨rfl,hb2⟩
  go_wp2_with fail
  go_ret
  exact ⟨ret_int HRR.out,HB0.out.trans ((HB1.out.trans (hb2.mono HB1.out.size)).mono HSZ.out)⟩
 ·have HRR:Hid (d=R):=Lib.hid (by rw [HR.out];unfold orI;rw [if_neg hz])
  have hz1:(d == 0)=false:=by rw [beq_eq_false_iff_ne];exact hz
  go_enter Tryz.func67,Tryz.ntmps67
  go_wp2_with fail
  refine H1.out.mono ?_
  clear hW0 hqb
  rintro e w1 ⟨rfl,hb1⟩
  have HB1:=Lib.hid hb1
  clear hb1
  go_wp2_with fail
  go_ret
  exact ⟨ret_int HRR.out,HB0.out.trans (HB1.out.mono HSZ.out)⟩
end Go.Proofs.YtcnjenlojnognaaGreat
/- What is proved: what a plan in memory is; contracts of the closures of campaign.fault. Conditions: the plan and the launches lie in memory. -/
namespace Go.Proofs.YtcnjenlojnognaaGreat
open Go.RowKit

def launchR (x:LaunchD) (A:Option Addr) (cl:Nat) (j:Nat):Value:=match j with | 0=>.int .i64 x.day | 1=>.int .i64 x.craft | 2=>.int .i64 x.pad | _=>.slice A x.cargos.length cl
/-- The launches l lie at A. -/
structure PlanAt (w:World) (B:Nat) (A:Option Addr) (l:List LaunchD):Prop where
 sl:∃ (P:Nat→Option Addr) (Q:Nat→Nat),Sl w B 4 A l.length (fun i=>launchR (l.getD i launch0) (P i) (Q i))∧∀ i,i<l.length→IntsAt w B (P i) (l.getD i launch0).cargos
theorem PlanAt.below {w w':World} {B:Nat} {A:Option Addr} {l:List LaunchD} (h:PlanAt w B A l) (hb:Below B w w'):PlanAt w' B A l :=
 ⟨by obtain ⟨P,Q,h1,h2⟩:=h.sl;exact ⟨P,Q,h1.below hb,fun i hi=>(h2 i hi).below hb⟩⟩
theorem PlanAt.mono {w:World} {B B':Nat} {A:Option Addr} {l:List LaunchD} (h:PlanAt w B A l) (hb:B≤B'):PlanAt w B' A l :=
 ⟨by obtain ⟨P,Q,h1,h2⟩:=h.sl;exact ⟨P,Q,h1.mono hb,fun i hi=>Sl.mono (h2 i hi) hb⟩⟩
theorem PlanAt.later {w w':World} {A:Option Addr} {l:List LaunchD} (h:PlanAt w w.heap.size A l) (hb:Below w.heap.size w w'):PlanAt w' w'.heap.size A l:=(h.below hb).mono hb.size
theorem PlanAt.len {w:World} {B:Nat} {A:Option Addr} {l:List LaunchD} (h:PlanAt w B A l):l.length≤9223372036854775807:=by obtain ⟨_,_,h1,_⟩:=h.sl;exact h1.1
/-- The first k of a plan. -/
theorem PlanAt.take {w:World} {B:Nat} {A:Option Addr} {l:List LaunchD} (h:PlanAt w B A l) (k:Nat) (hk:k≤l.length):PlanAt w B A (l.take k):=by
 obtain ⟨P,Q,h1,h2⟩:=h.sl
 have e:∀ i,i<k→(l.take k).getD i launch0=l.getD i launch0:=fun i hi=>by
  rw [List.getD_eq_getElem?_getD,List.getD_eq_getElem?_getD,List.getElem?_take_of_lt hi]
 have hl:(l.take k).length=k:=by rw [List.length_take];omega
 refine ⟨P,Q,⟨by have:=h1.1;omega,fun hn=>?_⟩,fun i hi=>?_⟩
 ·obtain ⟨b,off,ea,hB,hc⟩:=h1.2 (by omega)
  exact ⟨b,off,ea,hB,fun i hi j hj=>by dsimp only;rw [e i (by omega)];exact hc i (by omega) j hj⟩
 ·rw [e i (by omega)];exact h2 i (by omega)
theorem PlanAt.at {w:World} {B:Nat} {A:Option Addr} {l:List LaunchD} (h:PlanAt w B A l) {i:Nat} (hi:i<l.length) :
  ∃ b off P Q,A=some ⟨b,off,none⟩∧b<B∧(∀ j u,(launchA (l.getD i launch0) P Q)[j]?=some u→w.cell? ⟨b,off+i * 4+j,none⟩=some u)∧IntsAt w B P (l.getD i launch0).cargos:=by
 obtain ⟨P,Q,h1,h2⟩:=h.sl
 obtain ⟨b,off,e,hB,hc⟩:=h1.2 (by omega)
 refine ⟨b,off,P i,Q i,e,hB,fun j u hu=>?_,h2 i hi⟩
 have hj:j<4:=by have:=(Array.getElem?_eq_some_iff.1 hu).1;exact this
 rw [hc i hi j hj]
 match j,hj with
 | 0,_=>exact hu
 | 1,_=>exact hu
 | 2,_=>exact hu
 | 3,_=>exact hu
theorem PlanAt.nil (w:World) (B:Nat) (A:Option Addr):PlanAt w B A []:=⟨fun _=>none,fun _=>0,Sl.nil _ _ _ _ _,fun i hi=>absurd hi (Nat.not_lt_zero i)⟩
theorem any_list {α:Type} (l:List α) (q:α→Bool) (d:α):(!(allN l.length fun i=>!q (l.getD i d)))=l.any q:=by
 have:=allN_list l (fun x=>!q x) d
 rw [this,List.all_eq_not_any_not];simp
theorem any_num (l:List Int) (q:Int→Bool):(!(allN l.length fun i=>!q (numI l i)))=l.any q:=any_list l q 0
/-- ContainsFunc at launches. -/
theorem conL_any (w:World) (A:Option Addr) (c:Nat) (l:List LaunchD) (h:PlanAt w w.heap.size A l) (g:Nat) (lb:Array Value) (q:LaunchD→Bool)
  (eg:∀ args w,(callFunc g args).run Tryz.prog w=.ok (.enter g args) w)
  (hq:∀ w',Below w.heap.size w w'→∀ (x:LaunchD) (P:Option Addr) (Q:Nat),x ∈ l→IntsAt w' w'.heap.size P x.cargos→Calls Tryz.prog g (#[.agg (launchA x P Q)] ++ lb) w' fun e w''=>e=.returned (.bool (q x))∧Below w'.heap.size w' w'') :
  Calls Tryz.prog 57 #[.slice A l.length c,.func (.func g) #[] lb] w fun e w'=>e=.returned (.bool (l.any q))∧Below w.heap.size w w':=by
 obtain ⟨P,Q,h1,h2⟩:=h.sl
 rw [← any_list l q launch0]
 refine conLau w A l.length c _ h1 g lb (fun i=>q (l.getD i launch0)) eg ?_
 intro w' hw' i hi
 exact hq w' hw' (l.getD i launch0) (P i) (Q i) (by rw [List.getD_eq_getElem?_getD,List.getElem?_eq_getElem hi,Option.getD_some];exact List.getElem_mem hi) ((h2 i hi).later hw')
set_option maxHeartbeats 1000000 in
theorem inner_any (w:World) (yb:Nat) (A:Option Addr) (n c:Nat) (l:List Int) (hn:l.length=n) (hy:w.cell? ⟨yb,3,none⟩=some (.slice A n c)) (h:IntsAt w w.heap.size A l) (i:Int) :
  Calls Tryz.prog 81 #[.int .i64 i,.pointer (some ⟨yb,0,none⟩)] w fun e w'=>e=.returned (.bool (l.contains i))∧w'=w:=by
 have H:=Lib.hid (contains_any w A c l i h)
 rw [hn] at H
 obtain ⟨R,hR⟩:∃ R,l.contains i=R:=⟨_,rfl⟩
 rw [hR] at H ⊢
 clear h hn hR
 go_enter Tryz.func81,Tryz.ntmps81
 go_wp2_with fail
 refine H.out.mono ?_
 rintro e w' ⟨rfl,rfl⟩
 go_wp2_with fail
 go_ret
 exact ⟨rfl,rfl⟩
set_option maxRecDepth 100000 in
set_option maxHeartbeats 2000000 in
theorem there_any (w:World) (xb:Nat) (x y:LaunchD) (A B:Option Addr) (ca cb:Nat) (hx:Bk w xb 52 (launchA x A ca)) (hl:IntsAt w w.heap.size A x.cargos) (hy:IntsAt w w.heap.size B y.cargos) :
  Calls Tryz.prog 79 #[.agg (launchA y B cb),.pointer (some ⟨xb,0,none⟩)] w fun e w'=>e=.returned (.bool (x.cargos.any fun i=>y.cargos.contains i))∧Below w.heap.size w w':=by
 obtain ⟨W0,hW0⟩:∃ W0,w.alloc (.cells (launchA y B cb) 52)=W0:=⟨_,rfl⟩
 have hb0:Below w.heap.size w W0:=by rw [← hW0];exact (Below.refl _ w).alloc (Nat.le_refl _) _
 obtain ⟨qb,hqb⟩:∃ qb,w.heap.size=qb:=⟨_,rfl⟩
 have HKY:Hid (Bk W0 qb 52 (launchA y B cb)):=Lib.hid (by rw [← hW0,← hqb];exact Bk.new _ _ _)
 have HKX:=Lib.hid (hx.below hb0 hx.lt)
 have HY:=Lib.hid (hy.later hb0)
 have HL:=Lib.hid (hl.later hb0)
 have HB0:Hid (Below qb w W0):=Lib.hid (by rw [← hqb];exact hb0)
 have HC:Hid (Calls Tryz.prog 80 #[.slice A x.cargos.length ca,.func (.func 81) #[] #[.pointer (some ⟨qb,0,none⟩)]] W0 fun e w'=>e=.returned (.bool (x.cargos.any fun i=>y.cargos.contains i))∧Below W0.heap.size W0 w'):=Lib.hid (by
  rw [← any_num]
  refine conInt W0 A x.cargos.length ca _ HL.out 81 #[.pointer (some ⟨qb,0,none⟩)] (fun i=>y.cargos.contains (numI x.cargos i)) (fun args w=>by kernel_rfl) ?_
  intro w' hw' i hi
  have hk:=HKY.out.below hw' HKY.out.lt
  exact (inner_any w' qb B y.cargos.length cb y.cargos rfl (hk.cell 3) (HY.out.later hw') _).mono fun e w'' ⟨a,b⟩=>⟨a,by rw [b];exact Below.refl _ _⟩)
 have c3:W0.cell? ⟨xb,3,none⟩=some (.slice A x.cargos.length ca):=HKX.out.cell 3
 have HSZ:Hid (qb≤W0.heap.size):=Lib.hid (Nat.le_of_lt HKY.out.lt)
 obtain ⟨R,hR⟩:∃ R,(x.cargos.any fun i=>y.cargos.contains i)=R:=⟨_,rfl⟩
 rw [hR] at HC ⊢
 rw [hqb]
 clear hx hl hy hb0 hR
 simp only [launchA] at hW0 ⊢
 go_enter Tryz.func79,Tryz.ntmps79
 go_upto_region 1 with (fail)
 clear hW0 hqb
 go_wp2_with fail
 refine HC.out.mono ?_
 rintro e w' ⟨rfl,hb⟩
 go_wp2_with fail
 go_ret
 exact ⟨rfl,HB0.out.trans (hb.mono HSZ.out)⟩
/-- A day that does not run over. -/
def DayOk (y:LaunchD):Prop:=-4611686018427387904≤y.day∧y.day≤4611686018427387904
set_option maxRecDepth 100000 in
set_option maxHeartbeats 2000000 in
theorem again_any (w:World) (xb gb:Nat) (x y:LaunchD) (A B:Option Addr) (ca cb:Nat) (again:Int) (ha:0≤again∧again≤10000) (hd:DayOk y) (hx:Bk w xb 52 (launchA x A ca)) (hg:w.cell? ⟨gb,0,none⟩=some (.int .i64 again)) :
  Calls Tryz.prog 83 #[.agg (launchA y B cb),.pointer (some ⟨xb,0,none⟩),.pointer (some ⟨gb,0,none⟩)] w fun e w'=>e=.returned (.bool (decide (y.craft=x.craft) && (decide (again=0) || decide (x.day<y.day+again))))∧Below w.heap.size w w':=by
 have x0:w.cell? ⟨xb,0,none⟩=some (.int .i64 x.day):=hx.cell 0
 have x1:w.cell? ⟨xb,1,none⟩=some (.int .i64 x.craft):=hx.cell 1
 have hxl:=hx.lt
 have hgl:gb<w.heap.size:=World.block_lt_of_cell? w _ hg
 unfold DayOk at hd
 have hb0:∀ o,Below w.heap.size w (w.alloc o):=fun o=>(Below.refl _ _).alloc (Nat.le_refl _) _
 obtain ⟨ha0,ha1⟩:=ha
 obtain ⟨hd0,hd1⟩:=hd
 clear hx
 obtain ⟨R,hR⟩:∃ R,(decide (y.craft=x.craft) && (decide (again=0) || decide (x.day<y.day+again)))=R:=⟨_,rfl⟩
 have HR:=Lib.hid hR
 rw [hR]
 clear hR
 simp only [launchA]
 by_cases h1:y.craft=x.craft
 ·have g1:(y.craft == x.craft)=true:=by rw [beq_iff_eq];exact h1
  have H1:=Lib.hid h1
  clear h1
  by_cases h2:again=0
  ·have HRR:Hid (true=R):=Lib.hid (by rw [← HR.out,decide_eq_true H1.out,decide_eq_true h2];rfl)
   subst h2
   go_enter Tryz.func83,Tryz.ntmps83
   go_wp2_with fail
   go_ret
   exact ⟨ret_bool HRR.out,hb0 _⟩
  ·have g2:(again == 0)=false:=by rw [beq_eq_false_iff_ne];exact h2
   obtain ⟨b3,h3⟩:∃ b,decide (x.day<y.day+again)=b:=⟨_,rfl⟩
   have HRR:Hid (b3=R):=Lib.hid (by rw [← HR.out,decide_eq_true H1.out,decide_eq_false h2,h3];cases b3 <;> rfl)
   clear h2
   go_enter Tryz.func83,Tryz.ntmps83
   go_wp2_with fail
   go_ret
   exact ⟨ret_bool HRR.out,hb0 _⟩
 ·have g1:(y.craft == x.craft)=false:=by rw [beq_eq_false_iff_ne];exact h1
  have HRR:Hid (false=R):=Lib.hid (by rw [← HR.out,decide_eq_false h1];rfl)
  clear h1
  go_enter Tryz.func83,Tryz.ntmps83
  go_wp2_with fail
  go_ret
  exact ⟨ret_bool HRR.out,hb0 _⟩
set_option maxRecDepth 100000 in
set_option maxHeartbeats 2000000 in
theorem clean_any (w:World) (xb gb:Nat) (x y:LaunchD) (A B:Option Addr) (ca cb:Nat) (clean:Int) (ha:0≤clean∧clean≤10000) (hd:DayOk y) (hx:Bk w xb 52 (launchA x A ca)) (hg:w.cell? ⟨gb,0,none⟩=some (.int .i64 clean)) :
  Calls Tryz.prog 84 #[.agg (launchA y B cb),.pointer (some ⟨xb,0,none⟩),.pointer (some ⟨gb,0,none⟩)] w fun e w'=>e=.returned (.bool (decide (y.pad=x.pad) && decide (x.day<y.day+clean)))∧Below w.heap.size w w':=by
 have x0:w.cell? ⟨xb,0,none⟩=some (.int .i64 x.day):=hx.cell 0
 have x2:w.cell? ⟨xb,2,none⟩=some (.int .i64 x.pad):=hx.cell 2
 have hxl:=hx.lt
 have hgl:gb<w.heap.size:=World.block_lt_of_cell? w _ hg
 unfold DayOk at hd
 have hb0:∀ o,Below w.heap.size w (w.alloc o):=fun o=>(Below.refl _ _).alloc (Nat.le_refl _) _
 obtain ⟨ha0,ha1⟩:=ha
 obtain ⟨hd0,hd1⟩:=hd
 clear hx
 obtain ⟨R,hR⟩:∃ R,(decide (y.pad=x.pad) && decide (x.day<y.day+clean))=R:=⟨_,rfl⟩
 have HR:=Lib.hid hR
 rw [hR]
 clear hR
 simp only [launchA]
 by_cases h1:y.pad=x.pad
 ·have g1:(y.pad == x.pad)=true:=by rw [beq_iff_eq];exact h1
  obtain ⟨b3,h3⟩:∃ b,decide (x.day<y.day+clean)=b:=⟨_,rfl⟩
  have HRR:Hid (b3=R):=Lib.hid (by rw [← HR.out,decide_eq_true h1,h3];cases b3 <;> rfl)
  clear h1
  go_enter Tryz.func84,Tryz.ntmps84
  go_wp2_with fail
  go_ret
  exact ⟨ret_bool HRR.out,hb0 _⟩
 ·have g1:(y.pad == x.pad)=false:=by rw [beq_eq_false_iff_ne];exact h1
  have HRR:Hid (false=R):=Lib.hid (by rw [← HR.out,decide_eq_false h1];rfl)
  clear h1
  go_enter Tryz.func84,Tryz.ntmps84
  go_wp2_with fail
  go_ret
  exact ⟨ret_bool HRR.out,hb0 _⟩
end Go.Proofs.YtcnjenlojnognaaGreat
/- What is proved: a contract of campaign.fault. Conditions: the campaign, which is valid, the plan and the launch lie in memory; no day of the plan runs over. -/
namespace Go.Proofs.YtcnjenlojnognaaGreat
open Go.RowKit

/-- What the two boxes of fault hold. -/
def FaultR (W1:World) (ag cn:Int) (v7 v8:Value) (w':World):Prop:=∃ ga gc,v7=.pointer (some ⟨ga,0,none⟩)∧v8=.pointer (some ⟨gc,0,none⟩)∧Below W1.heap.size W1 w'∧w'.cell? ⟨ga,0,none⟩=some (.int .i64 ag)∧w'.cell? ⟨gc,0,none⟩=some (.int .i64 cn)
theorem possible_yes (w:World) (V:CV) (c:CampD) (h:CampAt w w.heap.size V c) (hc:campB c=true) (x:LaunchD) (A:Option Addr) (cl:Nat) (hl:IntsAt w w.heap.size A x.cargos) (b:Bool) (hb:possB c x=b) :
  Calls Tryz.prog 78 #[.agg (campA V c),.agg (launchA x A cl)] w fun e w'=>e=.returned (.bool b)∧Below w.heap.size w w':=by rw [← hb];exact possible_any w V c h hc x A cl hl
set_option maxRecDepth 100000 in
set_option maxHeartbeats 16000000 in
theorem fault_any (w:World) (V:CV) (c:CampD) (h:CampAt w w.heap.size V c) (hc:campB c=true) (l:List LaunchD) (AL:Option Addr) (cL:Nat) (hp:PlanAt w w.heap.size AL l) (hd:∀ y ∈ l,DayOk y) (x:LaunchD) (A:Option Addr) (cl:Nat) (hl:IntsAt w w.heap.size A x.cargos) :
  Calls Tryz.prog 37 #[.agg (campA V c),.slice AL l.length cL,.agg (launchA x A cl)] w fun e w'=>e=.returned (.int .i64 (faultB c l x))∧Below w.heap.size w w':=by
 obtain ⟨qb,hqb⟩:∃ qb,w.heap.size=qb:=⟨_,rfl⟩
 obtain ⟨W0,hW0⟩:∃ W0,(w.alloc (.cells (campA V c) 26)).alloc (.cells (launchA x A cl) 52)=W0:=⟨_,rfl⟩
 have hb0:Below w.heap.size w W0:=by rw [← hW0];exact ((Below.refl _ w).alloc (Nat.le_refl _) _).alloc (by simp) _
 have HB0:Hid (Below qb w W0):=Lib.hid (by rw [← hqb];exact hb0)
 have HKC:Hid (Bk W0 qb 26 (campA V c)):=Lib.hid (by rw [← hW0,← hqb];exact (Bk.new _ _ _).alloc _)
 have HKL:Hid (Bk W0 (qb+1) 52 (launchA x A cl)):=Lib.hid (by rw [← hW0,← hqb];exact Bk.newAt _ _ _ _ (by simp))
 have hLT:qb+1<W0.heap.size:=HKL.out.lt
 have HSZ:Hid (qb≤W0.heap.size):=Lib.hid (by omega)
 have HCA:=Lib.hid (h.later hb0)
 have HPA:=Lib.hid (hp.later hb0)
 have HLA:=Lib.hid (hl.later hb0)
 have HD:=Lib.hid hd
 obtain ⟨R,hR⟩:∃ R,faultB c l x=R:=⟨_,rfl⟩
 have HR:=Lib.hid hR
 have HFIN:Hid (∀ (z:Int) (w':World),z=R→Below qb w w'→Ending.returned (.int .i64 z)=.returned (.int .i64 R)∧Below qb w w'):=Lib.hid fun z w' h1 h2=>by subst h1;exact ⟨rfl,h2⟩
 have hll:=hp.len
 obtain ⟨nl,hnl⟩:∃ nl,l.length=nl:=⟨_,rfl⟩
 have HNL:=Lib.hid hnl
 have HCAMP:=Lib.hid hc
 obtain ⟨bp,hbp⟩:∃ b,possB c x=b:=⟨_,rfl⟩
 have HBP:=Lib.hid hbp
 have HPOS:=Lib.hid (possible_yes W0 V c HCA.out hc x A cl HLA.out bp hbp)
 rw [hnl] at hll ⊢
 rw [hR,hqb]
 clear h hp hl hd hb0 hR hnl hc hbp
 have hlc:∀ j u,(campA V c)[j]?=some u→W0.cell? ⟨qb,0+j,none⟩=some u:=fun j u hj=>by rw [Nat.zero_add,HKC.out.cell];exact hj
 have hlx:∀ j u,(launchA x A cl)[j]?=some u→W0.cell? ⟨qb+1,0+j,none⟩=some u:=fun j u hj=>by rw [Nat.zero_add,HKL.out.cell];exact hj
 have HLC:=Lib.hid hlc
 have HLX:=Lib.hid hlx
 clear hlc hlx hLT
 cases bp with
 | false =>
  have HRR:Hid ((2:Int)=R):=Lib.hid (by rw [← HR.out];unfold faultB;rw [if_pos HBP.out])
  simp only [campA,launchA] at hW0 ⊢
  go_enter Tryz.func37,Tryz.ntmps37
  go_upto_region 1 with (fail)
  clear hW0 hqb
  go_wp2_with (first | (refine wpLoadAt rfl 26 _ rfl qb 0 rfl (campA V c) _ HLC.out und_camp rfl (info_campA V c) ?_) | (refine wpLoadAt rfl 52 _ rfl (qb+1) 0 rfl (launchA x A cl) _ HLX.out und_launch rfl info_launch ?_))
  refine HPOS.out.mono ?_
  rintro e w1 ⟨rfl,hb1⟩
  have HB1:=Lib.hid (HB0.out.trans (hb1.mono HSZ.out))
  clear hb1
  go_wp2_with fail
  go_ret
  exact HFIN.out _ _ HRR.out HB1.out
 | true =>
 have hpp:=possB_parts HBP.out
 obtain ⟨ic,hic⟩:∃ ic:Nat,x.craft=(ic:Int):=⟨x.craft.toNat,by have:=hpp.1;omega⟩
 obtain ⟨ip,hip⟩:∃ ip:Nat,x.pad=(ip:Int):=⟨x.pad.toNat,by have:=hpp.2.2.1;omega⟩
 have hicn:ic<c.crafts.length:=by have:=hpp.2.1;omega
 have hipn:ip<c.pads.length:=by have:=hpp.2.2.2.1;omega
 have HIC:=Lib.hid hic
 have HIP:=Lib.hid hip
 obtain ⟨nc,hnc⟩:∃ nc,c.crafts.length=nc:=⟨_,rfl⟩
 obtain ⟨np,hnp⟩:∃ np,c.pads.length=np:=⟨_,rfl⟩
 have hn3:nc≤3:=by have:=camp_len HCAMP.out;omega
 have hn2:np≤2:=by have:=camp_len HCAMP.out;omega
 obtain ⟨ag,hag⟩:∃ ag,(c.craftN ic).again=ag:=⟨_,rfl⟩
 obtain ⟨cn,hcn⟩:∃ cn,(c.padN ip).clean=cn:=⟨_,rfl⟩
 have HAG:Hid ((c.craft x.craft).again=ag):=Lib.hid (by rw [hic];exact hag)
 have HCN:Hid ((c.pad x.pad).clean=cn):=Lib.hid (by rw [hip];exact hcn)
 obtain ⟨cb,co,hcA,hcb,_,_,_,g3⟩:=Sl.at4 HCA.out.crafts (i:=ic) hicn
 obtain ⟨pb,po,hpA,hpb,_,g1,_⟩:=Sl.at3 HCA.out.pads (i:=ip) hipn
 dsimp only [craftC] at g3
 dsimp only [padC] at g1
 rw [hag] at g3
 rw [hcn] at g1
 have HC:Hid (∀ w1,Below W0.heap.size W0 w1→w1.cell? ⟨qb,0,none⟩=some (.slice (some ⟨cb,co,none⟩) nc V.cc)∧w1.cell? ⟨qb,1,none⟩=some (.slice (some ⟨pb,po,none⟩) np V.pc) ∧
   w1.cell? ⟨qb+1,1,none⟩=some (.int .i64 (ic:Int))∧w1.cell? ⟨qb+1,2,none⟩=some (.int .i64 (ip:Int))∧w1.cell? ⟨cb,co+ic * 4+3,none⟩=some (.int .i64 ag)∧w1.cell? ⟨pb,po+ip * 3+1,none⟩=some (.int .i64 cn)):=Lib.hid fun w1 hb=>by
  have k1:=HKC.out.below hb HKC.out.lt
  have k2:=HKL.out.below hb HKL.out.lt
  rw [← hnc,← hnp,← hcA,← hpA,← hic,← hip]
  exact ⟨k1.cell 0,k1.cell 1,k2.cell 1,k2.cell 2,(hb.cell (p:=⟨cb,co+ic * 4+3,none⟩) hcb).trans g3,(hb.cell (p:=⟨pb,po+ip * 3+1,none⟩) hpb).trans g1⟩
 have hici:(ic:Int)<(nc:Int):=by omega
 have hipi:(ip:Int)<(np:Int):=by omega
 have h0ic:(0:Int)≤(ic:Int):=by omega
 have h0ip:(0:Int)≤(ip:Int):=by omega
 have HBL:Hid (qb+1<W0.heap.size∧cb<W0.heap.size∧pb<W0.heap.size):=Lib.hid ⟨HKL.out.lt,hcb,hpb⟩
 clear hpp hic hip hnc hnp hag hcn hcA hpA g1 g3 hicn hipn hcb hpb
 simp only [campA,launchA] at hW0 ⊢
 go_enter Tryz.func37,Tryz.ntmps37
 go_upto_region 1 with (fail)
 clear hW0 hqb
 go_wp2_with (first | (refine wpLoadAt rfl 26 _ rfl qb 0 rfl (campA V c) _ HLC.out und_camp rfl (info_campA V c) ?_) | (refine wpLoadAt rfl 52 _ rfl (qb+1) 0 rfl (launchA x A cl) _ HLX.out und_launch rfl info_launch ?_))
 refine HPOS.out.mono ?_
 rintro e W1 ⟨rfl,hb1⟩
 have HB1:=Lib.hid hb1
 obtain ⟨q0,q1,q2,q3,q4,q5⟩:=HC.out W1 hb1
 have hbs:=hb1.size
 obtain ⟨l1,l2,l3⟩:=HBL.out
 have l1a:qb+1<W1.heap.size:=by omega
 have l1b:qb+1<W1.heap.size+1:=by omega
 have l1e:qb<W1.heap.size:=by omega
 have l1f:qb<W1.heap.size+1:=by omega
 have l2a:cb<W1.heap.size:=by omega
 have l2b:cb<W1.heap.size+1:=by omega
 have l3a:pb<W1.heap.size:=by omega
 have l3b:pb<W1.heap.size+1:=by omega
 clear hb1 hbs l1 l2 l3
 go_upto_region 3 with (fail)
 go_cut [7,8] (fun v7 v8 w'=>FaultR W1 ag cn v7 v8 w')
 case first =>
  go_region
  all_goals
   go_wp2_with fail
   go_meet
   case rel=>exact ⟨_,_,rfl,rfl,(((Below.refl _ W1).alloc (Nat.le_refl _) _).alloc (by simp) _).drew,by simp,by simp⟩
 case rest =>
  obtain ⟨ga,gc,rfl,rfl,hb2,ha,hcl⟩:=hcut
  have HB2:=Lib.hid hb2
  have Hwc:Hid (Below W0.heap.size W0 wc):=Lib.hid (HB1.out.trans (hb2.mono HB1.out.size))
  have HGA:Hid (∀ w1,Below wc.heap.size wc w1→w1.cell? ⟨ga,0,none⟩=some (.int .i64 ag)):=Lib.hid fun w1 hb=>(hb.cell (p:=⟨ga,0,none⟩) (World.block_lt_of_cell? wc _ ha)).trans ha
  have HGC:Hid (∀ w1,Below wc.heap.size wc w1→w1.cell? ⟨gc,0,none⟩=some (.int .i64 cn)):=Lib.hid fun w1 hb=>(hb.cell (p:=⟨gc,0,none⟩) (World.block_lt_of_cell? wc _ hcl)).trans hcl
  have HKL2:Hid (∀ w1,Below wc.heap.size wc w1→Bk w1 (qb+1) 52 (launchA x A cl)):=Lib.hid fun w1 hb=>HKL.out.below (Hwc.out.trans (hb.mono Hwc.out.size)) HKL.out.lt
  have HPA2:Hid (∀ w1,Below wc.heap.size wc w1→PlanAt w1 w1.heap.size AL l):=Lib.hid fun w1 hb=>HPA.out.later (Hwc.out.trans (hb.mono Hwc.out.size))
  have HLA2:Hid (∀ w1,Below wc.heap.size wc w1→IntsAt w1 w1.heap.size A x.cargos):=Lib.hid fun w1 hb=>HLA.out.later (Hwc.out.trans (hb.mono Hwc.out.size))
  have HEND:Hid (∀ w1,Below wc.heap.size wc w1→Below qb w w1):=Lib.hid fun w1 hb=>HB0.out.trans ((Hwc.out.trans (hb.mono Hwc.out.size)).mono HSZ.out)
  have ha0:0≤ag∧ag≤10000:=by have:=camp_craft HCAMP.out x.craft;rw [HAG.out] at this;omega
  have hc0:0≤cn∧cn≤10000:=by have:=camp_pad HCAMP.out x.pad;rw [HCN.out] at this;omega
  have HA0:=Lib.hid ha0
  have HC0:=Lib.hid hc0
  obtain ⟨t1,ht1⟩:∃ b,(l.any fun y=>x.cargos.any fun i=>y.cargos.contains i)=b:=⟨_,rfl⟩
  obtain ⟨t2,ht2⟩:∃ b,(l.any fun y=>decide (y.craft=x.craft) && (decide (ag=0) || decide (x.day<y.day+ag)))=b:=⟨_,rfl⟩
  obtain ⟨t3,ht3⟩:∃ b,(l.any fun y=>decide (y.pad=x.pad) && decide (x.day<y.day+cn))=b:=⟨_,rfl⟩
  obtain ⟨t0,ht0⟩:∃ b,decide (0<l.length∧0≤cmpL (l.getD (l.length - 1) launch0) x)=b:=⟨_,rfl⟩
  have HRR:Hid (R=if t0=true then 21 else if t1=true then 8 else if t2=true then 9 else if t3=true then 6 else 0):=Lib.hid (by
   rw [← HR.out]
   unfold faultB
   rw [if_neg (by rw [HBP.out];decide),HAG.out,HCN.out,ht1,ht2,ht3,← ht0]
   simp only [decide_eq_true_eq])
  have HT1:Hid (∀ w1,Below wc.heap.size wc w1→Calls Tryz.prog 57 #[.slice AL nl cL,.func (.func 79) #[] #[.pointer (some ⟨qb+1,0,none⟩)]] w1 fun e w'=>e=.returned (.bool t1)∧Below w1.heap.size w1 w'):=Lib.hid fun w1 hb=>by
   rw [← ht1,← HNL.out]
   exact conL_any w1 AL cL l (HPA2.out w1 hb) 79 _ _ (fun args w=>by kernel_rfl) fun w2 hw2 y P Q _ hy =>
    there_any w2 (qb+1) x y A P cl Q (HKL2.out w2 (hb.trans (hw2.mono hb.size))) (HLA2.out w2 (hb.trans (hw2.mono hb.size))) hy
  have HT2:Hid (∀ w1,Below wc.heap.size wc w1→Calls Tryz.prog 57 #[.slice AL nl cL,.func (.func 83) #[] #[.pointer (some ⟨qb+1,0,none⟩),.pointer (some ⟨ga,0,none⟩)]] w1 fun e w'=>e=.returned (.bool t2)∧Below w1.heap.size w1 w'):=Lib.hid fun w1 hb=>by
   rw [← ht2,← HNL.out]
   exact conL_any w1 AL cL l (HPA2.out w1 hb) 83 _ _ (fun args w=>by kernel_rfl) fun w2 hw2 y P Q hm _ =>
    again_any w2 (qb+1) ga x y A P cl Q ag HA0.out (HD.out y hm) (HKL2.out w2 (hb.trans (hw2.mono hb.size))) (HGA.out w2 (hb.trans (hw2.mono hb.size)))
  have HT3:Hid (∀ w1,Below wc.heap.size wc w1→Calls Tryz.prog 57 #[.slice AL nl cL,.func (.func 84) #[] #[.pointer (some ⟨qb+1,0,none⟩),.pointer (some ⟨gc,0,none⟩)]] w1 fun e w'=>e=.returned (.bool t3)∧Below w1.heap.size w1 w'):=Lib.hid fun w1 hb=>by
   rw [← ht3,← HNL.out]
   exact conL_any w1 AL cL l (HPA2.out w1 hb) 84 _ _ (fun args w=>by kernel_rfl) fun w2 hw2 y P Q hm _ =>
    clean_any w2 (qb+1) gc x y A P cl Q cn HC0.out (HD.out y hm) (HKL2.out w2 (hb.trans (hw2.mono hb.size))) (HGC.out w2 (hb.trans (hw2.mono hb.size)))
  have HT0:=Lib.hid ht0
  clear ht1 ht2 ht3 ht0 ha hcl hb2 ha0 hc0 q0 q1 q2 q3 q4 q5 l1a l1b l1e l1f l2a l2b l3a l3b hici hipi h0ic h0ip
  rcases Nat.eq_zero_or_pos nl with hz | hz
  ·have HF0:Hid (t0=false):=Lib.hid (by rw [← HT0.out,HNL.out,hz];simp)
   subst hz
   go_wp2_with fail
   refine wp_region_steps (by kernel_rfl) (by kernel_rfl) (fun w1=>Below wc.heap.size wc w1) (fun _ _ _=>True)
    (fun ix u _ _=>match ix with
     | 0=>u=.slice AL 0 cL
     | 1=>u=.int .i64 0
     | 2=>u=.bool false
     | 3=>u=.bool false
     | 4=>True
     | 5=>True
     | 6=>True
     | 7=>True
     | 8=>True
     | 9=>True
     | 10=>True
     | 11=>True
     | 12=>True
     | 13=>u=.bool false
     | _=>u=.bool false) (Below.refl _ _).drew (fun _ _ _ _ _ _ _ _ h _ _=>h) ?_ ?_
   ·refine ⟨?_,?_,?_,?_,?_,?_,?_,?_,?_,?_,?_,?_,?_,?_,?_,trivial⟩
    ·intro a w1 vs K HJ HK HD HN kk
     have e1:=HK 1 (by decide)
     go_simp;exact kk _ _ (by simp) HJ trivial rfl
    ·intro a w1 vs K HJ HK HD HN kk
     have e30:=hdE (HD 0 _ 30 rfl rfl rfl)
     go_simp;exact kk _ _ (by simp) HJ trivial rfl
    ·intro a w1 vs K HJ HK HD HN kk
     have e31:=hdE (HD 1 _ 31 rfl rfl rfl)
     go_simp;exact kk _ _ (by simp) HJ trivial rfl
    ·intro a w1 vs K HJ HK HD HN kk
     have e32:=hdE (HD 2 _ 32 rfl rfl rfl)
     go_simp;exact kk _ _ (by simp) HJ trivial rfl
    ·intro a w1 vs K HJ HK HD HN kk
     have e33:=hdE (HD 3 _ 33 rfl rfl rfl)
     rw [if_neg (wanted_no 3 true rfl rfl rfl e33)]
     exact kk undef _ (by simp) HJ trivial trivial
    ·intro a w1 vs K HJ HK HD HN kk
     have e33:=hdE (HD 3 _ 33 rfl rfl rfl)
     rw [if_neg (wanted_no 3 true rfl rfl rfl e33)]
     exact kk undef _ (by simp) HJ trivial trivial
    ·intro a w1 vs K HJ HK HD HN kk
     have e33:=hdE (HD 3 _ 33 rfl rfl rfl)
     rw [if_neg (wanted_no 3 true rfl rfl rfl e33)]
     exact kk undef _ (by simp) HJ trivial trivial
    ·intro a w1 vs K HJ HK HD HN kk
     have e33:=hdE (HD 3 _ 33 rfl rfl rfl)
     rw [if_neg (wanted_no 3 true rfl rfl rfl e33)]
     exact kk undef _ (by simp) HJ trivial trivial
    ·intro a w1 vs K HJ HK HD HN kk
     have e33:=hdE (HD 3 _ 33 rfl rfl rfl)
     rw [if_neg (wanted_no 3 true rfl rfl rfl e33)]
     exact kk undef _ (by simp) HJ trivial trivial
    ·intro a w1 vs K HJ HK HD HN kk
     have e33:=hdE (HD 3 _ 33 rfl rfl rfl)
     rw [if_neg (wanted_no 3 true rfl rfl rfl e33)]
     exact kk undef _ (by simp) HJ trivial trivial
    ·intro a w1 vs K HJ HK HD HN kk
     have e33:=hdE (HD 3 _ 33 rfl rfl rfl)
     rw [if_neg (wanted_no 3 true rfl rfl rfl e33)]
     exact kk undef _ (by simp) HJ trivial trivial
    ·intro a w1 vs K HJ HK HD HN kk
     have e33:=hdE (HD 3 _ 33 rfl rfl rfl)
     rw [if_neg (wanted_no 3 true rfl rfl rfl e33)]
     exact kk undef _ (by simp) HJ trivial trivial
    ·intro a w1 vs K HJ HK HD HN kk
     have e33:=hdE (HD 3 _ 33 rfl rfl rfl)
     rw [if_neg (wanted_no 3 true rfl rfl rfl e33)]
     exact kk undef _ (by simp) HJ trivial trivial
    ·intro a w1 vs K HJ HK HD HN kk
     have e33:=hdE (HD 3 _ 33 rfl rfl rfl)
     go_simp;exact kk _ _ (by simp) HJ trivial rfl
    ·intro a w1 vs K HJ HK HD HN kk
     have e43:=hdE (HD 13 _ 43 rfl rfl rfl)
     go_simp;exact kk _ _ (by simp) HJ trivial rfl
   ·intro vs W3 hw6 hrr
    have e14:vs 14=.bool false:=hrr 14 _ rfl
    have HB3:Hid (Below wc.heap.size wc W3):=Lib.hid hw6
    clear hrr hw6
    simp only [putAll,Act.put,List.setIfInBounds_toArray,List.set_cons_zero,List.set_cons_succ]
    rw [e14]
    rw [HF0.out] at HRR
    have Ht1:=Lib.hid (HT1.out W3 HB3.out)
    cases t1 with
    | true =>
     have HRT:Hid ((8:Int)=R):=Lib.hid (by rw [HRR.out];rfl)
     go_wp2_with fail
     refine Ht1.out.mono ?_
     rintro e W4 ⟨rfl,hb3⟩
     have HB4:Hid (Below wc.heap.size wc W4):=Lib.hid (HB3.out.trans (hb3.mono HB3.out.size))
     clear hb3
     go_wp2_with fail
     go_ret
     exact HFIN.out _ _ HRT.out (HEND.out _ HB4.out)
    | false =>
    go_wp2_with fail
    refine Ht1.out.mono ?_
    rintro e W4 ⟨rfl,hb3⟩
    have HB4:Hid (Below wc.heap.size wc W4):=Lib.hid (HB3.out.trans (hb3.mono HB3.out.size))
    clear hb3
    have Ht2:=Lib.hid (HT2.out W4 HB4.out)
    cases t2 with
    | true =>
     have HRT:Hid ((9:Int)=R):=Lib.hid (by rw [HRR.out];rfl)
     go_wp2_with fail
     refine Ht2.out.mono ?_
     rintro e W5 ⟨rfl,hb3⟩
     have HB5:Hid (Below wc.heap.size wc W5):=Lib.hid (HB4.out.trans (hb3.mono HB4.out.size))
     clear hb3
     go_wp2_with fail
     go_ret
     exact HFIN.out _ _ HRT.out (HEND.out _ HB5.out)
    | false =>
    go_wp2_with fail
    refine Ht2.out.mono ?_
    rintro e W5 ⟨rfl,hb3⟩
    have HB5:Hid (Below wc.heap.size wc W5):=Lib.hid (HB4.out.trans (hb3.mono HB4.out.size))
    clear hb3
    have Ht3:=Lib.hid (HT3.out W5 HB5.out)
    cases t3 with
    | true =>
     have HRT:Hid ((6:Int)=R):=Lib.hid (by rw [HRR.out];rfl)
     go_wp2_with fail
     refine Ht3.out.mono ?_
     rintro e W6 ⟨rfl,hb3⟩
     have HB6:Hid (Below wc.heap.size wc W6):=Lib.hid (HB5.out.trans (hb3.mono HB5.out.size))
     clear hb3
     go_wp2_with fail
     go_ret
     exact HFIN.out _ _ HRT.out (HEND.out _ HB6.out)
    | false =>
    go_wp2_with fail
    refine Ht3.out.mono ?_
    rintro e W6 ⟨rfl,hb3⟩
    have HB6:Hid (Below wc.heap.size wc W6):=Lib.hid (HB5.out.trans (hb3.mono HB5.out.size))
    clear hb3
    have HRT:Hid ((0:Int)=R):=Lib.hid (by rw [HRR.out];rfl)
    go_wp2_with fail
    go_ret
    exact HFIN.out _ _ HRT.out (HEND.out _ HB6.out)
  ·obtain ⟨m,hm⟩:∃ m,nl=m+1:=⟨nl - 1,by omega⟩
   obtain ⟨lb,lo,LP,LQ,hAL,hlb,hlc,hli⟩:=(HPA2.out wc (Below.refl _ _)).at (i:=m) (by rw [HNL.out];omega)
   obtain ⟨z,hzz⟩:∃ z,cmpL (l.getD m launch0) x=z:=⟨_,rfl⟩
   have HF0:Hid (t0=decide (0≤z)):=Lib.hid (by
    rw [← HT0.out,decide_eq_decide,HNL.out,hm,show m+1 - 1=m from rfl,hzz]
    exact ⟨fun h=>h.2,fun h=>⟨Nat.succ_pos _,h⟩⟩)
   have HLL:Hid (∀ w1,Below wc.heap.size wc w1→∀ j u,(launchA (l.getD m launch0) LP LQ)[j]?=some u→w1.cell? ⟨lb,lo+m * 4+j,none⟩=some u):=Lib.hid fun w1 hb j u hu=>(hb.cell (p:=⟨lb,lo+m * 4+j,none⟩) hlb).trans (hlc j u hu)
   have HCM:Hid (∀ w1,Below wc.heap.size wc w1→Calls Tryz.prog 82 #[.agg (launchA (l.getD m launch0) LP LQ),.agg (launchA x A cl)] w1 fun e w'=>e=.returned (.int .i64 z)∧Below w1.heap.size w1 w'):=Lib.hid fun w1 hb=>by
    rw [← hzz]
    exact (compare_any w1 _ x LP A LQ cl (hli.later hb) (HLA2.out w1 hb)).mono fun e w' ⟨a,b⟩=>⟨a,b.below⟩
   have hmi:(0:Int)≤(m:Int):=by omega
   have hmn:(m:Int)<(nl:Int):=by omega
   have hgt:decide (0<nl)=true:=decide_eq_true hz
   have HWS:Hid (IntKind.i64.wrap ((nl:Int) - 1)=(m:Int)):=Lib.hid (by rw [IntWalk.i64_in _ (by omega)];omega)
   rw [hAL] at HT1 HT2 HT3 ⊢
   have HGT:=Lib.hid hgt
   clear hzz hm hlc hli hlb hAL hgt
   cases t0 with
   | true =>
    have HZ:Hid (decide (0≤z)=true):=Lib.hid HF0.out.symm
    have HRT:Hid ((21:Int)=R):=Lib.hid (by rw [HRR.out,if_pos rfl])
    go_wp2_with fail
    refine wp_region_steps (by kernel_rfl) (by kernel_rfl) (fun w1=>Below wc.heap.size wc w1) (fun _ _ _=>True)
     (fun ix u _ _=>match ix with
      | 0=>u=.slice (some ⟨lb,lo,none⟩) nl cL
      | 1=>u=.int .i64 nl
      | 2=>u=.bool true
      | 3=>u=.bool true
      | 4=>u=.slice (some ⟨lb,lo,none⟩) nl cL
      | 5=>u=.slice (some ⟨lb,lo,none⟩) nl cL
      | 6=>u=.int .i64 nl
      | 7=>u=.int .i64 (m:Int)
      | 8=>u=.pointer (some ⟨lb,lo+m * 4,none⟩)
      | 9=>u=.agg (launchA (l.getD m launch0) LP LQ)
      | 10=>u=.agg (launchA x A cl)
      | 11=>u=.int .i64 z
      | 12=>u=.bool true
      | 13=>u=.bool true
      | _=>u=.bool true) (Below.refl _ _).drew (fun _ _ _ _ _ _ _ _ h _ _=>h) ?_ ?_
    ·refine ⟨?_,?_,?_,?_,?_,?_,?_,?_,?_,?_,?_,?_,?_,?_,?_,trivial⟩
     ·intro a w1 vs K HJ HK HD HN kk
      have e1:=HK 1 (by decide)
      go_simp;exact kk _ _ (by simp) HJ trivial rfl
     ·intro a w1 vs K HJ HK HD HN kk
      have e30:=hdE (HD 0 _ 30 rfl rfl rfl)
      go_simp;exact kk _ _ (by simp) HJ trivial rfl
     ·intro a w1 vs K HJ HK HD HN kk
      have e31:=hdE (HD 1 _ 31 rfl rfl rfl)
      have h1:=HGT.out
      go_simp;exact kk _ _ (by simp) HJ trivial rfl
     ·intro a w1 vs K HJ HK HD HN kk
      have e32:=hdE (HD 2 _ 32 rfl rfl rfl)
      go_simp;exact kk _ _ (by simp) HJ trivial rfl
     ·intro a w1 vs K HJ HK HD HN kk
      have e33:=hdE (HD 3 _ 33 rfl rfl rfl)
      rw [if_pos (wanted_yes 3 true rfl rfl rfl e33)]
      have e1:=HK 1 (by decide)
      go_simp;exact kk _ _ (by simp) HJ trivial rfl
     ·intro a w1 vs K HJ HK HD HN kk
      have e33:=hdE (HD 3 _ 33 rfl rfl rfl)
      rw [if_pos (wanted_yes 3 true rfl rfl rfl e33)]
      have e1:=HK 1 (by decide)
      go_simp;exact kk _ _ (by simp) HJ trivial rfl
     ·intro a w1 vs K HJ HK HD HN kk
      have e33:=hdE (HD 3 _ 33 rfl rfl rfl)
      rw [if_pos (wanted_yes 3 true rfl rfl rfl e33)]
      have e35:=hdE (HD 5 _ 35 rfl rfl rfl)
      go_simp;exact kk _ _ (by simp) HJ trivial rfl
     ·intro a w1 vs K HJ HK HD HN kk
      have e33:=hdE (HD 3 _ 33 rfl rfl rfl)
      rw [if_pos (wanted_yes 3 true rfl rfl rfl e33)]
      have e36:=hdE (HD 6 _ 36 rfl rfl rfl)
      have hws:=HWS.out
      go_simp;exact kk _ _ (by simp) HJ trivial rfl
     ·intro a w1 vs K HJ HK HD HN kk
      have e33:=hdE (HD 3 _ 33 rfl rfl rfl)
      rw [if_pos (wanted_yes 3 true rfl rfl rfl e33)]
      have e34:=hdE (HD 4 _ 34 rfl rfl rfl)
      have e37:=hdE (HD 7 _ 37 rfl rfl rfl)
      go_simp;exact kk _ _ (by simp) HJ trivial rfl
     ·intro a w1 vs K HJ HK HD HN kk
      have e33:=hdE (HD 3 _ 33 rfl rfl rfl)
      rw [if_pos (wanted_yes 3 true rfl rfl rfl e33)]
      have e38:=hdE (HD 8 _ 38 rfl rfl rfl)
      exact wpo_loadS 52 (.tmp 38) rfl lb (lo+m * 4) (by simpa [Act.eval] using e38) (launchA (l.getD m launch0) LP LQ) _ (fun j u hj=>HLL.out w1 HJ j u hj) und_launch rfl info_launch (kk _ _ (by simp) HJ trivial rfl)
     ·intro a w1 vs K HJ HK HD HN kk
      have e33:=hdE (HD 3 _ 33 rfl rfl rfl)
      rw [if_pos (wanted_yes 3 true rfl rfl rfl e33)]
      have e5:=HK 5 (by decide)
      exact wpo_loadS 52 (.tmp 5) rfl (qb+1) 0 (by simpa [Act.eval] using e5) (launchA x A cl) _ (fun j u hj=>by rw [(HKL2.out w1 HJ).cell,Nat.zero_add];exact hj) und_launch rfl info_launch (kk _ _ (by simp) HJ trivial rfl)
     ·intro a w1 vs K HJ HK HD HN kk
      have e33:=hdE (HD 3 _ 33 rfl rfl rfl)
      rw [if_pos (wanted_yes 3 true rfl rfl rfl e33)]
      have e39:=hdE (HD 9 _ 39 rfl rfl rfl)
      have e40:=hdE (HD 10 _ 40 rfl rfl rfl)
      exact wpo_call 82 _ _ rfl #[.agg (launchA (l.getD m launch0) LP LQ),.agg (launchA x A cl)] (by simp [Act.eval,e39,e40]) (fun args w=>by kernel_rfl)
       ((HCM.out w1 HJ).mono fun e w' ⟨he,hb⟩=>⟨_,he,kk _ _ (by simp) (Below.trans HJ (hb.mono HJ.size)) trivial rfl⟩)
     ·intro a w1 vs K HJ HK HD HN kk
      have e33:=hdE (HD 3 _ 33 rfl rfl rfl)
      rw [if_pos (wanted_yes 3 true rfl rfl rfl e33)]
      have e41:=hdE (HD 11 _ 41 rfl rfl rfl)
      have hz:=HZ.out
      go_simp;exact kk _ _ (by simp) HJ trivial rfl
     ·intro a w1 vs K HJ HK HD HN kk
      have e33:=hdE (HD 3 _ 33 rfl rfl rfl)
      have e42:=hdE (HD 12 _ 42 rfl rfl rfl)
      go_simp;exact kk _ _ (by simp) HJ trivial rfl
     ·intro a w1 vs K HJ HK HD HN kk
      have e43:=hdE (HD 13 _ 43 rfl rfl rfl)
      go_simp;exact kk _ _ (by simp) HJ trivial rfl
    ·intro vs W3 hw6 hrr
     have e14:vs 14=.bool true:=hrr 14 _ rfl
     have HB3:Hid (Below wc.heap.size wc W3):=Lib.hid hw6
     clear hrr hw6
     simp only [putAll,Act.put,List.setIfInBounds_toArray,List.set_cons_zero,List.set_cons_succ]
     rw [e14]
     go_wp2_with fail
     go_ret
     exact HFIN.out _ _ HRT.out (HEND.out _ HB3.out)
   | false =>
    have HZ:Hid (decide (0≤z)=false):=Lib.hid HF0.out.symm
    go_wp2_with fail
    refine wp_region_steps (by kernel_rfl) (by kernel_rfl) (fun w1=>Below wc.heap.size wc w1) (fun _ _ _=>True)
     (fun ix u _ _=>match ix with
      | 0=>u=.slice (some ⟨lb,lo,none⟩) nl cL
      | 1=>u=.int .i64 nl
      | 2=>u=.bool true
      | 3=>u=.bool true
      | 4=>u=.slice (some ⟨lb,lo,none⟩) nl cL
      | 5=>u=.slice (some ⟨lb,lo,none⟩) nl cL
      | 6=>u=.int .i64 nl
      | 7=>u=.int .i64 (m:Int)
      | 8=>u=.pointer (some ⟨lb,lo+m * 4,none⟩)
      | 9=>u=.agg (launchA (l.getD m launch0) LP LQ)
      | 10=>u=.agg (launchA x A cl)
      | 11=>u=.int .i64 z
      | 12=>u=.bool false
      | 13=>u=.bool false
      | _=>u=.bool false) (Below.refl _ _).drew (fun _ _ _ _ _ _ _ _ h _ _=>h) ?_ ?_
    ·refine ⟨?_,?_,?_,?_,?_,?_,?_,?_,?_,?_,?_,?_,?_,?_,?_,trivial⟩
     ·intro a w1 vs K HJ HK HD HN kk
      have e1:=HK 1 (by decide)
      go_simp;exact kk _ _ (by simp) HJ trivial rfl
     ·intro a w1 vs K HJ HK HD HN kk
      have e30:=hdE (HD 0 _ 30 rfl rfl rfl)
      go_simp;exact kk _ _ (by simp) HJ trivial rfl
     ·intro a w1 vs K HJ HK HD HN kk
      have e31:=hdE (HD 1 _ 31 rfl rfl rfl)
      have h1:=HGT.out
      go_simp;exact kk _ _ (by simp) HJ trivial rfl
     ·intro a w1 vs K HJ HK HD HN kk
      have e32:=hdE (HD 2 _ 32 rfl rfl rfl)
      go_simp;exact kk _ _ (by simp) HJ trivial rfl
     ·intro a w1 vs K HJ HK HD HN kk
      have e33:=hdE (HD 3 _ 33 rfl rfl rfl)
      rw [if_pos (wanted_yes 3 true rfl rfl rfl e33)]
      have e1:=HK 1 (by decide)
      go_simp;exact kk _ _ (by simp) HJ trivial rfl
     ·intro a w1 vs K HJ HK HD HN kk
      have e33:=hdE (HD 3 _ 33 rfl rfl rfl)
      rw [if_pos (wanted_yes 3 true rfl rfl rfl e33)]
      have e1:=HK 1 (by decide)
      go_simp;exact kk _ _ (by simp) HJ trivial rfl
     ·intro a w1 vs K HJ HK HD HN kk
      have e33:=hdE (HD 3 _ 33 rfl rfl rfl)
      rw [if_pos (wanted_yes 3 true rfl rfl rfl e33)]
      have e35:=hdE (HD 5 _ 35 rfl rfl rfl)
      go_simp;exact kk _ _ (by simp) HJ trivial rfl
     ·intro a w1 vs K HJ HK HD HN kk
      have e33:=hdE (HD 3 _ 33 rfl rfl rfl)
      rw [if_pos (wanted_yes 3 true rfl rfl rfl e33)]
      have e36:=hdE (HD 6 _ 36 rfl rfl rfl)
      have hws:=HWS.out
      go_simp;exact kk _ _ (by simp) HJ trivial rfl
     ·intro a w1 vs K HJ HK HD HN kk
      have e33:=hdE (HD 3 _ 33 rfl rfl rfl)
      rw [if_pos (wanted_yes 3 true rfl rfl rfl e33)]
      have e34:=hdE (HD 4 _ 34 rfl rfl rfl)
      have e37:=hdE (HD 7 _ 37 rfl rfl rfl)
      go_simp;exact kk _ _ (by simp) HJ trivial rfl
     ·intro a w1 vs K HJ HK HD HN kk
      have e33:=hdE (HD 3 _ 33 rfl rfl rfl)
      rw [if_pos (wanted_yes 3 true rfl rfl rfl e33)]
      have e38:=hdE (HD 8 _ 38 rfl rfl rfl)
      exact wpo_loadS 52 (.tmp 38) rfl lb (lo+m * 4) (by simpa [Act.eval] using e38) (launchA (l.getD m launch0) LP LQ) _ (fun j u hj=>HLL.out w1 HJ j u hj) und_launch rfl info_launch (kk _ _ (by simp) HJ trivial rfl)
     ·intro a w1 vs K HJ HK HD HN kk
      have e33:=hdE (HD 3 _ 33 rfl rfl rfl)
      rw [if_pos (wanted_yes 3 true rfl rfl rfl e33)]
      have e5:=HK 5 (by decide)
      exact wpo_loadS 52 (.tmp 5) rfl (qb+1) 0 (by simpa [Act.eval] using e5) (launchA x A cl) _ (fun j u hj=>by rw [(HKL2.out w1 HJ).cell,Nat.zero_add];exact hj) und_launch rfl info_launch (kk _ _ (by simp) HJ trivial rfl)
     ·intro a w1 vs K HJ HK HD HN kk
      have e33:=hdE (HD 3 _ 33 rfl rfl rfl)
      rw [if_pos (wanted_yes 3 true rfl rfl rfl e33)]
      have e39:=hdE (HD 9 _ 39 rfl rfl rfl)
      have e40:=hdE (HD 10 _ 40 rfl rfl rfl)
      exact wpo_call 82 _ _ rfl #[.agg (launchA (l.getD m launch0) LP LQ),.agg (launchA x A cl)] (by simp [Act.eval,e39,e40]) (fun args w=>by kernel_rfl)
       ((HCM.out w1 HJ).mono fun e w' ⟨he,hb⟩=>⟨_,he,kk _ _ (by simp) (Below.trans HJ (hb.mono HJ.size)) trivial rfl⟩)
     ·intro a w1 vs K HJ HK HD HN kk
      have e33:=hdE (HD 3 _ 33 rfl rfl rfl)
      rw [if_pos (wanted_yes 3 true rfl rfl rfl e33)]
      have e41:=hdE (HD 11 _ 41 rfl rfl rfl)
      have hz:=HZ.out
      go_simp;exact kk _ _ (by simp) HJ trivial rfl
     ·intro a w1 vs K HJ HK HD HN kk
      have e33:=hdE (HD 3 _ 33 rfl rfl rfl)
      have e42:=hdE (HD 12 _ 42 rfl rfl rfl)
      go_simp;exact kk _ _ (by simp) HJ trivial rfl
     ·intro a w1 vs K HJ HK HD HN kk
      have e43:=hdE (HD 13 _ 43 rfl rfl rfl)
      go_simp;exact kk _ _ (by simp) HJ trivial rfl
    ·intro vs W3 hw6 hrr
     have e14:vs 14=.bool false:=hrr 14 _ rfl
     have HB3:Hid (Below wc.heap.size wc W3):=Lib.hid hw6
     clear hrr hw6
     simp only [putAll,Act.put,List.setIfInBounds_toArray,List.set_cons_zero,List.set_cons_succ]
     rw [e14]
     have Ht1:=Lib.hid (HT1.out W3 HB3.out)
     cases t1 with
     | true =>
      have HRT:Hid ((8:Int)=R):=Lib.hid (by rw [HRR.out];rfl)
      go_wp2_with fail
      refine Ht1.out.mono ?_
      rintro e W4 ⟨rfl,hb3⟩
      have HB4:Hid (Below wc.heap.size wc W4):=Lib.hid (HB3.out.trans (hb3.mono HB3.out.size))
      clear hb3
      go_wp2_with fail
      go_ret
      exact HFIN.out _ _ HRT.out (HEND.out _ HB4.out)
     | false =>
     go_wp2_with fail
     refine Ht1.out.mono ?_
     rintro e W4 ⟨rfl,hb3⟩
     have HB4:Hid (Below wc.heap.size wc W4):=Lib.hid (HB3.out.trans (hb3.mono HB3.out.size))
     clear hb3
     have Ht2:=Lib.hid (HT2.out W4 HB4.out)
     cases t2 with
     | true =>
      have HRT:Hid ((9:Int)=R):=Lib.hid (by rw [HRR.out];rfl)
      go_wp2_with fail
      refine Ht2.out.mono ?_
      rintro e W5 ⟨rfl,hb3⟩
      have HB5:Hid (Below wc.heap.size wc W5):=Lib.hid (HB4.out.trans (hb3.mono HB4.out.size))
      clear hb3
      go_wp2_with fail
      go_ret
      exact HFIN.out _ _ HRT.out (HEND.out _ HB5.out)
     | false =>
     go_wp2_with fail
     refine Ht2.out.mono ?_
     rintro e W5 ⟨rfl,hb3⟩
     have HB5:Hid (Below wc.heap.size wc W5):=Lib.hid (HB4.out.trans (hb3.mono HB4.out.size))
     clear hb3
     have Ht3:=Lib.hid (HT3.out W5 HB5.out)
     cases t3 with
     | true =>
      have HRT:Hid ((6:Int)=R):=Lib.hid (by rw [HRR.out];rfl)
      go_wp2_with fail
      refine Ht3.out.mono ?_
      rintro e W6 ⟨rfl,hb3⟩
      have HB6:Hid (Below wc.heap.size wc W6):=Lib.hid (HB5.out.trans (hb3.mono HB5.out.size))
      clear hb3
      go_wp2_with fail
      go_ret
      exact HFIN.out _ _ HRT.out (HEND.out _ HB6.out)
     | false =>
     go_wp2_with fail
     refine Ht3.out.mono ?_
     rintro e W6 ⟨rfl,hb3⟩
     have HB6:Hid (Below wc.heap.size wc W6):=Lib.hid (HB5.out.trans (hb3.mono HB5.out.size))
     clear hb3
     have HRT:Hid ((0:Int)=R):=Lib.hid (by rw [HRR.out];rfl)
     go_wp2_with fail
     go_ret
     exact HFIN.out _ _ HRT.out (HEND.out _ HB6.out)
end Go.Proofs.YtcnjenlojnognaaGreat
/- What is proved: contracts of campaign.CheckPlan, valid, meant, Room. Conditions: the campaign and the plan lie in memory. -/
namespace Go.Proofs.YtcnjenlojnognaaGreat
open Go.RowKit

theorem planFrom_hit (c:CampD) (l:List LaunchD):∀ (n k m:Nat),k≤m→m<k+n→(∀ j,k≤j→j<m→faultB c (l.take j) (l.getD j launch0)=0)→faultB c (l.take m) (l.getD m launch0) ≠ 0→planFrom c l k n=((m:Int),faultB c (l.take m) (l.getD m launch0))
 | 0,k,m,h1,h2,_,_=>by omega
 | n+1,k,m,h1,h2,h3,h4=>by
  unfold planFrom
  by_cases e:k=m
  ·subst e;rw [if_neg h4]
  ·rw [if_pos (h3 k (Nat.le_refl _) (by omega)),planFrom_hit c l n (k+1) m (by omega) (by omega) (fun j a b=>h3 j (by omega) b) h4]
theorem planFrom_all (c:CampD) (l:List LaunchD):∀ (n k:Nat),(∀ j,k≤j→j<k+n→faultB c (l.take j) (l.getD j launch0)=0)→planFrom c l k n=(-1,0)
 | 0,_,_=>rfl
 | n+1,k,h=>by
  unfold planFrom
  rw [if_pos (h k (Nat.le_refl _) (by omega)),planFrom_all c l n (k+1) fun j a b=>h j (by omega) (by omega)]
theorem faultB_day {c:CampD} (hc:campB c=true) {l:List LaunchD} {k:Nat} (hk:k≤l.length) (h:∀ j,j<k→faultB c (l.take j) (l.getD j launch0)=0):∀ y ∈ l.take k,DayOk y:=by
 intro y hy
 obtain ⟨j,hj,e⟩:=List.getElem_of_mem hy
 rw [List.length_take] at hj
 have h1:=(faultB_zero.1 (h j (by omega))).1
 have h2:=possB_day hc h1
 rw [List.getElem_take] at e
 rw [List.getD_eq_getElem?_getD,List.getElem?_eq_getElem (by omega),Option.getD_some,e] at h2
 unfold DayOk;omega
theorem PlanAt.at4 {w:World} {B:Nat} {A:Option Addr} {l:List LaunchD} (h:PlanAt w B A l) {i:Nat} (hi:i<l.length) :
  ∃ b off P Q,A=some ⟨b,off,none⟩∧b<B∧w.cell? ⟨b,off+i * 4,none⟩=some (.int .i64 (l.getD i launch0).day)∧w.cell? ⟨b,off+i * 4+1,none⟩=some (.int .i64 (l.getD i launch0).craft)∧w.cell? ⟨b,off+i * 4+2,none⟩=some (.int .i64 (l.getD i launch0).pad)∧w.cell? ⟨b,off+i * 4+3,none⟩=some (.slice P (l.getD i launch0).cargos.length Q)∧IntsAt w B P (l.getD i launch0).cargos:=by
 obtain ⟨b,off,P,Q,e,hB,hc,hl⟩:=h.at hi
 exact ⟨b,off,P,Q,e,hB,hc 0 _ rfl,hc 1 _ rfl,hc 2 _ rfl,hc 3 _ rfl,hl⟩
theorem check_val (w:World) (V:CV) (c:CampD) (h:CampAt w w.heap.size V c) (b:Bool) (hb:campB c=b):Calls Tryz.prog 18 #[.agg (campA V c)] w fun e w'=>e=.returned (.bool b)∧Below w.heap.size w w':=by rw [← hb];exact check_any w V c h
/-- What CheckPlan hands back. -/
def PlanPost (c:CampD) (l:List LaunchD) (qb:Nat) (w:World) (e:Ending) (w':World):Prop:=e=.returned (.tuple #[.int .i64 (planB c l).1,.int .i64 (planB c l).2])∧Below qb w w'
set_option maxRecDepth 100000 in
set_option maxHeartbeats 16000000 in
theorem checkPlan_any (w:World) (V:CV) (c:CampD) (h:CampAt w w.heap.size V c) (l:List LaunchD) (AL:Option Addr) (cL:Nat) (hp:PlanAt w w.heap.size AL l) (hcap:l.length≤cL) :
  Calls Tryz.prog 16 #[.agg (campA V c),.slice AL l.length cL] w (PlanPost c l w.heap.size w):=by
 obtain ⟨qb,hqb⟩:∃ qb,w.heap.size=qb:=⟨_,rfl⟩
 obtain ⟨W0,hW0⟩:∃ W0,w.alloc (.cells (campA V c) 26)=W0:=⟨_,rfl⟩
 have hb0:Below w.heap.size w W0:=by rw [← hW0];exact (Below.refl _ w).alloc (Nat.le_refl _) _
 have HB0:Hid (Below qb w W0):=Lib.hid (by rw [← hqb];exact hb0)
 have HKC:Hid (Bk W0 qb 26 (campA V c)):=Lib.hid (by rw [← hW0,← hqb];exact Bk.new _ _ _)
 have HSZ:Hid (qb≤W0.heap.size):=Lib.hid (by have:=HKC.out.lt;omega)
 have HCA:=Lib.hid (h.later hb0)
 have HPA:=Lib.hid (hp.later hb0)
 have hll:=hp.len
 obtain ⟨nl,hnl⟩:∃ nl,l.length=nl:=⟨_,rfl⟩
 have HNL:=Lib.hid hnl
 obtain ⟨bc,hbc⟩:∃ b,campB c=b:=⟨_,rfl⟩
 have HBC:=Lib.hid hbc
 have HCH:=Lib.hid (check_val W0 V c HCA.out bc hbc)
 obtain ⟨r1,r2,HRP⟩:∃ r1 r2,Hid (planB c l=(r1,r2)):=⟨(planB c l).1,(planB c l).2,Lib.hid rfl⟩
 obtain ⟨Q,hQ⟩:∃ Q,PlanPost c l w.heap.size w=Q:=⟨_,rfl⟩
 have HFIN:Hid (∀ (a b:Int) (w':World),a=r1→b=r2→Below qb w w'→Q (.returned (.tuple #[.int .i64 a,.int .i64 b])) w'):=Lib.hid fun a b w' h1 h2 h3=>by
  subst h1 h2;rw [← hQ,hqb];unfold PlanPost;rw [HRP.out];exact ⟨rfl,h3⟩
 rw [hnl] at hll hcap ⊢
 rw [hQ]
 clear h hp hb0 hnl hbc hQ
 have HLC:Hid (∀ w1,Below W0.heap.size W0 w1→∀ j u,(campA V c)[j]?=some u→w1.cell? ⟨qb,0+j,none⟩=some u):=Lib.hid fun w1 hb j u hj=>by rw [Nat.zero_add,(HKC.out.below hb HKC.out.lt).cell];exact hj
 have HLC0:=Lib.hid (HLC.out W0 (Below.refl _ _))
 simp only [campA] at hW0 ⊢
 go_enter Tryz.func16,Tryz.ntmps16
 go_upto_region 1 with (fail)
 clear hW0 hqb
 go_wp2_with (first | (refine wpLoadAt rfl 26 _ rfl qb 0 rfl (campA V c) _ HLC0.out und_camp rfl (info_campA V c) ?_))
 refine HCH.out.mono ?_
 rintro e W1 ⟨rfl,hb1⟩
 have HB1:=Lib.hid hb1
 clear hb1
 cases bc with
 | false =>
  have HRR:Hid ((-1:Int)=r1∧(2:Int)=r2):=Lib.hid (by
   have:=HRP.out;unfold planB at this;rw [if_pos HBC.out] at this
   exact Prod.mk.injEq _ _ _ _ ▸ this)
  go_wp2_with fail
  exact HFIN.out _ _ _ HRR.out.1 HRR.out.2 (HB0.out.trans (HB1.out.mono HSZ.out))
 | true =>
 have HPF:Hid (planFrom c l 0 nl=(r1,r2)):=Lib.hid (by have:=HRP.out;unfold planB at this;rw [if_neg (by rw [HBC.out];decide),HNL.out] at this;exact this)
 go_wp2_with fail
 go_loopw [14] (fun i wr=>∃ k:Nat,k≤nl∧i=.int .i64 k∧Hid (Below W0.heap.size W0 wr∧∀ j,j<k→faultB c (l.take j) (l.getD j launch0)=0)) (fun i _=>nl - (intOf i).toNat)
 case atStart=>exact ⟨0,Nat.zero_le _,rfl,Lib.hid ⟨HB1.out,fun j hj=>absurd hj (Nat.not_lt_zero j)⟩⟩
 case round =>
  obtain ⟨k,hk,rfl,hs⟩:=hrel
  have HB:=Lib.hid hs.out.1
  have HS:=Lib.hid hs.out.2
  clear hs
  have h0k:(0:Int)≤(k:Int):=by omega
  by_cases hlt:k<nl
  ·have hki:(k:Int)<(nl:Int):=by omega
   obtain ⟨bb,off,P,Q2,rfl,hbb,d0,d1,d2,d3,dl⟩:=(HPA.out.later HB.out).at4 (i:=k) (by rw [HNL.out];exact hlt)
   obtain ⟨x,hx⟩:∃ x,l.getD k launch0=x:=⟨_,rfl⟩
   have HX:=Lib.hid hx
   rw [hx] at d0 d1 d2 d3 dl
   clear hx
   obtain ⟨ncx,hncx⟩:∃ n,x.cargos.length=n:=⟨_,rfl⟩
   have HNCX:=Lib.hid hncx
   have HDL:=Lib.hid dl
   rw [hncx] at d3
   clear hncx dl
   obtain ⟨W2,hW2⟩:∃ W2,wr.alloc (.cells #[.int .i64 x.day,.int .i64 x.craft,.int .i64 x.pad,.slice P ncx Q2] 52)=W2:=⟨_,rfl⟩
   have hb2:Below wr.heap.size wr W2:=by rw [← hW2];exact (Below.refl _ wr).alloc (Nat.le_refl _) _
   have HB2:Hid (Below W0.heap.size W0 W2):=Lib.hid (HB.out.trans (hb2.mono HB.out.size))
   obtain ⟨qx,hqx⟩:∃ qx,wr.heap.size=qx:=⟨_,rfl⟩
   have HKX:Hid (Bk W2 qx 52 (launchA x P Q2)):=Lib.hid (by rw [← hW2,← hqx];unfold launchA;rw [HNCX.out];exact Bk.new _ _ _)
   have HLX:Hid (∀ w1,Below W2.heap.size W2 w1→∀ j u,(launchA x P Q2)[j]?=some u→w1.cell? ⟨qx,0+j,none⟩=some u):=Lib.hid fun w1 hb j u hj=>by rw [Nat.zero_add,(HKX.out.below hb HKX.out.lt).cell];exact hj
   obtain ⟨f,hf⟩:∃ f,faultB c (l.take k) x=f:=⟨_,rfl⟩
   have HF:=Lib.hid hf
   have HTK:Hid ((l.take k).length=k):=Lib.hid (by rw [List.length_take,HNL.out];omega)
   have HFA:Hid (∀ w1,Below W2.heap.size W2 w1→Calls Tryz.prog 37 #[.agg (campA V c),.slice (some ⟨bb,off,none⟩) k cL,.agg (launchA x P Q2)] w1 fun e w'=>e=.returned (.int .i64 f)∧Below w1.heap.size w1 w'):=Lib.hid fun w1 hb=>by
    have hbw:=HB2.out.trans (hb.mono HB2.out.size)
    have:=fault_any w1 V c (HCA.out.later hbw) HBC.out (l.take k) (some ⟨bb,off,none⟩) cL ((HPA.out.later hbw).take k (by rw [HNL.out];exact hk)) (faultB_day HBC.out (by rw [HNL.out];exact hk) HS.out) x P Q2 (HDL.out.later (hb2.trans (hb.mono hb2.size)))
    rw [HTK.out,hf] at this
    exact this
   have HLC2:Hid (∀ w1,Below W2.heap.size W2 w1→∀ j u,(campA V c)[j]?=some u→w1.cell? ⟨qb,0+j,none⟩=some u):=Lib.hid fun w1 hb=>HLC.out w1 (HB2.out.trans (hb.mono HB2.out.size))
   have hkc:k≤cL:=by omega
   have hkc2:(k:Int)≤(cL:Int):=by omega
   have HBE:Hid (∀ w1,Below W2.heap.size W2 w1→Below W0.heap.size W0 w1):=Lib.hid fun w1 hb=>HB2.out.trans (hb.mono HB2.out.size)
   clear hb2 hf
   go_upto_region 6 with (fail)
   clear hqx hW2 d0 d1 d2 d3
   refine wp_region_steps (by kernel_rfl) (by kernel_rfl) (fun w1=>Below W2.heap.size W2 w1) (fun _ _ _=>True)
    (fun ix u _ _=>match ix with
     | 0=>u=.agg (campA V c)
     | 1=>u=.slice (some ⟨bb,off,none⟩) nl cL
     | 2=>u=.int .i64 (k:Int)
     | 3=>u=.slice (some ⟨bb,off,none⟩) k cL
     | 4=>u=.agg (launchA x P Q2)
     | 5=>u=.int .i64 f
     | _=>u=.int .i64 f) (Below.refl _ _).drew (fun _ _ _ _ _ _ _ _ h _ _=>h) ?_ ?_
   ·refine ⟨?_,?_,?_,?_,?_,?_,?_,trivial⟩
    ·intro a w1 vs K HJ HK HD HN kk
     have e2:=HK 2 (by decide)
     exact wpo_loadS 26 (.tmp 2) rfl qb 0 (by simpa [Act.eval] using e2) (campA V c) _ (HLC2.out w1 HJ) und_camp rfl (info_campA V c) (kk _ _ (by simp) HJ trivial rfl)
    ·intro a w1 vs K HJ HK HD HN kk
     have e1:=HK 1 (by decide)
     go_simp;exact kk _ _ (by simp) HJ trivial rfl
    ·intro a w1 vs K HJ HK HD HN kk
     have e6:=HK 6 (by decide)
     go_simp;exact kk _ _ (by simp) HJ trivial rfl
    ·intro a w1 vs K HJ HK HD HN kk
     have e20:=hdE (HD 1 _ 20 rfl rfl rfl)
     have e21:=hdE (HD 2 _ 21 rfl rfl rfl)
     go_simp;exact kk _ _ (by simp) HJ trivial rfl
    ·intro a w1 vs K HJ HK HD HN kk
     have e7:=HK 7 (by decide)
     exact wpo_loadS 52 (.tmp 7) rfl qx 0 (by simpa [Act.eval] using e7) (launchA x P Q2) _ (HLX.out w1 HJ) und_launch rfl info_launch (kk _ _ (by simp) HJ trivial rfl)
    ·intro a w1 vs K HJ HK HD HN kk
     have e19:=hdE (HD 0 _ 19 rfl rfl rfl)
     have e22:=hdE (HD 3 _ 22 rfl rfl rfl)
     have e23:=hdE (HD 4 _ 23 rfl rfl rfl)
     exact wpo_call 37 _ _ rfl #[.agg (campA V c),.slice (some ⟨bb,off,none⟩) k cL,.agg (launchA x P Q2)] (by simp [Act.eval,e19,e22,e23]) (fun args w=>by kernel_rfl)
      ((HFA.out w1 HJ).mono fun e w' ⟨he,hb⟩=>⟨_,he,kk _ _ (by simp) (Below.trans HJ (hb.mono HJ.size)) trivial rfl⟩)
    ·intro a w1 vs K HJ HK HD HN kk
     have e24:=hdE (HD 5 _ 24 rfl rfl rfl)
     go_simp;exact kk _ _ (by simp) HJ trivial rfl
   ·intro vs W3 hw6 hrr
    have e6:vs 6=.int .i64 f:=hrr 6 _ rfl
    have HB3:Hid (Below W2.heap.size W2 W3):=Lib.hid hw6
    clear hrr hw6
    simp only [putAll,Act.put,List.setIfInBounds_toArray,List.set_cons_zero,List.set_cons_succ]
    rw [e6]
    by_cases hz:f=0
    ·subst hz
     go_wp2_with fail
     go_roundw
     case rel=>exact ⟨k+1,by omega,by go_num,Lib.hid ⟨HBE.out _ HB3.out,fun j hj=>by
      by_cases e:j=k
      ·subst e;rw [HX.out];exact HF.out
      ·exact HS.out j (by omega)⟩⟩
     case measure=>simp [intOf];omega
    ·have hz1:(f == 0)=false:=by rw [beq_eq_false_iff_ne];exact hz
     have HRR:Hid ((k:Int)=r1∧f=r2):=Lib.hid (by
      have h1:=planFrom_hit c l nl 0 k (Nat.zero_le _) (by omega) (fun j _ hj=>HS.out j hj) (by rw [HX.out,HF.out];exact hz)
      rw [HPF.out,HX.out,HF.out] at h1
      exact ⟨(congrArg Prod.fst h1).symm,(congrArg Prod.snd h1).symm⟩)
     clear hz
     go_wp2_with fail
     exact HFIN.out _ _ _ HRR.out.1 HRR.out.2 (HB0.out.trans ((HBE.out _ HB3.out).mono HSZ.out))
  ·obtain rfl:k=nl:=by omega
   have HRR:Hid ((-1:Int)=r1∧(0:Int)=r2):=Lib.hid (by
    have h1:=planFrom_all c l k 0 fun j _ hj=>HS.out j (by omega)
    rw [HPF.out] at h1
    exact ⟨(congrArg Prod.fst h1).symm,(congrArg Prod.snd h1).symm⟩)
   go_wp2_with fail
   exact HFIN.out _ _ _ HRR.out.1 HRR.out.2 (HB0.out.trans (HB.out.mono HSZ.out))
end Go.Proofs.YtcnjenlojnognaaGreat
/- What is proved: contracts of campaign.valid, meant, Room, Worth. Conditions: the campaign and the plan lie in memory. -/
namespace Go.Proofs.YtcnjenlojnognaaGreat
open Go.RowKit

set_option maxRecDepth 100000 in
set_option maxHeartbeats 4000000 in
theorem valid_any (w:World) (V:CV) (c:CampD) (h:CampAt w w.heap.size V c) (l:List LaunchD) (AL:Option Addr) (cL:Nat) (hp:PlanAt w w.heap.size AL l) (hcap:l.length≤cL) :
  Calls Tryz.prog 56 #[.agg (campA V c),.slice AL l.length cL] w fun e w'=>e=.returned (.bool (validB c l))∧Below w.heap.size w w':=by
 obtain ⟨qb,hqb⟩:∃ qb,w.heap.size=qb:=⟨_,rfl⟩
 obtain ⟨W0,hW0⟩:∃ W0,w.alloc (.cells (campA V c) 26)=W0:=⟨_,rfl⟩
 have hb0:Below w.heap.size w W0:=by rw [← hW0];exact (Below.refl _ w).alloc (Nat.le_refl _) _
 have HB0:Hid (Below qb w W0):=Lib.hid (by rw [← hqb];exact hb0)
 have HKC:Hid (Bk W0 qb 26 (campA V c)):=Lib.hid (by rw [← hW0,← hqb];exact Bk.new _ _ _)
 have HSZ:Hid (qb≤W0.heap.size):=Lib.hid (by have:=HKC.out.lt;omega)
 have HCP:=Lib.hid (checkPlan_any W0 V c (h.later hb0) l AL cL (hp.later hb0) hcap)
 have HLC0:Hid (∀ j u,(campA V c)[j]?=some u→W0.cell? ⟨qb,0+j,none⟩=some u):=Lib.hid fun j u hj=>by rw [Nat.zero_add,HKC.out.cell];exact hj
 obtain ⟨nl,hnl⟩:∃ nl,l.length=nl:=⟨_,rfl⟩
 obtain ⟨R,hR⟩:∃ R,validB c l=R:=⟨_,rfl⟩
 obtain ⟨r1,hr1⟩:∃ r,(planB c l).1=r:=⟨_,rfl⟩
 obtain ⟨r2,hr2⟩:∃ r,(planB c l).2=r:=⟨_,rfl⟩
 have HR:Hid (decide (r2=0)=R):=Lib.hid (by rw [← hR,← hr2];rfl)
 unfold PlanPost at HCP
 rw [hnl,hr1,hr2] at HCP
 rw [hR,hqb,hnl]
 clear h hp hb0 hcap hnl hR hr1 hr2
 simp only [campA] at hW0 ⊢
 go_enter Tryz.func56,Tryz.ntmps56
 go_upto_region 1 with (fail)
 clear hW0 hqb
 go_wp2_with (first | (refine wpLoadAt rfl 26 _ rfl qb 0 rfl (campA V c) _ HLC0.out und_camp rfl (info_campA V c) ?_))
 refine HCP.out.mono ?_
 rintro e W1 ⟨rfl,hb1⟩
 have HB1:=Lib.hid hb1
 clear hb1
 by_cases hz:r2=0
 ·have HRR:Hid (true=R):=Lib.hid (by rw [← HR.out,decide_eq_true hz])
  subst hz
  go_wp2_with fail
  go_ret
  exact ⟨ret_bool HRR.out,HB0.out.trans (HB1.out.mono HSZ.out)⟩
 ·have HRR:Hid (false=R):=Lib.hid (by rw [← HR.out,decide_eq_false hz])
  have hz1:(r2 == 0)=false:=by rw [beq_eq_false_iff_ne];exact hz
  clear hz
  go_wp2_with fail
  go_ret
  exact ⟨ret_bool HRR.out,HB0.out.trans (HB1.out.mono HSZ.out)⟩
theorem valid_val (w:World) (V:CV) (c:CampD) (h:CampAt w w.heap.size V c) (l:List LaunchD) (AL:Option Addr) (cL:Nat) (hp:PlanAt w w.heap.size AL l) (hcap:l.length≤cL) (b:Bool) (hb:validB c l=b) (nl:Nat) (hnl:l.length=nl) :
  Calls Tryz.prog 56 #[.agg (campA V c),.slice AL nl cL] w fun e w'=>e=.returned (.bool b)∧Below w.heap.size w w':=by rw [← hb,← hnl];exact valid_any w V c h l AL cL hp hcap
set_option maxRecDepth 100000 in
set_option maxHeartbeats 4000000 in
theorem meant_any (w:World) (V:CV) (c:CampD) (h:CampAt w w.heap.size V c) (l:List LaunchD) (AL:Option Addr) (cL:Nat) (hp:PlanAt w w.heap.size AL l) (hcap:l.length≤cL) (hl20:l.length≤4096) (i:Int) :
  Calls Tryz.prog 61 #[.agg (campA V c),.slice AL l.length cL,.int .i64 i] w fun e w'=>e=.returned (.int .i64 (meantB c l i))∧Below w.heap.size w w':=by
 obtain ⟨qb,hqb⟩:∃ qb,w.heap.size=qb:=⟨_,rfl⟩
 obtain ⟨W0,hW0⟩:∃ W0,w.alloc (.cells (campA V c) 26)=W0:=⟨_,rfl⟩
 have hb0:Below w.heap.size w W0:=by rw [← hW0];exact (Below.refl _ w).alloc (Nat.le_refl _) _
 have HB0:Hid (Below qb w W0):=Lib.hid (by rw [← hqb];exact hb0)
 have HKC:Hid (Bk W0 qb 26 (campA V c)):=Lib.hid (by rw [← hW0,← hqb];exact Bk.new _ _ _)
 have HSZ:Hid (qb≤W0.heap.size):=Lib.hid (by have:=HKC.out.lt;omega)
 obtain ⟨nl,hnl⟩:∃ nl,l.length=nl:=⟨_,rfl⟩
 obtain ⟨bv,hbv⟩:∃ b,validB c l=b:=⟨_,rfl⟩
 obtain ⟨bi,hbi⟩:∃ b,inB i 0 ((nl:Int) - 1)=b:=⟨_,rfl⟩
 have HV:=Lib.hid (valid_val W0 V c (h.later hb0) l AL cL (hp.later hb0) hcap bv hbv nl hnl)
 have HI:Hid (∀ w1,Calls Tryz.prog 46 #[.int .i64 i,.int .i64 0,.int .i64 ((nl:Int) - 1)] w1 fun e w'=>e=.returned (.bool bi)∧Below w1.heap.size w1 w'):=Lib.hid fun w1=>by rw [← hbi];exact within_below _ _ _ _
 have HLC0:Hid (∀ j u,(campA V c)[j]?=some u→W0.cell? ⟨qb,0+j,none⟩=some u):=Lib.hid fun j u hj=>by rw [Nat.zero_add,HKC.out.cell];exact hj
 obtain ⟨R,hR⟩:∃ R,meantB c l i=R:=⟨_,rfl⟩
 have HR:Hid ((if bv=false then (2:Int) else if bi=false then 7 else 0)=R):=Lib.hid (by rw [← hR];unfold meantB;rw [hbv,hnl,hbi])
 rw [hnl] at hl20 ⊢
 rw [hR,hqb]
 clear h hp hb0 hcap hnl hR hbv hbi
 simp only [campA] at hW0 ⊢
 go_enter Tryz.func61,Tryz.ntmps61
 go_upto_region 1 with (fail)
 clear hW0 hqb
 go_wp2_with (first | (refine wpLoadAt rfl 26 _ rfl qb 0 rfl (campA V c) _ HLC0.out und_camp rfl (info_campA V c) ?_))
 refine HV.out.mono ?_
 rintro e W1 ⟨rfl,hb1⟩
 have HB1:=Lib.hid hb1
 clear hb1
 cases bv with
 | false =>
  have HRR:Hid ((2:Int)=R):=Lib.hid HR.out
  go_wp2_with fail
  go_ret
  exact ⟨ret_int HRR.out,HB0.out.trans (HB1.out.mono HSZ.out)⟩
 | true =>
 go_wp2_with fail
 refine (HI.out _).mono ?_
 rintro e W2 ⟨rfl,hb2⟩
 have HB2:=Lib.hid (HB1.out.trans (hb2.mono HB1.out.size))
 clear hb2
 cases bi with
 | false =>
  have HRR:Hid ((7:Int)=R):=Lib.hid HR.out
  go_wp2_with fail
  go_ret
  exact ⟨ret_int HRR.out,HB0.out.trans (HB2.out.mono HSZ.out)⟩
 | true =>
  have HRR:Hid ((0:Int)=R):=Lib.hid HR.out
  go_wp2_with fail
  go_ret
  exact ⟨ret_int HRR.out,HB0.out.trans (HB2.out.mono HSZ.out)⟩
theorem meant_val (w:World) (V:CV) (c:CampD) (h:CampAt w w.heap.size V c) (l:List LaunchD) (AL:Option Addr) (cL:Nat) (hp:PlanAt w w.heap.size AL l) (hcap:l.length≤cL) (hl20:l.length≤4096) (i:Int) (z:Int) (hz:meantB c l i=z) (nl:Nat) (hnl:l.length=nl) :
  Calls Tryz.prog 61 #[.agg (campA V c),.slice AL nl cL,.int .i64 i] w fun e w'=>e=.returned (.int .i64 z)∧Below w.heap.size w w':=by rw [← hz,← hnl];exact meant_any w V c h l AL cL hp hcap hl20 i
theorem meant_zero {c:CampD} {l:List LaunchD} {i:Int} (h:meantB c l i=0):validB c l=true∧0≤i∧i<l.length:=by
 unfold meantB at h
 by_cases h1:validB c l=false
 ·rw [if_pos h1] at h;exact absurd h (by decide)
 ·rw [if_neg h1] at h
  by_cases h2:inB i 0 (l.length - 1)=false
  ·rw [if_pos h2] at h;exact absurd h (by decide)
  ·have h3:inB i 0 (l.length - 1)=true:=by simpa using h2
   rw [inB_iff] at h3
   exact ⟨by simpa using h1,by omega,by omega⟩
/-- The room of a launch. -/
def roomB (c:CampD) (l:List LaunchD) (i:Int):Int × Int:=if meantB c l i ≠ 0 then (0,meantB c l i) else (mostB c (l.getD i.toNat launch0).craft - massL c (l.getD i.toNat launch0).cargos,0)
def RoomPost (c:CampD) (l:List LaunchD) (i:Int) (qb:Nat) (w:World) (e:Ending) (w':World):Prop:=e=.returned (.tuple #[.int .i64 (roomB c l i).1,.int .i64 (roomB c l i).2])∧Below qb w w'
theorem mass_val (w:World) (V:CV) (c:CampD) (h:CampAt w w.heap.size V c) (hc:campB c=true) (A:Option Addr) (cl n:Nat) (l:List Int) (hl:IntsAt w w.heap.size A l) (hr:risingB l c.cargos.length=true) (hn:l.length=n) (z:Int) (hz:massL c l=z) :
  Calls Tryz.prog 63 #[.agg (campA V c),.slice A n cl] w fun e w'=>e=.returned (.int .i64 z)∧Below w.heap.size w w':=by rw [← hz,← hn];exact mass_any w V c h hc A cl l hl hr
theorem mostB_bd {c:CampD} (hc:campB c=true) (i:Int):0≤mostB c i∧mostB c i≤1073741824000:=by
 have h1:=camp_craft hc i
 have h2:=camp_len hc
 unfold mostB
 exact ⟨Int.ediv_nonneg (by omega) (by omega),Int.le_trans (Int.ediv_le_self _ (by omega)) (by omega)⟩
set_option maxRecDepth 100000 in
set_option maxHeartbeats 8000000 in
theorem room_any (w:World) (V:CV) (c:CampD) (h:CampAt w w.heap.size V c) (l:List LaunchD) (AL:Option Addr) (cL:Nat) (hp:PlanAt w w.heap.size AL l) (hcap:l.length≤cL) (hl20:l.length≤4096) (i:Int) :
  Calls Tryz.prog 22 #[.agg (campA V c),.slice AL l.length cL,.int .i64 i] w (RoomPost c l i w.heap.size w):=by
 obtain ⟨qb,hqb⟩:∃ qb,w.heap.size=qb:=⟨_,rfl⟩
 obtain ⟨W0,hW0⟩:∃ W0,w.alloc (.cells (campA V c) 26)=W0:=⟨_,rfl⟩
 have hb0:Below w.heap.size w W0:=by rw [← hW0];exact (Below.refl _ w).alloc (Nat.le_refl _) _
 have HB0:Hid (Below qb w W0):=Lib.hid (by rw [← hqb];exact hb0)
 have HKC:Hid (Bk W0 qb 26 (campA V c)):=Lib.hid (by rw [← hW0,← hqb];exact Bk.new _ _ _)
 have HSZ:Hid (qb≤W0.heap.size):=Lib.hid (by have:=HKC.out.lt;omega)
 have HCA:=Lib.hid (h.later hb0)
 have HPA:=Lib.hid (hp.later hb0)
 obtain ⟨nl,hnl⟩:∃ nl,l.length=nl:=⟨_,rfl⟩
 have HNL:=Lib.hid hnl
 obtain ⟨z,hz⟩:∃ z,meantB c l i=z:=⟨_,rfl⟩
 have HZ:=Lib.hid hz
 have HM:=Lib.hid (meant_val W0 V c HCA.out l AL cL HPA.out hcap hl20 i z hz nl hnl)
 have HLC:Hid (∀ w1,Below W0.heap.size W0 w1→∀ j u,(campA V c)[j]?=some u→w1.cell? ⟨qb,0+j,none⟩=some u):=Lib.hid fun w1 hb j u hj=>by rw [Nat.zero_add,(HKC.out.below hb HKC.out.lt).cell];exact hj
 have HLC0:=Lib.hid (HLC.out W0 (Below.refl _ _))
 obtain ⟨Q,hQ⟩:∃ Q,RoomPost c l i w.heap.size w=Q:=⟨_,rfl⟩
 have HFIN:Hid (∀ (a b:Int) (w':World),(a,b)=roomB c l i→Below qb w w'→Q (.returned (.tuple #[.int .i64 a,.int .i64 b])) w'):=Lib.hid fun a b w' h1 h3=>by
  rw [← hQ,hqb];unfold RoomPost;rw [← h1];exact ⟨rfl,h3⟩
 rw [hnl] at hl20 ⊢
 rw [hQ]
 clear h hp hb0 hcap hnl hQ hz
 by_cases he:z=0
 ·subst he
  obtain ⟨hv,hi0,hil⟩:=meant_zero HZ.out
  obtain ⟨hcc,hpl⟩:=valid_iff.1 hv
  obtain ⟨m,rfl⟩:∃ m:Nat,i=(m:Int):=⟨i.toNat,by omega⟩
  have hml:m<l.length:=by omega
  have HMM:Hid (m<l.length):=Lib.hid hml
  obtain ⟨x,hx⟩:∃ x,l.getD m launch0=x:=⟨_,rfl⟩
  have hxp:possB c x=true:=hpl.poss x (by rw [← hx,List.getD_eq_getElem?_getD,List.getElem?_eq_getElem hml,Option.getD_some];exact List.getElem_mem hml)
  have hpp:=possB_parts hxp
  obtain ⟨ic,hic⟩:∃ ic:Nat,x.craft=(ic:Int):=⟨x.craft.toNat,by have:=hpp.1;omega⟩
  have HICN:Hid (ic<c.crafts.length):=Lib.hid (by have:=hpp.2.1;omega)
  obtain ⟨ma,hma⟩:∃ ma,massL c x.cargos=ma:=⟨_,rfl⟩
  obtain ⟨mo,hmo⟩:∃ mo,mostB c x.craft=mo:=⟨_,rfl⟩
  have hms:ma≤mo:=by have:=hpp.2.2.2.2.2.2.2.2.2.2;omega
  have hmob:=mostB_bd hcc x.craft
  have hma0:0≤ma:=by
   have:=massL_bound hcc x.cargos x.cargos.length (Nat.le_refl _)
   rw [List.take_length] at this;omega
  have HRB:Hid ((mo - ma,(0:Int))=roomB c l (m:Int)):=Lib.hid (by
   unfold roomB
   rw [if_neg (by rw [HZ.out];decide)]
   simp only [Int.toNat_natCast]
   rw [hx,hma,hmo])
  obtain ⟨nx,hnx⟩:∃ n,x.cargos.length=n:=⟨_,rfl⟩
  have HWS:Hid (IntKind.i64.wrap (mo - ma)=mo - ma):=Lib.hid (IntWalk.i64_in _ (by omega))
  obtain ⟨bb,off,P,Q2,rfl,hbb,d0,d1,d2,d3,dl⟩:=HPA.out.at4 (i:=m) hml
  rw [hx] at d1 d3 dl
  rw [hic] at d1
  rw [hnx] at d3
  have HC:Hid (∀ w1,Below W0.heap.size W0 w1→w1.cell? ⟨bb,off+m * 4+1,none⟩=some (.int .i64 (ic:Int))∧w1.cell? ⟨bb,off+m * 4+3,none⟩=some (.slice P nx Q2)):=Lib.hid fun w1 hb =>
   ⟨(hb.cell (p:=⟨bb,off+m * 4+1,none⟩) hbb).trans d1,(hb.cell (p:=⟨bb,off+m * 4+3,none⟩) hbb).trans d3⟩
  have HMA:Hid (∀ w1,Below W0.heap.size W0 w1→Calls Tryz.prog 63 #[.agg (campA V c),.slice P nx Q2] w1 fun e w'=>e=.returned (.int .i64 ma)∧Below w1.heap.size w1 w'):=Lib.hid fun w1 hb =>
   mass_val w1 V c (HCA.out.later hb) hcc P Q2 nx x.cargos (dl.later hb) hpp.2.2.2.2.2.2.2.2.1 hnx ma hma
  have HMO:Hid (∀ w1,Below W0.heap.size W0 w1→Calls Tryz.prog 62 #[.agg (campA V c),.int .i64 (ic:Int)] w1 fun e w'=>e=.returned (.int .i64 mo)∧Below w1.heap.size w1 w'):=Lib.hid fun w1 hb=>by
   rw [← hmo,hic];exact most_any w1 V c (HCA.out.later hb) hcc ic HICN.out
  have hmi:(m:Int)<(nl:Int):=by have:=HNL.out;omega
  have h0m:(0:Int)≤(m:Int):=by omega
  clear hv hi0 hil hcc hpl hml hx hxp hpp hic hma hmo hms hmob hma0 hnx d0 d1 d2 d3 dl hbb
  simp only [campA] at hW0 ⊢
  go_enter Tryz.func22,Tryz.ntmps22
  go_upto_region 1 with (fail)
  clear hW0 hqb
  go_wp2_with (first | (refine wpLoadAt rfl 26 _ rfl qb 0 rfl (campA V c) _ HLC0.out und_camp rfl (info_campA V c) ?_))
  refine HM.out.mono ?_
  rintro e W1 ⟨rfl,hb1⟩
  have HB1:=Lib.hid hb1
  clear hb1
  go_wp2_with fail
  refine wp_region_steps (by kernel_rfl) (by kernel_rfl) (fun w1=>Below W0.heap.size W0 w1) (fun _ _ _=>True)
   (fun ix u _ _=>match ix with
    | 0=>u=.agg (campA V c)
    | 1=>u=.slice (some ⟨bb,off,none⟩) nl cL
    | 2=>u=.int .i64 (m:Int)
    | 3=>u=.pointer (some ⟨bb,off+m * 4,none⟩)
    | 4=>u=.pointer (some ⟨bb,off+m * 4+1,none⟩)
    | 5=>u=.int .i64 (ic:Int)
    | 6=>u=.int .i64 mo
    | 7=>u=.agg (campA V c)
    | 8=>u=.slice (some ⟨bb,off,none⟩) nl cL
    | 9=>u=.int .i64 (m:Int)
    | 10=>u=.pointer (some ⟨bb,off+m * 4,none⟩)
    | 11=>u=.pointer (some ⟨bb,off+m * 4+3,none⟩)
    | 12=>u=.slice P nx Q2
    | 13=>u=.int .i64 ma
    | 14=>u=.int .i64 (mo - ma)
    | 15=>u=.int .i64 (mo - ma)
    | _=>u=.int .i64 0) HB1.out.drew (fun _ _ _ _ _ _ _ _ h _ _=>h) ?_ ?_
  ·refine ⟨?_,?_,?_,?_,?_,?_,?_,?_,?_,?_,?_,?_,?_,?_,?_,?_,?_,trivial⟩
   ·intro a w1 vs K HJ HK HD HN kk
    have e3:=HK 3 (by decide)
    exact wpo_loadS 26 (.tmp 3) rfl qb 0 (by simpa [Act.eval] using e3) (campA V c) _ (HLC.out w1 HJ) und_camp rfl (info_campA V c) (kk _ _ (by simp) HJ trivial rfl)
   ·intro a w1 vs K HJ HK HD HN kk
    have e1:=HK 1 (by decide)
    go_simp;exact kk _ _ (by simp) HJ trivial rfl
   ·intro a w1 vs K HJ HK HD HN kk
    have e2:=HK 2 (by decide)
    go_simp;exact kk _ _ (by simp) HJ trivial rfl
   ·intro a w1 vs K HJ HK HD HN kk
    have e17:=hdE (HD 1 _ 17 rfl rfl rfl)
    have e18:=hdE (HD 2 _ 18 rfl rfl rfl)
    go_simp;exact kk _ _ (by simp) HJ trivial rfl
   ·intro a w1 vs K HJ HK HD HN kk
    have e19:=hdE (HD 3 _ 19 rfl rfl rfl)
    go_simp;exact kk _ _ (by simp) HJ trivial rfl
   ·intro a w1 vs K HJ HK HD HN kk
    have e20:=hdE (HD 4 _ 20 rfl rfl rfl)
    have ca:w1.cell? ⟨bb,off+m * 4+1,none⟩=some (.int .i64 (ic:Int)):=(HC.out w1 HJ).1
    go_simp;exact kk _ _ (by simp) HJ trivial rfl
   ·intro a w1 vs K HJ HK HD HN kk
    have e16:=hdE (HD 0 _ 16 rfl rfl rfl)
    have e21:=hdE (HD 5 _ 21 rfl rfl rfl)
    exact wpo_call 62 _ _ rfl #[.agg (campA V c),.int .i64 (ic:Int)] (by simp [Act.eval,e16,e21]) (fun args w=>by kernel_rfl)
     ((HMO.out w1 HJ).mono fun e w' ⟨he,hb⟩=>⟨_,he,kk _ _ (by simp) (Below.trans HJ (hb.mono HJ.size)) trivial rfl⟩)
   ·intro a w1 vs K HJ HK HD HN kk
    have e3:=HK 3 (by decide)
    exact wpo_loadS 26 (.tmp 3) rfl qb 0 (by simpa [Act.eval] using e3) (campA V c) _ (HLC.out w1 HJ) und_camp rfl (info_campA V c) (kk _ _ (by simp) HJ trivial rfl)
   ·intro a w1 vs K HJ HK HD HN kk
    have e1:=HK 1 (by decide)
    go_simp;exact kk _ _ (by simp) HJ trivial rfl
   ·intro a w1 vs K HJ HK HD HN kk
    have e2:=HK 2 (by decide)
    go_simp;exact kk _ _ (by simp) HJ trivial rfl
   ·intro a w1 vs K HJ HK HD HN kk
    have e24:=hdE (HD 8 _ 24 rfl rfl rfl)
    have e25:=hdE (HD 9 _ 25 rfl rfl rfl)
    go_simp;exact kk _ _ (by simp) HJ trivial rfl
   ·intro a w1 vs K HJ HK HD HN kk
    have e26:=hdE (HD 10 _ 26 rfl rfl rfl)
    go_simp;exact kk _ _ (by simp) HJ trivial rfl
   ·intro a w1 vs K HJ HK HD HN kk
    have e27:=hdE (HD 11 _ 27 rfl rfl rfl)
    have ca:w1.cell? ⟨bb,off+m * 4+3,none⟩=some (.slice P nx Q2):=(HC.out w1 HJ).2
    go_simp;exact kk _ _ (by simp) HJ trivial rfl
   ·intro a w1 vs K HJ HK HD HN kk
    have e23:=hdE (HD 7 _ 23 rfl rfl rfl)
    have e28:=hdE (HD 12 _ 28 rfl rfl rfl)
    exact wpo_call 63 _ _ rfl #[.agg (campA V c),.slice P nx Q2] (by simp [Act.eval,e23,e28]) (fun args w=>by kernel_rfl)
     ((HMA.out w1 HJ).mono fun e w' ⟨he,hb⟩=>⟨_,he,kk _ _ (by simp) (Below.trans HJ (hb.mono HJ.size)) trivial rfl⟩)
   ·intro a w1 vs K HJ HK HD HN kk
    have e22:=hdE (HD 6 _ 22 rfl rfl rfl)
    have e29:=hdE (HD 13 _ 29 rfl rfl rfl)
    have hws:=HWS.out
    go_simp;exact kk _ _ (by simp) HJ trivial rfl
   ·intro a w1 vs K HJ HK HD HN kk
    have e30:=hdE (HD 14 _ 30 rfl rfl rfl)
    go_simp;exact kk _ _ (by simp) HJ trivial rfl
   ·intro a w1 vs K HJ HK HD HN kk
    go_simp;exact kk _ _ (by simp) HJ trivial rfl
  ·intro vs W3 hw6 hrr
   have e15:vs 15=.int .i64 (mo - ma):=hrr 15 _ rfl
   have e16:vs 16=.int .i64 0:=hrr 16 _ rfl
   have HB3:Hid (Below W0.heap.size W0 W3):=Lib.hid hw6
   clear hrr hw6
   simp only [putAll,Act.put,List.setIfInBounds_toArray,List.set_cons_zero,List.set_cons_succ]
   rw [e15,e16]
   go_wp2_with fail
   exact HFIN.out _ _ _ HRB.out (HB0.out.trans (HB3.out.mono HSZ.out))
 ·have hz1:(z == 0)=false:=by rw [beq_eq_false_iff_ne];exact he
  have HRB:Hid (((0:Int),z)=roomB c l i):=Lib.hid (by unfold roomB;rw [HZ.out,if_pos he])
  clear he
  simp only [campA] at hW0 ⊢
  go_enter Tryz.func22,Tryz.ntmps22
  go_upto_region 1 with (fail)
  clear hW0 hqb
  go_wp2_with (first | (refine wpLoadAt rfl 26 _ rfl qb 0 rfl (campA V c) _ HLC0.out und_camp rfl (info_campA V c) ?_))
  refine HM.out.mono ?_
  rintro e W1 ⟨rfl,hb1⟩
  have HB1:=Lib.hid hb1
  clear hb1
  go_wp2_with fail
  exact HFIN.out _ _ _ HRB.out (HB0.out.trans (HB1.out.mono HSZ.out))
end Go.Proofs.YtcnjenlojnognaaGreat
/- What is proved: a contract of campaign.Worth. Conditions: the campaign and the plan lie in memory. -/
namespace Go.Proofs.YtcnjenlojnognaaGreat
open Go.RowKit

set_option maxHeartbeats 1000000 in
theorem worth1_any (w:World) (ib:Nat) (i:Int) (y:LaunchD) (P:Option Addr) (Q:Nat) (hi:w.cell? ⟨ib,0,none⟩=some (.int .i64 i)) (hy:IntsAt w w.heap.size P y.cargos) :
  Calls Tryz.prog 58 #[.agg (launchA y P Q),.pointer (some ⟨ib,0,none⟩)] w fun e w'=>e=.returned (.bool (y.cargos.contains i))∧Below w.heap.size w w':=by
 have hb0:∀ o,Below w.heap.size w (w.alloc o):=fun o=>(Below.refl _ _).alloc (Nat.le_refl _) _
 have H:=Lib.hid fun o=>contains_any (w.alloc o) P Q y.cargos i (hy.later (hb0 o))
 have hil:ib<w.heap.size:=World.block_lt_of_cell? w _ hi
 obtain ⟨R,hR⟩:∃ R,y.cargos.contains i=R:=⟨_,rfl⟩
 rw [hR] at H ⊢
 clear hy hR
 simp only [launchA]
 go_enter Tryz.func58,Tryz.ntmps58
 go_wp2_with fail
 refine (H.out _).mono ?_
 rintro e w' ⟨rfl,rfl⟩
 go_wp2_with fail
 go_ret
 exact ⟨rfl,hb0 _⟩
theorem worthK_bd {c:CampD} (hc:campB c=true) (l:List LaunchD):∀ k,0≤(worthK c l k).1∧(worthK c l k).1≤k * 1073741824
 | 0=>by simp [worthK]
 | k+1=>by
  have h1:=worthK_bd hc l k
  have h2:=camp_cargo hc (k:Int)
  unfold worthK
  split
  ·dsimp only;omega
  ·dsimp only;omega
def WorthPost (c:CampD) (l:List LaunchD) (qb:Nat) (w:World) (e:Ending) (w':World):Prop:=e=.returned (.tuple #[.int .i64 (worthB c l).1,.bool (worthB c l).2.1,.int .i64 (worthB c l).2.2])∧Below qb w w'
set_option maxRecDepth 100000 in
set_option maxHeartbeats 8000000 in
theorem worth_any (w:World) (V:CV) (c:CampD) (h:CampAt w w.heap.size V c) (l:List LaunchD) (AL:Option Addr) (cL:Nat) (hp:PlanAt w w.heap.size AL l) (hcap:l.length≤cL) :
  Calls Tryz.prog 20 #[.agg (campA V c),.slice AL l.length cL] w (WorthPost c l w.heap.size w):=by
 obtain ⟨qb,hqb⟩:∃ qb,w.heap.size=qb:=⟨_,rfl⟩
 obtain ⟨W0,hW0⟩:∃ W0,w.alloc (.cells (campA V c) 26)=W0:=⟨_,rfl⟩
 have hb0:Below w.heap.size w W0:=by rw [← hW0];exact (Below.refl _ w).alloc (Nat.le_refl _) _
 have HB0:Hid (Below qb w W0):=Lib.hid (by rw [← hqb];exact hb0)
 have HKC:Hid (Bk W0 qb 26 (campA V c)):=Lib.hid (by rw [← hW0,← hqb];exact Bk.new _ _ _)
 have HSZ:Hid (qb≤W0.heap.size):=Lib.hid (by have:=HKC.out.lt;omega)
 have HCA:=Lib.hid (h.later hb0)
 have HPA:=Lib.hid (hp.later hb0)
 obtain ⟨nl,hnl⟩:∃ nl,l.length=nl:=⟨_,rfl⟩
 have HNL:=Lib.hid hnl
 obtain ⟨bv,hbv⟩:∃ b,validB c l=b:=⟨_,rfl⟩
 have HBV:=Lib.hid hbv
 have HV:=Lib.hid (valid_val W0 V c HCA.out l AL cL HPA.out hcap bv hbv nl hnl)
 have HLC0:Hid (∀ j u,(campA V c)[j]?=some u→W0.cell? ⟨qb,0+j,none⟩=some u):=Lib.hid fun j u hj=>by rw [Nat.zero_add,HKC.out.cell];exact hj
 obtain ⟨Q,hQ⟩:∃ Q,WorthPost c l w.heap.size w=Q:=⟨_,rfl⟩
 have HFIN:Hid (∀ (a:Int) (b:Bool) (d:Int) (w':World),(a,b,d)=worthB c l→Below qb w w'→Q (.returned (.tuple #[.int .i64 a,.bool b,.int .i64 d])) w'):=Lib.hid fun a b d w' h1 h3=>by
  rw [← hQ,hqb];unfold WorthPost;rw [← h1];exact ⟨rfl,h3⟩
 obtain ⟨ng,hng⟩:∃ ng,c.cargos.length=ng:=⟨_,rfl⟩
 have HNG:=Lib.hid hng
 have hngl:ng≤9223372036854775807:=by rw [← hng];exact h.cargos.1
 have hll:=hp.len
 rw [hnl] at hll ⊢
 rw [hQ]
 clear h hp hb0 hcap hnl hQ hbv
 cases bv with
 | false =>
  have HRB:Hid (((0:Int),false,(2:Int))=worthB c l):=Lib.hid (by unfold worthB;rw [HBV.out];rfl)
  clear hng
  simp only [campA] at hW0 ⊢
  go_enter Tryz.func20,Tryz.ntmps20
  go_upto_region 1 with (fail)
  clear hW0 hqb
  go_wp2_with (first | (refine wpLoadAt rfl 26 _ rfl qb 0 rfl (campA V c) _ HLC0.out und_camp rfl (info_campA V c) ?_))
  refine HV.out.mono ?_
  rintro e W1 ⟨rfl,hb1⟩
  have HB1:=Lib.hid hb1
  clear hb1
  go_wp2_with fail
  go_ret3
  exact HFIN.out _ _ _ _ HRB.out (HB0.out.trans (HB1.out.mono HSZ.out))
 | true =>
 obtain ⟨hcc,hpl⟩:=valid_iff.1 HBV.out
 have hng6:ng≤6:=by have:=(camp_len hcc).2.2.2.2.2.1;omega
 have HWB:=Lib.hid (worthK_bd hcc l)
 have HCG:=Lib.hid fun (i:Int)=>camp_cargo hcc i
 have HKS:Hid (∀ k,worthK c l (k+1)=if launchedB l k then ((worthK c l k).1+(c.cargo k).value,(worthK c l k).2) else ((worthK c l k).1,(worthK c l k).2 && !(c.cargo k).must)):=Lib.hid fun k=>rfl
 have HRB:Hid (((worthK c l ng).1,(worthK c l ng).2,(0:Int))=worthB c l):=Lib.hid (by unfold worthB;rw [HBV.out,if_pos rfl,hng])
 have HLA:Hid (∀ (w1:World) (ib:Nat) (k:Nat),Below W0.heap.size W0 w1→w1.cell? ⟨ib,0,none⟩=some (.int .i64 (k:Int))→Calls Tryz.prog 57 #[.slice AL nl cL,.func (.func 58) #[] #[.pointer (some ⟨ib,0,none⟩)]] w1 fun e w'=>e=.returned (.bool (launchedB l k))∧Below w1.heap.size w1 w'):=Lib.hid fun w1 ib k hb hk=>by
  rw [← HNL.out]
  exact conL_any w1 AL cL l (HPA.out.later hb) 58 _ (fun y=>y.cargos.contains (k:Int)) (fun args w=>by kernel_rfl) fun w2 hw2 y P Q _ hy =>
   worth1_any w2 ib k y P Q ((hw2.cell (p:=⟨ib,0,none⟩) (World.block_lt_of_cell? w1 _ hk)).trans hk) hy
 clear hcc hpl
 simp only [campA] at hW0 ⊢
 rw [hng] at hW0 ⊢
 have c2:∀ w1,Below W0.heap.size W0 w1→w1.cell? ⟨qb,2,none⟩=some (.slice V.gA ng V.gc):=fun w1 hb=>by
  have:=(HKC.out.below hb HKC.out.lt).cell 2
  rw [← hng];exact this
 have HC2:=Lib.hid c2
 clear c2 hng
 go_enter Tryz.func20,Tryz.ntmps20
 go_upto_region 1 with (fail)
 clear hW0 hqb
 go_wp2_with (first | (refine wpLoadAt rfl 26 _ rfl qb 0 rfl (campA V c) _ HLC0.out und_camp rfl (info_campA V c) ?_))
 refine HV.out.mono ?_
 rintro e W1 ⟨rfl,hb1⟩
 have HB1:=Lib.hid hb1
 have c2:=HC2.out W1 hb1
 clear hb1
 go_wp2_with fail
 clear c2
 go_loopw [4,5,16] (fun v b i wr=>∃ (k:Nat) (vi:Int) (bi:Bool),k≤ng∧i=.int .i64 k∧v=.int .i64 vi∧b=.bool bi∧Hid (Below W0.heap.size W0 wr∧vi=(worthK c l k).1∧bi=(worthK c l k).2)) (fun _ _ i _=>ng - (intOf i).toNat)
 case atStart=>exact ⟨0,0,true,Nat.zero_le _,rfl,rfl,rfl,Lib.hid ⟨HB1.out,rfl,rfl⟩⟩
 case round =>
  obtain ⟨k,vi,bi,hk,rfl,rfl,rfl,hs⟩:=hrel
  have HB:=Lib.hid hs.out.1
  have HVI:=Lib.hid hs.out.2.1
  have HBI:=Lib.hid hs.out.2.2
  clear hs
  have h0k:(0:Int)≤(k:Int):=by omega
  have hvb:=HWB.out k
  rw [← HVI.out] at hvb
  obtain ⟨hv0,hv1⟩:=hvb
  have hv2:vi≤6442450944:=by omega
  clear hv1
  by_cases hlt:k<ng
  ·have hki:(k:Int)<(ng:Int):=by omega
   obtain ⟨gb,go,hga,hgb,g0,g1,g2,g3,g4,g5⟩:=Sl.at6 (HCA.out.later HB.out).cargos (i:=k) (by rw [HNG.out];exact hlt)
   dsimp only [cargoC] at g0 g1 g2 g3 g4 g5
   obtain ⟨y,hy⟩:∃ y,c.cargoN k=y:=⟨_,rfl⟩
   have HY:Hid (c.cargo (k:Int)=y):=Lib.hid hy
   rw [hy] at g0 g1 g2 g3 g4 g5
   rw [hga]
   clear hy hga
   obtain ⟨lv,hlv⟩:∃ b,launchedB l k=b:=⟨_,rfl⟩
   have hyb:=HCG.out (k:Int)
   rw [HY.out] at hyb
   obtain ⟨_,_,hy0,hy1,_⟩:=hyb
   have hbal:Below W0.heap.size W0 ((wr.alloc (.cells #[.int .i64 (k:Int)] 3)).alloc (.cells #[.string y.name,.int .i64 y.mass,.int .i64 y.value,.int .i64 y.frm,.int .i64 y.to,.bool y.must] 54)):=(HB.out.alloc HB.out.size _).alloc (by simp;have:=HB.out.size;omega) _
   have HBAL:=Lib.hid hbal
   have HCN:=Lib.hid (HLA.out _ wr.heap.size k hbal (by simp))
   rw [hlv] at HCN
   have HKK:=Lib.hid (HKS.out k)
   rw [hlv,HY.out] at HKK
   clear hlv hbal
   go_wp2_with fail
   refine HCN.out.mono ?_
   rintro e w2 ⟨rfl,hb2⟩
   have HB2:=Lib.hid (HBAL.out.trans (hb2.mono HBAL.out.size))
   have e2:w2.cell? ⟨wr.heap.size+1,2,none⟩=some (.int .i64 y.value):=by rw [hb2.cell (p:=⟨wr.heap.size+1,2,none⟩) (by simp)];simp
   have e5:w2.cell? ⟨wr.heap.size+1,5,none⟩=some (.bool y.must):=by rw [hb2.cell (p:=⟨wr.heap.size+1,5,none⟩) (by simp)];simp
   clear hb2 g0 g1 g2 g3 g4 g5
   cases lv with
   | true =>
    clear e5
    go_wp2_with fail
    go_roundw
    case rel=>exact ⟨k+1,_,_,by omega,by go_num,rfl,rfl,Lib.hid ⟨HB2.out,by rw [HKK.out,if_pos (by first | rfl | exact trivial),HVI.out],by rw [HKK.out,if_pos (by first | rfl | exact trivial),HBI.out]⟩⟩
    case measure=>simp [intOf];omega
   | false =>
    obtain ⟨ym,hym⟩:∃ b,y.must=b:=⟨_,rfl⟩
    rw [hym] at e5 HKK
    clear e2 hym
    cases bi with
    | false =>
     go_wp2_with fail
     go_roundw
     case rel=>exact ⟨k+1,vi,false,by omega,by go_num,rfl,rfl,Lib.hid ⟨HB2.out,by rw [HKK.out,if_neg (by decide),HVI.out],by rw [HKK.out,if_neg (by decide)];dsimp only;rw [← HBI.out];rfl⟩⟩
     case measure=>simp [intOf];omega
    | true =>
     go_wp2_with fail
     go_roundw
     case rel=>exact ⟨k+1,vi,!ym,by omega,by go_num,rfl,rfl,Lib.hid ⟨HB2.out,by rw [HKK.out,if_neg (by decide),HVI.out],by rw [HKK.out,if_neg (by decide)];dsimp only;rw [← HBI.out];rfl⟩⟩
     case measure=>simp [intOf];omega
  ·obtain rfl:k=ng:=by omega
   have HE:Hid ((vi,bi,(0:Int))=worthB c l):=Lib.hid (by rw [HVI.out,HBI.out];exact HRB.out)
   go_wp2_with fail
   go_ret3
   exact HFIN.out _ _ _ _ HE.out (HB0.out.trans (HB.out.mono HSZ.out))
end Go.Proofs.YtcnjenlojnognaaGreat
