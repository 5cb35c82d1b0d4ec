/- What is proved: the texts Dr Ds, one behind the other; each says at its head what it proves, and under which conditions. -/
import Derived.StillTactics
import Derived.StillTailTactics
import Derived.Test.YtcnjenlojnognaaGreatg27
/- What is proved: the contract of the document's soonest. Conditions: the campaign and the plan lie in memory; the launch's indices exist. -/
namespace Go.Proofs.YtcnjenlojnognaaGreat
open Go.RowKit

def launchC (d ic ip:Int) (A:Option Addr) (n cl:Nat):Array Value:=#[.int .i64 d,.int .i64 ic,.int .i64 ip,.slice A n cl]
/-- The launch's box (qx) with day d; behind it the result's. -/
def SnR (W0:World) (qx:Nat) (d ic ip:Int) (A:Option Addr) (n cl:Nat) (w':World):Prop :=
 Below qx W0 w'∧Bk w' qx 52 (launchC d ic ip A n cl)∧Bk w' (qx+1) 52 #[.int .i64 0,.int .i64 0,.int .i64 0,.slice none 0 0]
theorem SnR.set {W0 w':World} {qx:Nat} {d ic ip:Int} {A:Option Addr} {n cl:Nat} (h:SnR W0 qx d ic ip A n cl w') (d':Int):SnR W0 qx d' ic ip A n cl (w'.setCell ⟨qx,0,none⟩ (.int .i64 d')) :=
 ⟨h.1.setCell (p:=⟨qx,0,none⟩) (Nat.le_refl _) _,by have:=h.2.1.set 0 (.int .i64 d');exact this,h.2.2.far (p:=⟨qx,0,none⟩) (by show qx+1 ≠ qx;omega) _⟩
theorem SnR.drew {W0 w':World} {qx:Nat} {d ic ip:Int} {A:Option Addr} {n cl:Nat} (h:SnR W0 qx d ic ip A n cl w'):SnR W0 qx d ic ip A n cl w'.drew:=⟨h.1.drew,h.2.1,h.2.2⟩
theorem froms_take (c:CampD) (d:Int) (l:List Int) (k:Nat) (h:k<l.length):froms c d (l.take (k+1))=max (froms c d (l.take k)) (c.cargo (numI l k)).frm:=by
 have e:l.take (k+1)=l.take k ++ [numI l k]:=by
  rw [List.take_succ_eq_append_getElem h];unfold numI;rw [List.getD_eq_getElem?_getD,List.getElem?_eq_getElem h];rfl
 unfold froms;rw [e,List.foldl_append];rfl
theorem soonF_take (c:CampD) (x:LaunchD) (d:Int) (l:List LaunchD) (k:Nat) (h:k<l.length):(l.take (k+1)).foldl (soonS c x) d=soonS c x ((l.take k).foldl (soonS c x) d) (l.getD k launch0):=by
 rw [take_snocL l k h,List.foldl_append];rfl
end Go.Proofs.YtcnjenlojnognaaGreat
/- What is proved: the contract of the document's soonest. Conditions: the campaign and the plan lie in memory; the launch's indices exist. -/
namespace Go.Proofs.YtcnjenlojnognaaGreat
open Go.RowKit

def SoonPost (c:CampD) (l:List LaunchD) (x:LaunchD) (A:Option Addr) (cl:Nat) (w:World) (e:Ending) (w':World):Prop:=e=.returned (.agg (launchA { x with day:=soonP c l x } A cl))∧Below w.heap.size w w'
set_option maxRecDepth 100000 in
set_option maxHeartbeats 32000000 in
theorem soonest_any (w:World) (V:CV) (c:CampD) (h:CampAt w w.heap.size V c) (hc:campB c=true) (l:List LaunchD) (AL:Option Addr) (cL:Nat) (hp:PlanAt w w.heap.size AL l) (hd:∀ y ∈ l,0≤y.day∧y.day≤10000) (x:LaunchD) (A:Option Addr) (cl:Nat) (hl:IntsAt w w.heap.size A x.cargos)
  (ic ip:Nat) (hic:x.craft=(ic:Int)) (hip:x.pad=(ip:Int)) (hicn:ic<c.crafts.length) (hipn:ip<c.pads.length) (hx:∀ i ∈ x.cargos,0≤i∧i<c.cargos.length) (hx6:x.cargos.length≤6) :
  Calls Tryz.prog 99 #[.agg (campA V c),.slice AL l.length cL,.agg (launchA x A cl)] w (SoonPost c l x A cl w):=by
 obtain ⟨qb,hqb⟩:∃ qb,w.heap.size=qb:=⟨_,rfl⟩
 have HQB:Hid (w.heap.size≤qb):=Lib.hid (by omega)
 obtain ⟨W0,hW0⟩:∃ W0,((w.alloc (.cells (campA V c) 26)).alloc (.cells (launchA x A cl) 52)).alloc (.cells #[.int .i64 0,.int .i64 0,.int .i64 0,.slice none 0 0] 52)=W0:=⟨_,rfl⟩
 have hb0:Below w.heap.size w W0:=by rw [← hW0];exact (((Below.refl _ w).alloc (Nat.le_refl _) _).alloc (by simp) _).alloc (by simp;omega) _
 have HKC:Hid (Bk W0 qb 26 (campA V c)):=Lib.hid (by rw [← hW0,← hqb];exact ((Bk.new _ _ _).alloc _).alloc _)
 obtain ⟨nx,hnx⟩:∃ n,x.cargos.length=n:=⟨_,rfl⟩
 have HNX:=Lib.hid hnx
 obtain ⟨xz,hx0⟩:∃ n,x.day=n:=⟨_,rfl⟩
 have HS0:Hid (SnR W0 (qb+1) xz (ic:Int) (ip:Int) A nx cl W0):=Lib.hid ⟨Below.refl _ _,by
   rw [← hW0,← hqb,← hic,← hip,← hnx,← hx0];exact (Bk.newAt _ _ _ _ (by simp)).alloc _,by
   rw [← hW0,← hqb];exact Bk.newAt _ _ _ _ (by simp)⟩
 have HBW:Hid (∀ w1,Below (qb+1) W0 w1→Below w.heap.size w w1):=Lib.hid fun w1 h1=>hb0.trans (h1.mono (by omega))
 have HCW:Hid (∀ w1,Below (qb+1) W0 w1→CampAt w1 w1.heap.size V c):=Lib.hid fun w1 h1=>h.later (HBW.out w1 h1)
 have HPW:Hid (∀ w1,Below (qb+1) W0 w1→PlanAt w1 w1.heap.size AL l):=Lib.hid fun w1 h1=>hp.later (HBW.out w1 h1)
 have HLW:Hid (∀ w1,Below (qb+1) W0 w1→IntsAt w1 w1.heap.size A x.cargos):=Lib.hid fun w1 h1=>hl.later (HBW.out w1 h1)
 have HCC:=Lib.hid hc
 have HDY:=Lib.hid hd
 have HXC:=Lib.hid hx
 obtain ⟨nl,hnl⟩:∃ n,l.length=n:=⟨_,rfl⟩
 have HNL:=Lib.hid hnl
 have hll:=hp.len
 obtain ⟨nc,hnc⟩:∃ n,c.crafts.length=n:=⟨_,rfl⟩
 obtain ⟨np,hnp⟩:∃ n,c.pads.length=n:=⟨_,rfl⟩
 obtain ⟨ng,hng⟩:∃ n,c.cargos.length=n:=⟨_,rfl⟩
 have HNC:=Lib.hid hnc
 have HNP:=Lib.hid hnp
 have HNG:=Lib.hid hng
 obtain ⟨cb,co,hcA,_⟩:=h.crafts.2 (by omega)
 obtain ⟨pb,po,hpA,_⟩:=h.pads.2 (by omega)
 obtain ⟨rd,hrd⟩:∃ n,(c.craftN ic).ready=n:=⟨_,rfl⟩
 obtain ⟨ag,hag⟩:∃ n,(c.craftN ic).again=n:=⟨_,rfl⟩
 obtain ⟨cn,hcn⟩:∃ n,(c.padN ip).clean=n:=⟨_,rfl⟩
 have HCB:Hid (∀ w1,Below (qb+1) W0 w1→w1.cell? ⟨qb,0,none⟩=some (.slice (some ⟨cb,co,none⟩) nc V.cc)∧w1.cell? ⟨qb,1,none⟩=some (.slice (some ⟨pb,po,none⟩) np V.pc)∧w1.cell? ⟨qb,2,none⟩=some (.slice V.gA ng V.gc) ∧
   w1.cell? ⟨cb,co+ic * 4+2,none⟩=some (.int .i64 rd)∧w1.cell? ⟨cb,co+ic * 4+3,none⟩=some (.int .i64 ag)∧w1.cell? ⟨pb,po+ip * 3+1,none⟩=some (.int .i64 cn)):=Lib.hid fun w1 h1=>by
  have k1:=HKC.out.below h1 (by omega)
  obtain ⟨cb',co',e1,_,_,_,g2,g3⟩:=Sl.at4 (HCW.out w1 h1).crafts (i:=ic) (by rw [hnc];omega)
  obtain ⟨pb',po',e2,_,_,g1,_⟩:=Sl.at3 (HCW.out w1 h1).pads (i:=ip) (by rw [hnp];omega)
  rw [hcA] at e1
  rw [hpA] at e2
  obtain ⟨rfl,rfl⟩:cb=cb'∧co=co':=by simpa using e1
  obtain ⟨rfl,rfl⟩:pb=pb'∧po=po':=by simpa using e2
  rw [← hnc,← hnp,← hng,← hcA,← hpA,← hrd,← hag,← hcn]
  exact ⟨k1.cell 0,k1.cell 1,k1.cell 2,g2,g3,g1⟩
 have hrb:=camp_craft hc (ic:Int)
 have hcb:=camp_pad hc (ip:Int)
 rw [craft_nat,hrd,hag] at hrb
 rw [pad_nat,hcn] at hcb
 obtain ⟨hag0,hag1,hrd0,hrd1,_,_⟩:=hrb
 obtain ⟨hcn0,hcn1⟩:=hcb
 have HRD:Hid ((c.craft x.craft).ready=rd∧(c.craft x.craft).again=ag∧(c.pad x.pad).clean=cn):=Lib.hid (by rw [hic,hip];exact ⟨hrd,hag,hcn⟩)
 have HXI:Hid (x.craft=(ic:Int)∧x.pad=(ip:Int)):=Lib.hid ⟨hic,hip⟩
 obtain ⟨PQ,hPQ⟩:∃ Q,SoonPost c l x A cl w=Q:=⟨_,rfl⟩
 have HFIN:Hid (∀ d w',soonP c l x=d→Below w.heap.size w w'→PQ (.returned (.agg #[.int .i64 d,.int .i64 (ic:Int),.int .i64 (ip:Int),.slice A nx cl])) w'):=Lib.hid fun d w' h1 h2=>by
  rw [← hPQ];unfold SoonPost launchA;rw [h1]
  dsimp only
  rw [hic,hip,hnx];exact ⟨rfl,h2⟩
 rw [hnc] at hicn
 rw [hnp] at hipn
 have hici:(ic:Int)<(nc:Int):=by omega
 have hipi:(ip:Int)<(np:Int):=by omega
 have h0ic:(0:Int)≤(ic:Int):=by omega
 have h0ip:(0:Int)≤(ip:Int):=by omega
 rw [hnx] at hx6
 rw [hnl] at hll ⊢
 rw [hPQ]
 simp only [launchA] at hW0 ⊢
 rw [hnx,hx0,hic,hip] at hW0 ⊢
 clear h hc hp hd hl hic hip hx hb0 hnx hx0 hnl hnc hnp hng hcA hpA hrd hag hcn hPQ
 simp only [campA] at hW0 ⊢
 go_enter Tryz.func99,Tryz.ntmps99
 go_upto_region 1 with (fail)
 clear hW0 hqb
 obtain ⟨p0,p1,p2,p3,p4,p5⟩:=HCB.out W0 HS0.out.1
 have x0:W0.cell? ⟨qb+1,0,none⟩=some (.int .i64 xz):=HS0.out.2.1.cell 0
 have fx:W0.frozen? ⟨qb+1,0,none⟩=false:=HS0.out.2.1.free 0
 have x1:W0.cell? ⟨qb+1,1,none⟩=some (.int .i64 (ic:Int)):=HS0.out.2.1.cell 1
 have x2:W0.cell? ⟨qb+1,2,none⟩=some (.int .i64 (ip:Int)):=HS0.out.2.1.cell 2
 have x3:W0.cell? ⟨qb+1,3,none⟩=some (.slice A nx cl):=HS0.out.2.1.cell 3
 go_upto_region 2 with (fail)
 obtain ⟨W1,hW1⟩:∃ W,W0.setCell ⟨qb+1,0,none⟩ (.int .i64 rd)=W:=⟨_,rfl⟩
 have HSW1:=Lib.hid (show SnR W0 (qb+1) _ (ic:Int) (ip:Int) A nx cl W1 by rw [← hW1];exact HS0.out.set rd)
 rw [hW1]
 clear hW1
 clear p0 p1 p2 p3 p4 p5 x0 fx x1 x2 x3
 go_wp2_with fail
 go_loopw [7] (fun iv wr=>∃ k:Nat,k≤nx∧iv=.int .i64 k∧Hid (SnR W0 (qb+1) (froms c rd (x.cargos.take k)) (ic:Int) (ip:Int) A nx cl wr)) (fun iv _=>nx - (intOf iv).toNat)
 case atStart=>exact ⟨0,Nat.zero_le _,rfl,HSW1⟩
 case round =>
  obtain ⟨k,hk,rfl,hs⟩:=hrel
  obtain ⟨dk,hdk⟩:∃ n,froms c rd (x.cargos.take k)=n:=⟨_,rfl⟩
  rw [hdk] at hs
  have HSR:=hs
  have HDK:=Lib.hid hdk
  clear hs hdk
  have h0k:(0:Int)≤(k:Int):=by omega
  obtain ⟨p0,p1,p2,p3,p4,p5⟩:=HCB.out wr HSR.out.1
  have x0:wr.cell? ⟨qb+1,0,none⟩=some (.int .i64 dk):=HSR.out.2.1.cell 0
  have fx:wr.frozen? ⟨qb+1,0,none⟩=false:=HSR.out.2.1.free 0
  have x1:wr.cell? ⟨qb+1,1,none⟩=some (.int .i64 (ic:Int)):=HSR.out.2.1.cell 1
  have x2:wr.cell? ⟨qb+1,2,none⟩=some (.int .i64 (ip:Int)):=HSR.out.2.1.cell 2
  have x3:wr.cell? ⟨qb+1,3,none⟩=some (.slice A nx cl):=HSR.out.2.1.cell 3
  by_cases hlt:k<nx
  case pos =>
   have hki:(k:Int)<(nx:Int):=by omega
   have hkl:k<x.cargos.length:=by rw [HNX.out];exact hlt
   obtain ⟨xb,xo,hA,_,hxc⟩:=(HLW.out wr HSR.out.1).2 (by omega)
   have c0:=hxc k hkl 0 (by omega)
   simp only [Nat.mul_one,Nat.add_zero] at c0
   have hmem:numI x.cargos k ∈ x.cargos:=by unfold numI;rw [List.getD_eq_getElem?_getD,List.getElem?_eq_getElem hkl];exact List.getElem_mem hkl
   have hrng:=HXC.out _ hmem
   obtain ⟨mi,hmi⟩:∃ mi:Nat,numI x.cargos k=(mi:Int):=⟨(numI x.cargos k).toNat,by omega⟩
   have hmn:mi<ng:=by have:=HNG.out;omega
   rw [hmi] at c0
   obtain ⟨gb,go,hgA,_,g0,g1,g2,g3,g4,g5⟩:=Sl.at6 (HCW.out wr HSR.out.1).cargos (i:=mi) (by rw [HNG.out];exact hmn)
   dsimp only [cargoC] at g3
   obtain ⟨fr,hfr⟩:∃ n,(c.cargoN mi).frm=n:=⟨_,rfl⟩
   rw [hfr] at g3
   have HNX1:Hid (froms c rd (x.cargos.take (k+1))=max dk fr):=Lib.hid (by rw [froms_take c rd _ k hkl,HDK.out,hmi,cargo_nat,hfr])
   have hmii:(mi:Int)<(ng:Int):=by omega
   have h0mi:(0:Int)≤(mi:Int):=by omega
   rw [hA] at x3
   rw [hgA] at p2
   have HA:=Lib.hid hA
   clear hkl hxc hmem hrng hmi hgA g0 g1 g2 g4 g5 hfr hA
   go_upto_region 5 with (fail)
   go_still_tail 13,(by kernel_rfl)
   go_wp2_with fail
   go_roundw
   case rel=>exact ⟨k+1,by omega,by go_num,Lib.hid (by rw [HNX1.out];exact (HSR.out.set _).drew)⟩
   case measure=>simp [intOf];omega
  case neg =>
   obtain rfl:k=nx:=by omega
   have HSE:=HSR
   have HDE:=HDK
   rw [show x.cargos.take k=x.cargos from List.take_of_length_le (by rw [HNX.out];exact Nat.le_refl k)] at HDE
   clear HSR HDK
   go_wp2_with fail
   clear p0 p1 p2 p3 p4 p5 x0 fx x1 x2 x3
   go_loopw [8] (fun iv wr=>∃ q:Nat,q≤nl∧iv=.int .i64 q∧Hid (SnR W0 (qb+1) ((l.take q).foldl (soonS c x) dk) (ic:Int) (ip:Int) A k cl wr)) (fun iv _=>nl - (intOf iv).toNat)
   case atStart=>exact ⟨0,Nat.zero_le _,rfl,HSE⟩
   case round =>
    obtain ⟨q,hq,rfl,hs⟩:=hrel
    obtain ⟨d0,hd0⟩:∃ n,(l.take q).foldl (soonS c x) dk=n:=⟨_,rfl⟩
    rw [hd0] at hs
    have HSR:=hs
    have HD0:=Lib.hid hd0
    clear hs hd0
    have h0q:(0:Int)≤(q:Int):=by omega
    by_cases hqt:q<nl
    case neg =>
     obtain rfl:q=nl:=by omega
     have HSO:Hid (soonP c l x=d0):=Lib.hid (by
      unfold soonP
      rw [HRD.out.1,HDE.out,← HD0.out,List.take_of_length_le (by rw [HNL.out];exact Nat.le_refl q)])
     have HKR:Hid (Bk wr (qb+1+1) 52 #[.int .i64 0,.int .i64 0,.int .i64 0,.slice none 0 0]):=Lib.hid HSR.out.2.2
     have HKX:Hid (Bk wr (qb+1) 52 (launchC d0 (ic:Int) (ip:Int) A k cl)):=Lib.hid HSR.out.2.1
     have HONE:Hid (∀ u ∈ (launchC d0 (ic:Int) (ip:Int) A k cl).toList,u.oneCell'=true):=Lib.hid (by intro u hu;simp [launchC] at hu;rcases hu with rfl | rfl | rfl | rfl <;> rfl)
     have HSZ:Hid (Below w.heap.size w wr):=Lib.hid (HBW.out wr HSR.out.1)
     have HIL:Hid ((Tryz.prog.info? 52).map (·.size)=some (launchC d0 (ic:Int) (ip:Int) A k cl).size):=Lib.hid info_launch
     go_wp2_with (first | (refine wpLoadAt rfl 52 _ rfl (qb+1) 0 rfl (launchC d0 (ic:Int) (ip:Int) A k cl) _ (fun j u hj=>by rw [Nat.zero_add,HKX.out.cell];exact hj) und_launch rfl HIL.out ?_) | (refine wpStoreAt rfl rfl 52 _ _ rfl (qb+1+1) 0 rfl (launchC d0 (ic:Int) (ip:Int) A k cl) rfl 52 _ HKR.out (by show 0+4≤4;omega) HONE.out HIL.out ?_;intro wf hkf hof))
     rw [splA_all #[.int .i64 0,.int .i64 0,.int .i64 0,.slice none 0 0] (launchC d0 (ic:Int) (ip:Int) A k cl) rfl] at hkf
     refine bodyPost_ret (v:=.agg (launchC d0 (ic:Int) (ip:Int) A k cl)) (results_cellS rfl _ _ (qb+1+1) 52 (launchC d0 (ic:Int) (ip:Int) A k cl) _ rfl hkf und_launch rfl HIL.out) rfl (HFIN.out _ _ HSO.out (HSZ.out.trans (hof.below (by have:=HQB.out;omega))))
    case pos =>
     have hqi:(q:Int)<(nl:Int):=by omega
     have hql:q<l.length:=by rw [HNL.out];exact hqt
     obtain ⟨lb,lo,LP,LQ,rfl,_,_,_⟩:=(HPW.out wr HSR.out.1).at hql
     obtain ⟨yd,hyd⟩:∃ n,(l.getD q launch0).day=n:=⟨_,rfl⟩
     obtain ⟨yc,hyc⟩:∃ n,(l.getD q launch0).craft=n:=⟨_,rfl⟩
     obtain ⟨yp,hyp⟩:∃ n,(l.getD q launch0).pad=n:=⟨_,rfl⟩
     have HY:Hid (∀ w1,Below (qb+1) W0 w1→w1.cell? ⟨lb,lo+q * 4,none⟩=some (.int .i64 yd)∧w1.cell? ⟨lb,lo+q * 4+1,none⟩=some (.int .i64 yc)∧w1.cell? ⟨lb,lo+q * 4+2,none⟩=some (.int .i64 yp)):=Lib.hid fun w1 h1=>by
      obtain ⟨lb',lo',P',Q',e,_,lc,_⟩:=(HPW.out w1 h1).at hql
      obtain ⟨rfl,rfl⟩:lb=lb'∧lo=lo':=by simpa using e
      rw [← hyd,← hyc,← hyp]
      exact ⟨lc 0 _ rfl,lc 1 _ rfl,lc 2 _ rfl⟩
     have hyb:=HDY.out (l.getD q launch0) (by rw [List.getD_eq_getElem?_getD,List.getElem?_eq_getElem hql];exact List.getElem_mem hql)
     rw [hyd] at hyb
     obtain ⟨hy0,hy1⟩:=hyb
     obtain ⟨d1,hd1⟩:∃ n,max d0 yd=n:=⟨_,rfl⟩
     obtain ⟨d2,hd2⟩:∃ n,(if yc=(ic:Int) then max d1 (yd+ag) else d1)=n:=⟨_,rfl⟩
     obtain ⟨d3,hd3⟩:∃ n,(if yp=(ip:Int) then max d2 (yd+cn) else d2)=n:=⟨_,rfl⟩
     have HD1:=Lib.hid hd1
     have HD2:=Lib.hid hd2
     have HD3:=Lib.hid hd3
     have HNX2:Hid ((l.take (q+1)).foldl (soonS c x) dk=d3):=Lib.hid (by
      rw [soonF_take c x dk l q hql,HD0.out]
      unfold soonS
      rw [hyd,hyc,hyp,HRD.out.2.1,HRD.out.2.2,HXI.out.1,HXI.out.2,hd1]
      dsimp only
      rw [hd2,hd3])
     have hws1:IntKind.i64.wrap (yd+ag)=yd+ag:=IntWalk.i64_in _ (by omega)
     have hws2:IntKind.i64.wrap (yd+cn)=yd+cn:=IntWalk.i64_in _ (by omega)
     clear hyd hyc hyp hd1 hd2 hd3 hql
     obtain ⟨p0,p1,p2,p3,p4,p5⟩:=HCB.out wr HSR.out.1
     have x0:wr.cell? ⟨qb+1,0,none⟩=some (.int .i64 d0):=HSR.out.2.1.cell 0
     have fx:wr.frozen? ⟨qb+1,0,none⟩=false:=HSR.out.2.1.free 0
     have x1:wr.cell? ⟨qb+1,1,none⟩=some (.int .i64 (ic:Int)):=HSR.out.2.1.cell 1
     have x2:wr.cell? ⟨qb+1,2,none⟩=some (.int .i64 (ip:Int)):=HSR.out.2.1.cell 2
     have x3:wr.cell? ⟨qb+1,3,none⟩=some (.slice A k cl):=HSR.out.2.1.cell 3
     obtain ⟨y0,y1,y2⟩:=HY.out wr HSR.out.1
     go_upto_region 9 with (fail)
     go_still_tail 8,(by kernel_rfl)
     go_upto_region 10 with (fail)
     obtain ⟨V1,hV1⟩:∃ W,(wr.setCell ⟨qb+1,0,none⟩ (.int .i64 (max d0 yd))).drew=W:=⟨_,rfl⟩
     have HSV1:=Lib.hid (show SnR W0 (qb+1) _ (ic:Int) (ip:Int) A k cl V1 by rw [← hV1];exact (HSR.out.set _).drew)
     rw [hV1]
     clear hV1
     clear p0 p1 p2 p3 p4 p5 x0 fx x1 x2 x3 y0 y1 y2
     rw [HD1.out] at HSV1
     by_cases hce:yc=(ic:Int)
     ·have hce1:(yc == (ic:Int))=true:=by rw [beq_iff_eq];exact hce
      have HMAX:Hid (d2=max d1 (yd+ag)):=Lib.hid (by rw [← HD2.out,if_pos hce])
      clear hce
      obtain ⟨p0,p1,p2,p3,p4,p5⟩:=HCB.out V1 HSV1.out.1
      have x0:V1.cell? ⟨qb+1,0,none⟩=some (.int .i64 d1):=HSV1.out.2.1.cell 0
      have fx:V1.frozen? ⟨qb+1,0,none⟩=false:=HSV1.out.2.1.free 0
      have x1:V1.cell? ⟨qb+1,1,none⟩=some (.int .i64 (ic:Int)):=HSV1.out.2.1.cell 1
      have x2:V1.cell? ⟨qb+1,2,none⟩=some (.int .i64 (ip:Int)):=HSV1.out.2.1.cell 2
      have x3:V1.cell? ⟨qb+1,3,none⟩=some (.slice A k cl):=HSV1.out.2.1.cell 3
      obtain ⟨y0,y1,y2⟩:=HY.out V1 HSV1.out.1
      go_upto_region 10 with (fail)
      go_still (by kernel_rfl)
      change Exit.then _ _ Exit.normal _ V1.drew
      obtain ⟨V2,hV2⟩:∃ W,V1.drew=W:=⟨_,rfl⟩
      have HSV2:=Lib.hid (show SnR W0 (qb+1) _ (ic:Int) (ip:Int) A k cl V2 by rw [← hV2];exact HSV1.out.drew)
      rw [hV2]
      clear hV2
      clear p0 p1 p2 p3 p4 p5 x0 fx x1 x2 x3 y0 y1 y2
      obtain ⟨p0,p1,p2,p3,p4,p5⟩:=HCB.out V2 HSV2.out.1
      have x0:V2.cell? ⟨qb+1,0,none⟩=some (.int .i64 d1):=HSV2.out.2.1.cell 0
      have fx:V2.frozen? ⟨qb+1,0,none⟩=false:=HSV2.out.2.1.free 0
      have x1:V2.cell? ⟨qb+1,1,none⟩=some (.int .i64 (ic:Int)):=HSV2.out.2.1.cell 1
      have x2:V2.cell? ⟨qb+1,2,none⟩=some (.int .i64 (ip:Int)):=HSV2.out.2.1.cell 2
      have x3:V2.cell? ⟨qb+1,3,none⟩=some (.slice A k cl):=HSV2.out.2.1.cell 3
      obtain ⟨y0,y1,y2⟩:=HY.out V2 HSV2.out.1
      go_upto_region 11 with (fail)
      go_still_tail 16,(by kernel_rfl)
      go_upto_region 12 with (fail)
      obtain ⟨V3,hV3⟩:∃ W,(V2.setCell ⟨qb+1,0,none⟩ (.int .i64 (max d1 (yd+ag)))).drew=W:=⟨_,rfl⟩
      have HSV3:=Lib.hid (show SnR W0 (qb+1) _ (ic:Int) (ip:Int) A k cl V3 by rw [← hV3];exact (HSV2.out.set _).drew)
      rw [hV3]
      clear hV3
      clear p0 p1 p2 p3 p4 p5 x0 fx x1 x2 x3 y0 y1 y2
      rw [← HMAX.out] at HSV3
      by_cases hce:yp=(ip:Int)
      ·have hce1:(yp == (ip:Int))=true:=by rw [beq_iff_eq];exact hce
       have HMAX:Hid (d3=max d2 (yd+cn)):=Lib.hid (by rw [← HD3.out,if_pos hce])
       clear hce
       obtain ⟨p0,p1,p2,p3,p4,p5⟩:=HCB.out V3 HSV3.out.1
       have x0:V3.cell? ⟨qb+1,0,none⟩=some (.int .i64 d2):=HSV3.out.2.1.cell 0
       have fx:V3.frozen? ⟨qb+1,0,none⟩=false:=HSV3.out.2.1.free 0
       have x1:V3.cell? ⟨qb+1,1,none⟩=some (.int .i64 (ic:Int)):=HSV3.out.2.1.cell 1
       have x2:V3.cell? ⟨qb+1,2,none⟩=some (.int .i64 (ip:Int)):=HSV3.out.2.1.cell 2
       have x3:V3.cell? ⟨qb+1,3,none⟩=some (.slice A k cl):=HSV3.out.2.1.cell 3
       obtain ⟨y0,y1,y2⟩:=HY.out V3 HSV3.out.1
       go_upto_region 12 with (fail)
       go_still (by kernel_rfl)
       change Exit.then _ _ Exit.normal _ V3.drew
       obtain ⟨V4,hV4⟩:∃ W,V3.drew=W:=⟨_,rfl⟩
       have HSV4:=Lib.hid (show SnR W0 (qb+1) _ (ic:Int) (ip:Int) A k cl V4 by rw [← hV4];exact HSV3.out.drew)
       rw [hV4]
       clear hV4
       clear p0 p1 p2 p3 p4 p5 x0 fx x1 x2 x3 y0 y1 y2
       obtain ⟨p0,p1,p2,p3,p4,p5⟩:=HCB.out V4 HSV4.out.1
       have x0:V4.cell? ⟨qb+1,0,none⟩=some (.int .i64 d2):=HSV4.out.2.1.cell 0
       have fx:V4.frozen? ⟨qb+1,0,none⟩=false:=HSV4.out.2.1.free 0
       have x1:V4.cell? ⟨qb+1,1,none⟩=some (.int .i64 (ic:Int)):=HSV4.out.2.1.cell 1
       have x2:V4.cell? ⟨qb+1,2,none⟩=some (.int .i64 (ip:Int)):=HSV4.out.2.1.cell 2
       have x3:V4.cell? ⟨qb+1,3,none⟩=some (.slice A k cl):=HSV4.out.2.1.cell 3
       obtain ⟨y0,y1,y2⟩:=HY.out V4 HSV4.out.1
       go_upto_region 13 with (fail)
       go_still_tail 16,(by kernel_rfl)
       go_wp2_with fail
       go_roundw
       case rel=>exact ⟨q+1,by omega,by go_num,Lib.hid (by rw [HNX2.out,HMAX.out];exact (HSV4.out.set _).drew)⟩
       case measure=>simp [intOf];omega
      ·have hce1:(yp == (ip:Int))=false:=by rw [beq_eq_false_iff_ne];exact hce
       have HMAX:Hid (d3=d2):=Lib.hid (by rw [← HD3.out,if_neg hce])
       clear hce
       obtain ⟨p0,p1,p2,p3,p4,p5⟩:=HCB.out V3 HSV3.out.1
       have x0:V3.cell? ⟨qb+1,0,none⟩=some (.int .i64 d2):=HSV3.out.2.1.cell 0
       have fx:V3.frozen? ⟨qb+1,0,none⟩=false:=HSV3.out.2.1.free 0
       have x1:V3.cell? ⟨qb+1,1,none⟩=some (.int .i64 (ic:Int)):=HSV3.out.2.1.cell 1
       have x2:V3.cell? ⟨qb+1,2,none⟩=some (.int .i64 (ip:Int)):=HSV3.out.2.1.cell 2
       have x3:V3.cell? ⟨qb+1,3,none⟩=some (.slice A k cl):=HSV3.out.2.1.cell 3
       obtain ⟨y0,y1,y2⟩:=HY.out V3 HSV3.out.1
       go_upto_region 12 with (fail)
       go_still (by kernel_rfl)
       change Exit.then _ _ Exit.normal _ V3.drew
       obtain ⟨V4,hV4⟩:∃ W,V3.drew=W:=⟨_,rfl⟩
       have HSV4:=Lib.hid (show SnR W0 (qb+1) _ (ic:Int) (ip:Int) A k cl V4 by rw [← hV4];exact HSV3.out.drew)
       rw [hV4]
       clear hV4
       clear p0 p1 p2 p3 p4 p5 x0 fx x1 x2 x3 y0 y1 y2
       go_wp2_with fail
       go_roundw
       case rel=>exact ⟨q+1,by omega,by go_num,Lib.hid (by rw [HNX2.out,HMAX.out];exact HSV4.out)⟩
       case measure=>simp [intOf];omega
     ·have hce1:(yc == (ic:Int))=false:=by rw [beq_eq_false_iff_ne];exact hce
      have HMAX:Hid (d2=d1):=Lib.hid (by rw [← HD2.out,if_neg hce])
      clear hce
      obtain ⟨p0,p1,p2,p3,p4,p5⟩:=HCB.out V1 HSV1.out.1
      have x0:V1.cell? ⟨qb+1,0,none⟩=some (.int .i64 d1):=HSV1.out.2.1.cell 0
      have fx:V1.frozen? ⟨qb+1,0,none⟩=false:=HSV1.out.2.1.free 0
      have x1:V1.cell? ⟨qb+1,1,none⟩=some (.int .i64 (ic:Int)):=HSV1.out.2.1.cell 1
      have x2:V1.cell? ⟨qb+1,2,none⟩=some (.int .i64 (ip:Int)):=HSV1.out.2.1.cell 2
      have x3:V1.cell? ⟨qb+1,3,none⟩=some (.slice A k cl):=HSV1.out.2.1.cell 3
      obtain ⟨y0,y1,y2⟩:=HY.out V1 HSV1.out.1
      go_upto_region 10 with (fail)
      go_still (by kernel_rfl)
      change Exit.then _ _ Exit.normal _ V1.drew
      obtain ⟨V2,hV2⟩:∃ W,V1.drew=W:=⟨_,rfl⟩
      have HSV2:=Lib.hid (show SnR W0 (qb+1) _ (ic:Int) (ip:Int) A k cl V2 by rw [← hV2];exact HSV1.out.drew)
      rw [hV2]
      clear hV2
      clear p0 p1 p2 p3 p4 p5 x0 fx x1 x2 x3 y0 y1 y2
      rw [← HMAX.out] at HSV2
      go_upto_region 12 with (fail)
      by_cases hce:yp=(ip:Int)
      ·have hce1:(yp == (ip:Int))=true:=by rw [beq_iff_eq];exact hce
       have HMAX:Hid (d3=max d2 (yd+cn)):=Lib.hid (by rw [← HD3.out,if_pos hce])
       clear hce
       obtain ⟨p0,p1,p2,p3,p4,p5⟩:=HCB.out V2 HSV2.out.1
       have x0:V2.cell? ⟨qb+1,0,none⟩=some (.int .i64 d2):=HSV2.out.2.1.cell 0
       have fx:V2.frozen? ⟨qb+1,0,none⟩=false:=HSV2.out.2.1.free 0
       have x1:V2.cell? ⟨qb+1,1,none⟩=some (.int .i64 (ic:Int)):=HSV2.out.2.1.cell 1
       have x2:V2.cell? ⟨qb+1,2,none⟩=some (.int .i64 (ip:Int)):=HSV2.out.2.1.cell 2
       have x3:V2.cell? ⟨qb+1,3,none⟩=some (.slice A k cl):=HSV2.out.2.1.cell 3
       obtain ⟨y0,y1,y2⟩:=HY.out V2 HSV2.out.1
       go_upto_region 12 with (fail)
       go_still (by kernel_rfl)
       change Exit.then _ _ Exit.normal _ V2.drew
       obtain ⟨V4,hV4⟩:∃ W,V2.drew=W:=⟨_,rfl⟩
       have HSV4:=Lib.hid (show SnR W0 (qb+1) _ (ic:Int) (ip:Int) A k cl V4 by rw [← hV4];exact HSV2.out.drew)
       rw [hV4]
       clear hV4
       clear p0 p1 p2 p3 p4 p5 x0 fx x1 x2 x3 y0 y1 y2
       obtain ⟨p0,p1,p2,p3,p4,p5⟩:=HCB.out V4 HSV4.out.1
       have x0:V4.cell? ⟨qb+1,0,none⟩=some (.int .i64 d2):=HSV4.out.2.1.cell 0
       have fx:V4.frozen? ⟨qb+1,0,none⟩=false:=HSV4.out.2.1.free 0
       have x1:V4.cell? ⟨qb+1,1,none⟩=some (.int .i64 (ic:Int)):=HSV4.out.2.1.cell 1
       have x2:V4.cell? ⟨qb+1,2,none⟩=some (.int .i64 (ip:Int)):=HSV4.out.2.1.cell 2
       have x3:V4.cell? ⟨qb+1,3,none⟩=some (.slice A k cl):=HSV4.out.2.1.cell 3
       obtain ⟨y0,y1,y2⟩:=HY.out V4 HSV4.out.1
       go_upto_region 13 with (fail)
       go_still_tail 16,(by kernel_rfl)
       go_wp2_with fail
       go_roundw
       case rel=>exact ⟨q+1,by omega,by go_num,Lib.hid (by rw [HNX2.out,HMAX.out];exact (HSV4.out.set _).drew)⟩
       case measure=>simp [intOf];omega
      ·have hce1:(yp == (ip:Int))=false:=by rw [beq_eq_false_iff_ne];exact hce
       have HMAX:Hid (d3=d2):=Lib.hid (by rw [← HD3.out,if_neg hce])
       clear hce
       obtain ⟨p0,p1,p2,p3,p4,p5⟩:=HCB.out V2 HSV2.out.1
       have x0:V2.cell? ⟨qb+1,0,none⟩=some (.int .i64 d2):=HSV2.out.2.1.cell 0
       have fx:V2.frozen? ⟨qb+1,0,none⟩=false:=HSV2.out.2.1.free 0
       have x1:V2.cell? ⟨qb+1,1,none⟩=some (.int .i64 (ic:Int)):=HSV2.out.2.1.cell 1
       have x2:V2.cell? ⟨qb+1,2,none⟩=some (.int .i64 (ip:Int)):=HSV2.out.2.1.cell 2
       have x3:V2.cell? ⟨qb+1,3,none⟩=some (.slice A k cl):=HSV2.out.2.1.cell 3
       obtain ⟨y0,y1,y2⟩:=HY.out V2 HSV2.out.1
       go_upto_region 12 with (fail)
       go_still (by kernel_rfl)
       change Exit.then _ _ Exit.normal _ V2.drew
       obtain ⟨V4,hV4⟩:∃ W,V2.drew=W:=⟨_,rfl⟩
       have HSV4:=Lib.hid (show SnR W0 (qb+1) _ (ic:Int) (ip:Int) A k cl V4 by rw [← hV4];exact HSV2.out.drew)
       rw [hV4]
       clear hV4
       clear p0 p1 p2 p3 p4 p5 x0 fx x1 x2 x3 y0 y1 y2
       go_wp2_with fail
       go_roundw
       case rel=>exact ⟨q+1,by omega,by go_num,Lib.hid (by rw [HNX2.out,HMAX.out];exact HSV4.out)⟩
       case measure=>simp [intOf];omega
end Go.Proofs.YtcnjenlojnognaaGreat
