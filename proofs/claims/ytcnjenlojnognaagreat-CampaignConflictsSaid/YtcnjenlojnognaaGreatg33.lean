/- What is proved: the texts Dw Dx Dy, one behind the other; each says at its head what it proves, and under which conditions. -/
import Derived.Test.YtcnjenlojnognaaGreatg32
/- What is proved: lists of cargos that a call owns; one cargo pushed behind others. Conditions: those that each lemma states. -/
namespace Go.Proofs.YtcnjenlojnognaaGreat
open Go.RowKit

def rowsG (L:List CargoD):List Value:=L.flatMap fun y=>(cargoA y).toList
theorem rowsG_len:∀ (L:List CargoD),(rowsG L).length=L.length * 6
 | []=>rfl
 | y :: L=>by
  show ((cargoA y).toList ++ rowsG L).length=_
  rw [List.length_append,rowsG_len L,List.length_cons,Nat.add_mul,Nat.one_mul,Nat.add_comm];rfl
theorem rowsG_drop:∀ (p:Nat) (L:List CargoD),(rowsG L).drop (p * 6)=rowsG (L.drop p)
 | 0,L=>by simp
 | p+1,[]=>by simp [rowsG]
 | p+1,y :: L=>by
  show ((cargoA y).toList ++ rowsG L).drop _=_
  rw [List.drop_succ_cons,← rowsG_drop p L,show (p+1) * 6=(cargoA y).toList.length+p * 6 from by show _=6+p * 6;omega,List.drop_append]
  simp
theorem rowsG_at {L:List CargoD} {i j:Nat} (hi:i<L.length) (hj:j<6):(rowsG L)[i * 6+j]?=(cargoA (L.getD i cargo0)).toList[j]?:=by
 have h:(L.drop i)=L.getD i cargo0 :: L.drop (i+1):=by
  rw [List.drop_eq_getElem_cons hi,List.getD_eq_getElem?_getD,List.getElem?_eq_getElem hi];rfl
 rw [← List.getElem?_drop,rowsG_drop,h]
 show ((cargoA (L.getD i cargo0)).toList ++ rowsG (L.drop (i+1)))[j]?=_
 rw [List.getElem?_append_left (by show j<6;exact hj)]
theorem rowsG_snoc (L:List CargoD) (y:CargoD):rowsG (L ++ [y])=rowsG L ++ (cargoA y).toList:=by unfold rowsG;simp
/-- A list of cargos of the call's own. -/
def OwnG (w:World) (B:Nat) (v:Value) (L:List CargoD):Prop:=w.ownsRow B 54 6 v L.length (rowsG L)
theorem OwnG.nil (w:World) (B:Nat):OwnG w B (.slice none 0 0) []:=World.ownsRow_nil _ _ _ _
theorem OwnG.later {w w':World} {B:Nat} {v:Value} {L:List CargoD} (h:OwnG w B v L) (hb:Below w.heap.size w w'):OwnG w' B v L:=owns_below h hb
theorem cargoC_at (y:CargoD) {j:Nat} (hj:j<6):(cargoA y).toList[j]?=some (cargoC y j):=by
 match j,hj with
 | 0,_=>rfl
 | 1,_=>rfl
 | 2,_=>rfl
 | 3,_=>rfl
 | 4,_=>rfl
 | 5,_=>rfl
theorem OwnG.sl {w:World} {B:Nat} {v:Value} {L:List CargoD} (h:OwnG w B v L) (hn:L.length≤4096):∃ A c,v=.slice A L.length c∧Sl w w.heap.size 6 A L.length fun i=>cargoC (L.getD i cargo0):=by
 rcases h.2 with ⟨rfl,h0⟩ | ⟨g,cap,cur,rfl,hb,hg,h1,h2,h3,h4⟩
 ·exact ⟨none,0,by rw [h0],by omega,fun hi=>absurd hi (by omega)⟩
 ·refine ⟨_,cap,rfl,by omega,fun _=>⟨g,0,rfl,Bk.lt (t:=54) hg,fun i hi j hj=>?_⟩⟩
  rw [Nat.zero_add,Bk.cell (t:=54) hg]
  have e:cur.toList[i * 6+j]?=(rowsG L)[i * 6+j]?:=by
   rw [← h4,List.getElem?_take,if_pos]
   have:(i+1) * 6≤L.length * 6:=Nat.mul_le_mul_right _ hi
   omega
  rw [← Array.getElem?_toList,e,rowsG_at hi hj,cargoC_at _ hj]
theorem infoGx:∃ i,Tryz.prog.info? 54=some i∧i.zero=some (.agg zeroCg)∧i.size=6∧i.bytes=56:=by
 have h:(Tryz.prog.info? 54).map (fun i=>(i.zero,i.size,i.bytes))=some (some (.agg zeroCg),6,56):=by kernel_rfl
 obtain ⟨i,hi,he⟩:=Option.map_eq_some_iff.1 h
 simp only [Prod.mk.injEq] at he
 exact ⟨i,hi,he.1,he.2.1,he.2.2⟩
theorem run_pushG {w:World} {B:Nat} {v:Value} {L:List CargoD} (hv:OwnG w B v L) (b o:Nat) (c:Nat) (y:CargoD) (hx:∀ j,j<6→w.cell? ⟨b,o+j,none⟩=some (cargoC y j)) (hL:L.length≤4096) (hB:B≤w.heap.size) (ty:TypeId) :
  ∃ v' w',(Builtin.append_ #[24,24] ty #[v,.slice (some ⟨b,o,none⟩) 1 c]).run Tryz.prog w=.ok v' w'∧OwnG w' B v' (L ++ [y])∧Below B w w':=by
 obtain ⟨i,hi,hz,hk,hby⟩:=infoGx
 obtain ⟨v',w',hr,a1,a2,_⟩:=run_append_own (P:=Tryz.prog) w B 24 ty 54 i _ 6 56 Tryz.underlying24 hi hz hk hby rfl (by decide) _ _ _ hv ⟨b,o,none⟩ 1 c (cargoA y).toList rfl (fun j u hj=>by
  have hj6:j<6:=by have:=(List.getElem?_eq_some_iff.1 hj).1;exact this
  rw [cargoC_at y hj6] at hj
  rw [Addr.add_lit,hx j hj6];exact hj) (cargoA_one y) (by unfold maxLen;omega) (by omega) hB
 refine ⟨v',w',hr,?_,⟨a2.os,a2.tape,a2.output,a2.size,fun k hk=>a2.block k (by omega) ?_⟩⟩
 ·unfold OwnG;rw [List.length_append,rowsG_snoc];exact a1
 ·cases e:v.ownBlock with
  | none=>simp
  | some g=>have:=(World.ownsRow.lt hv g e).1;simp;omega
theorem wpList_pushG {ops:Array Oper} {rest:List Oper} {o:Oper} {a:Act} {w:World} {Q:Exit→Act→World→Prop} (hgd:o.guard=none) (s x:Operand) (ho:o.op=.call { callee:=.builtin .append,args:=#[s,x],argTypes:=#[24,24] })
  {B:Nat} {v:Value} {L:List CargoD} (hs:a.eval s=v) (hv:OwnG w B v L) (b off:Nat) (c:Nat) (y:CargoD) (hx:a.eval x=.slice (some ⟨b,off,none⟩) 1 c) (hc:∀ j,j<6→w.cell? ⟨b,off+j,none⟩=some (cargoC y j)) (hL:L.length≤4096) (hB:B≤w.heap.size)
  (hK:∀ v' w',OwnG w' B v' (L ++ [y])→Below B w w'→wpList Tryz.prog ops Q rest (a.put o.dst v') w'):wpList Tryz.prog ops Q (o :: rest) a w :=
 wpList_plain hgd fun _ hK'=>by
  obtain ⟨v',w',hr,h1,h2⟩:=run_pushG hv b off c y hc hL hB o.type
  unfold Oper.wp execOp
  simp only [ho,resolve,invoke,builtin,Sem.run_bind,Sem.run_pure,Result.andThen_ok,List.map_toArray,List.map_cons,List.map_nil,hs,hx,hr]
  exact hK' _ _ (hK v' w' h1 h2)
end Go.Proofs.YtcnjenlojnognaaGreat
/- What is proved: the contract of the document's with. Conditions: the campaign and the list, the numbers of which exist, lie in memory. -/
namespace Go.Proofs.YtcnjenlojnognaaGreat
open Go.RowKit

theorem OwnG.only {w w':World} {B q:Nat} {v:Value} {L:List CargoD} (h:OwnG w B v L) (ho:Only q w w') (hq:q<B):OwnG w' B v L:=by
 have hg:w.grownBy w' (some q):=⟨ho.os,ho.tape,ho.output,Nat.le_of_eq ho.size.symm,fun k _ hne=>ho.block k fun e=>hne (by rw [e])⟩
 refine World.ownsRow.kept h hg ?_
 cases e:v.ownBlock with
 | none=>exact Or.inl rfl
 | some g =>
  refine Or.inr fun e2=>?_
  have h1:=(World.ownsRow.lt h g e).1
  have h2:g=q:=by simpa using e2
  omega
theorem OwnG.mono {w:World} {B B':Nat} {v:Value} {L:List CargoD} (h:OwnG w B v L) (hb:B'≤B):OwnG w B' v L:=owns_mono h hb
/-- The first k cargos of such a campaign. -/
def withL (c:CampD) (l:List Int) (k:Nat):List CargoD:=(l.take k).map fun i=>{ c.cargo i with must:=true }
theorem withL_succ {c:CampD} {l:List Int} {k:Nat} (h:k<l.length):withL c l (k+1)=withL c l k ++ [{ c.cargo (numI l k) with must:=true }]:=by
 unfold withL numI
 rw [List.take_add_one,List.map_append,List.getElem?_eq_getElem h,List.getD_eq_getElem?_getD,List.getElem?_eq_getElem h];rfl
theorem withL_all (c:CampD) (l:List Int):withL c l l.length=(withB c l).cargos:=by unfold withL withB;rw [List.take_length]
theorem withL_len (c:CampD) (l:List Int) (k:Nat):(withL c l k).length≤k:=by unfold withL;rw [List.length_map,List.length_take];exact Nat.min_le_left _ _
def WithPost (c:CampD) (l:List Int) (w:World) (e:Ending) (w':World):Prop:=∃ V',e=.returned (.agg (campA V' (withB c l)))∧CampAt w' w'.heap.size V' (withB c l)∧Below w.heap.size w w'
set_option maxRecDepth 100000 in
set_option maxHeartbeats 16000000 in
theorem with_any (w:World) (V:CV) (c:CampD) (h:CampAt w w.heap.size V c) (l:List Int) (A:Option Addr) (cl:Nat) (hl:IntsAt w w.heap.size A l) (hr:∀ i ∈ l,0≤i∧i<(c.cargos.length:Int)) (hn:l.length≤6) :
  Calls Tryz.prog 103 #[.agg (campA V c),.slice A l.length cl] w (WithPost c l w):=by
 obtain ⟨qb,hqb⟩:∃ qb,w.heap.size=qb:=⟨_,rfl⟩
 obtain ⟨W0,hW0⟩:∃ W0,(w.alloc (.cells (campA V c) 26)).alloc (.cells #[.slice none 0 0,.slice none 0 0,.slice none 0 0,.int .i64 0] 26)=W0:=⟨_,rfl⟩
 have hb0:Below w.heap.size w W0:=by rw [← hW0];exact ((Below.refl _ w).alloc (Nat.le_refl _) _).alloc (by simp) _
 have HB0:Hid (Below qb w W0):=Lib.hid (by rw [← hqb];exact hb0)
 have HKC:Hid (Bk W0 qb 26 (campA V c)):=Lib.hid (by rw [← hW0,← hqb];exact (Bk.new _ _ _).alloc _)
 have HKZ:Hid (Bk W0 (qb+1) 26 #[.slice none 0 0,.slice none 0 0,.slice none 0 0,.int .i64 0]):=Lib.hid (by rw [← hW0,← hqb];exact Bk.newAt _ _ _ _ (by simp))
 have HSZ:Hid (qb+1<W0.heap.size):=Lib.hid HKZ.out.lt
 have HCA:=Lib.hid (h.later hb0)
 have HCW:Hid (∀ w1,Below qb w w1→CampAt w1 w1.heap.size V c):=Lib.hid fun w1 h1=>h.later (by rw [hqb];exact h1)
 have HLW:Hid (∀ w1,Below qb w w1→IntsAt w1 w1.heap.size A l):=Lib.hid fun w1 h1=>hl.later (by rw [hqb];exact h1)
 have HRR:=Lib.hid hr
 obtain ⟨nl,hnl⟩:∃ n,l.length=n:=⟨_,rfl⟩
 obtain ⟨nc,hnc⟩:∃ n,c.crafts.length=n:=⟨_,rfl⟩
 obtain ⟨np,hnp⟩:∃ n,c.pads.length=n:=⟨_,rfl⟩
 obtain ⟨ng,hng⟩:∃ n,c.cargos.length=n:=⟨_,rfl⟩
 have HNL:=Lib.hid hnl
 have HNG:=Lib.hid hng
 have HLC:Hid (∀ w1,Below W0.heap.size W0 w1→Bk w1 qb 26 #[.slice V.cA nc V.cc,.slice V.pA np V.pc,.slice V.gA ng V.gc,.int .i64 c.margin]):=Lib.hid fun w1 hb=>by
  have:=HKC.out.below hb HKC.out.lt
  rw [← hnc,← hnp,← hng];exact this
 obtain ⟨PQ,hPQ⟩:∃ Q,WithPost c l w=Q:=⟨_,rfl⟩
 have HFIN:Hid (∀ (w1 w2:World) (v:Value) (Ag:Option Addr) (n cg:Nat),OwnG w1 W0.heap.size v (withL c l nl)→v=.slice Ag n cg→Below W0.heap.size W0 w1→Only (qb+1) (w1.setCell ⟨qb,2,none⟩ v) w2→PQ (.returned (.agg #[.slice V.cA nc V.cc,.slice V.pA np V.pc,.slice Ag n cg,.int .i64 c.margin])) w2):=Lib.hid fun w1 w2 v Ag n cg h1 h2 h3 h4=>by
  have o1:=Only.setCell w1 qb 2 v
  have g2:=(h1.only o1 (by have:=HSZ.out;omega)).only h4 (by have:=HSZ.out;omega)
  have hw2:Below qb w w2:=(HB0.out.trans (h3.mono (by have:=HSZ.out;omega))).trans ((o1.below (Nat.le_refl _)).trans (h4.below (by omega)))
  obtain ⟨A',c',e,hs⟩:=g2.sl (by have:=withL_len c l nl;omega)
  rw [h2] at e
  injection e with e1 e2 e3
  subst e1 e2 e3
  rw [← hPQ]
  have hca:=h.later (by rw [hqb];exact hw2)
  have hwl:withL c l nl=(withB c l).cargos:=by rw [← hnl];exact withL_all c l
  rw [hwl] at hs ⊢
  refine ⟨{ V with gA:=Ag,gc:=cg },?_,⟨hca.crafts,hca.pads,hs,hca.takes⟩,by rw [hqb];exact hw2⟩
  rw [← hnc,← hnp];rfl
 rw [hnl] at hn
 rw [hnl,hPQ]
 clear h hl hr hb0 hnl hPQ
 simp only [campA] at hW0 ⊢
 rw [hnc,hnp,hng] at hW0 ⊢
 clear hnc hnp hng
 go_enter Tryz.func103,Tryz.ntmps103
 go_upto_region 1 with (fail)
 clear hW0 hqb
 have HBR0:Hid (Below W0.heap.size W0 W0):=Lib.hid (Below.refl _ _)
 go_wp2_with fail
 go_loopw [5,6] (fun ov iv wr=>∃ (q:Nat) (v1:Value),q≤nl∧ov=v1∧iv=.int .i64 (q:Int)∧Hid (OwnG wr W0.heap.size v1 (withL c l q))∧Hid (Below W0.heap.size W0 wr)) (fun _ iv _=>nl - (intOf iv).toNat)
 case atStart=>exact ⟨0,_,Nat.zero_le _,rfl,rfl,Lib.hid (OwnG.nil _ _),HBR0⟩
 case round =>
  obtain ⟨q,v1,hq,hov,rfl,HOW,HBW⟩:=hrel
  have hov2:=hov.symm
  clear hov
  subst hov2
  obtain ⟨wo,rfl⟩:∃ wo:World,wo=wr:=⟨_,rfl⟩
  have h0q:(0:Int)≤(q:Int):=by omega
  by_cases hlt:q<nl
  case neg =>
   obtain rfl:q=nl:=by omega
   obtain ⟨Ag,cg,hov,_⟩:=HOW.out.sl (by have:=withL_len c l q;omega)
   have hov2:v1=.slice Ag (withL c l q).length cg:=hov
   obtain ⟨nn,hnn⟩:∃ n,(withL c l q).length=n:=⟨_,rfl⟩
   rw [hnn] at hov2
   have HF:=Lib.hid (fun w2 h4=>HFIN.out wo w2 v1 Ag nn cg HOW.out hov2 HBW.out h4)
   have HKB:=Lib.hid (HLC.out wo HBW.out)
   have HKB2:=Lib.hid (HKB.out.set 2 v1)
   have HKZ2:Hid (Bk (wo.setCell ⟨qb,2,none⟩ v1) (qb+1) 26 #[.slice none 0 0,.slice none 0 0,.slice none 0 0,.int .i64 0]):=Lib.hid ((HKZ.out.below HBW.out HSZ.out).far (p:=⟨qb,2,none⟩) (by show qb+1 ≠ qb;omega) _)
   have c2:wo.cell? ⟨qb,2,none⟩=some (.slice V.gA ng V.gc):=HKB.out.cell 2
   have f2:wo.frozen? ⟨qb,2,none⟩=false:=HKB.out.free 2
   subst hov2
   have HL2:Hid (∀ j u,(#[.slice V.cA nc V.cc,.slice V.pA np V.pc,.slice Ag nn cg,.int .i64 c.margin]:Array Value)[j]?=some u→(wo.setCell ⟨qb,2,none⟩ (.slice Ag nn cg)).cell? ⟨qb,0+j,none⟩=some u):=Lib.hid fun j u hj=>by rw [Nat.zero_add,HKB2.out.cell];exact hj
   clear hnn hov
   go_wp2_with (first | (refine wpLoadAt rfl 26 _ rfl qb 0 rfl #[.slice V.cA nc V.cc,.slice V.pA np V.pc,.slice Ag nn cg,.int .i64 c.margin] _ HL2.out und_camp rfl info_camp ?_) | (refine wpStoreAt rfl rfl 26 _ _ rfl (qb+1) 0 rfl #[.slice V.cA nc V.cc,.slice V.pA np V.pc,.slice Ag nn cg,.int .i64 c.margin] rfl 26 _ HKZ2.out (by show 0+4≤4;omega) (by intro u hu;simp at hu;rcases hu with rfl | rfl | rfl | rfl <;> rfl) info_camp ?_;intro wf hkf hof))
   have hkf2:Bk wf (qb+1) 26 #[.slice V.cA nc V.cc,.slice V.pA np V.pc,.slice Ag nn cg,.int .i64 c.margin]:=by
    rw [← splA_all #[.slice none 0 0,.slice none 0 0,.slice none 0 0,.int .i64 0] #[.slice V.cA nc V.cc,.slice V.pA np V.pc,.slice Ag nn cg,.int .i64 c.margin] rfl];exact hkf
   refine bodyPost_ret (v:=.agg #[.slice V.cA nc V.cc,.slice V.pA np V.pc,.slice Ag nn cg,.int .i64 c.margin]) (results_cellS rfl _ _ (qb+1) 26 #[.slice V.cA nc V.cc,.slice V.pA np V.pc,.slice Ag nn cg,.int .i64 c.margin] _ rfl hkf2 und_camp rfl info_camp) rfl (HF.out _ hof)
  case pos =>
   have hqi:(q:Int)<(nl:Int):=by omega
   have hql:q<l.length:=by rw [HNL.out];exact hlt
   have hlw:=(HLW.out wo (HB0.out.trans (HBW.out.mono (by have:=HSZ.out;omega)))).2 (by omega)
   obtain ⟨bb,off,hA,_,hxc⟩:=hlw
   subst hA
   obtain ⟨y,hy⟩:∃ y,c.cargo (numI l q)=y:=⟨_,rfl⟩
   have hrng:=HRR.out _ (numI_mem hql)
   obtain ⟨m,hm⟩:∃ m:Nat,numI l q=(m:Int):=⟨(numI l q).toNat,by omega⟩
   rw [hm] at hrng hy
   have hmi:(m:Int)<(ng:Int):=by have:=HNG.out;omega
   have h0m:(0:Int)≤(m:Int):=by omega
   obtain ⟨gb,go,hgA,_⟩:=HCA.out.cargos.2 (by omega)
   have HCL:Hid (∀ w1,Below wo.heap.size wo w1→w1.cell? ⟨qb,2,none⟩=some (.slice (some ⟨gb,go,none⟩) ng V.gc)∧w1.cell? ⟨bb,off+q,none⟩=some (.int .i64 (m:Int))∧(∀ j u,(cargoA y)[j]?=some u→w1.cell? ⟨gb,go+m * 6+j,none⟩=some u)):=Lib.hid fun w1 h1=>by
    have hb1:Below W0.heap.size W0 w1:=HBW.out.trans (h1.mono HBW.out.size)
    have hb2:Below qb w w1:=HB0.out.trans (hb1.mono (by have:=HSZ.out;omega))
    refine ⟨by rw [← hgA];exact (HLC.out w1 hb1).cell 2,?_,?_⟩
    ·obtain ⟨b',o',e,_,hc'⟩:=(HLW.out w1 hb2).2 (by omega)
     injection e with e
     injection e with e1 e2
     subst e1 e2
     have:=hc' q hql 0 (by omega)
     rw [← hm]
     simpa using this
    ·obtain ⟨b',o',e,_,hc'⟩:=(HCW.out w1 hb2).cargos.2 (by omega)
     rw [hgA] at e
     injection e with e
     injection e with e1 e2
     subst e1 e2
     have hyy:y=c.cargoN m:=by rw [← hy];rfl
     rw [hyy]
     exact cargo_cell hc' (by omega)
   have HY:Hid (c.cargo (numI l q)=y):=Lib.hid (by rw [hm];exact hy)
   clear hxc hrng hm hy hgA hql
   go_upto_region 5 with (fail)
   refine wp_region_stepsJ (by kernel_rfl) (by kernel_rfl) (fun dn vs w1=>CgJ wo y (dn 8) (dn 9) (vs 8) w1) (fun _ _ _=>True)
    (fun ix u _ _=>match ix with
     | 0=>u=.pointer (some ⟨qb,2,none⟩)
     | 1=>u=.slice (some ⟨gb,go,none⟩) ng V.gc
     | 2=>u=.slice (some ⟨bb,off,none⟩) nl cl
     | 3=>u=.int .i64 (q:Int)
     | 4=>u=.pointer (some ⟨bb,off+q,none⟩)
     | 5=>u=.int .i64 (m:Int)
     | 6=>u=.pointer (some ⟨gb,go+m * 6,none⟩)
     | 7=>u=.agg (cargoA y)
     | 8=>True
     | _=>True) (fun _=>CgJ.start _ _ _) (fun _ _ _ _ _ _ _ _ h _=>h) ?_ ?_
   ·refine ⟨?_,?_,?_,?_,?_,?_,?_,?_,?_,?_,trivial⟩
    ·intro a w1 vs K dn Hd Hb HJ HK HD HN kk
     have e2:=HK 2 (by decide)
     go_simp;exact kk _ _ (by simp) HJ trivial rfl
    ·intro a w1 vs K dn Hd Hb HJ HK HD HN kk
     have e14:=hdE (HD 0 _ 14 rfl rfl rfl)
     have ca:w1.cell? ⟨qb,2,none⟩=some (.slice (some ⟨gb,go,none⟩) ng V.gc):=(HCL.out w1 HJ.1).1
     go_simp;exact kk _ _ (by simp) HJ trivial rfl
    ·intro a w1 vs K dn Hd Hb HJ HK HD HN kk
     have e1:=HK 1 (by decide)
     go_simp;exact kk _ _ (by simp) HJ trivial rfl
    ·intro a w1 vs K dn Hd Hb HJ HK HD HN kk
     have e6:=HK 6 (by decide)
     go_simp;exact kk _ _ (by simp) HJ trivial rfl
    ·intro a w1 vs K dn Hd Hb HJ HK HD HN kk
     have e16:=hdE (HD 2 _ 16 rfl rfl rfl)
     have e17:=hdE (HD 3 _ 17 rfl rfl rfl)
     go_simp;exact kk _ _ (by simp) HJ trivial rfl
    ·intro a w1 vs K dn Hd Hb HJ HK HD HN kk
     have e18:=hdE (HD 4 _ 18 rfl rfl rfl)
     have ca:w1.cell? ⟨bb,off+q,none⟩=some (.int .i64 (m:Int)):=(HCL.out w1 HJ.1).2.1
     go_simp;exact kk _ _ (by simp) HJ trivial rfl
    ·intro a w1 vs K dn Hd Hb HJ HK HD HN kk
     have e15:=hdE (HD 1 _ 15 rfl rfl rfl)
     have e19:=hdE (HD 5 _ 19 rfl rfl rfl)
     go_simp;exact kk _ _ (by simp) HJ trivial rfl
    ·intro a w1 vs K dn Hd Hb HJ HK HD HN kk
     have e20:=hdE (HD 6 _ 20 rfl rfl rfl)
     exact wpo_loadS 54 (.tmp 20) rfl gb (go+m * 6) (by simpa [Act.eval] using e20) (cargoA y) _ (HCL.out w1 HJ.1).2.2 und_cargo rfl (info_cargoA y) (kk _ _ (by simp) HJ trivial rfl)
    ·intro a w1 vs K dn Hd Hb HJ HK HD HN kk
     have d9:dn 9=false:=by cases hq:dn 9 with | false=>rfl | true=>exact absurd (Hd 9 hq).2 (by decide)
     go_simp;exact kk _ _ (by simp) (CgJ.made HJ d9) trivial trivial
    ·intro a w1 vs K dn Hd Hb HJ HK HD HN kk
     have e21:=hdE (HD 7 _ 21 rfl rfl rfl)
     have e21:=hdE (HD 7 _ 21 rfl rfl rfl)
     have d8:dn 8=true:=Hb 8 (by decide)
     have d9:dn 9=false:=by cases hq:dn 9 with | false=>rfl | true=>exact absurd rfl (Hd 9 hq).1
     obtain ⟨g,hg,hv8,hk8⟩:=HJ.2 d8
     rw [if_neg (by rw [d9];decide)] at hk8
     have e7:=(HD 8 _ 7 rfl rfl rfl).1.trans hv8
     exact wpo_storeS 54 (.tmp 7) (.tmp 21) rfl rfl g 0 (by simpa [Act.eval] using e7) (cargoA y) (by simpa [Act.eval] using e21) 54 _ hk8 (by show 0+6≤6;omega) (cargoA_one _) (info_cargoA y) fun w' hkf hof=>kk _ _ (by simp) ⟨HJ.1.trans (hof.below hg),fun _=>⟨g,hg,hv8,by rw [splA_all zeroCg (cargoA y) rfl] at hkf;exact hkf⟩⟩ trivial trivial
   ·intro vs dn W3 hdn hJ hrr
    have hd8:dn 8=true:=hdn 8 (by decide)
    have hd9:dn 9=true:=hdn 9 (by decide)
    obtain ⟨g,hg,hv8,hk8⟩:=hJ.2 hd8
    rw [if_pos hd9] at hk8
    have HB3:Hid (Below wo.heap.size wo W3):=Lib.hid hJ.1
    have HO3:=Lib.hid (HOW.out.later HB3.out)
    have HK3:=Lib.hid hk8
    have c5:W3.cell? ⟨g,5,none⟩=some (.bool y.must):=hk8.cell 5
    have f5:W3.frozen? ⟨g,5,none⟩=false:=hk8.free 5
    have HG0:=Lib.hid hg
    clear hrr hJ hdn hd8 hd9 hk8 hg
    simp only [putAll,Act.put,List.setIfInBounds_toArray,List.set_cons_zero,List.set_cons_succ]
    rw [hv8]
    clear hv8
    go_upto_region 7 with (fail)
    obtain ⟨W4,hW4⟩:∃ W,W3.setCell ⟨g,5,none⟩ (.bool true)=W:=⟨_,rfl⟩
    have HB4:Hid (Below wo.heap.size wo W4):=Lib.hid (by rw [← hW4];exact HB3.out.setCell (p:=⟨g,5,none⟩) HG0.out _)
    have HK4:Hid (Bk W4 g 54 (cargoA { y with must:=true })):=Lib.hid (by rw [← hW4];exact HK3.out.set 5 (.bool true))
    have HO4:Hid (OwnG W4 W0.heap.size v1 (withL c l q)):=Lib.hid (HOW.out.later HB4.out)
    rw [hW4]
    clear hW4 c5 f5
    have HL4:Hid (∀ j u,(#[.string y.name,.int .i64 y.mass,.int .i64 y.value,.int .i64 y.frm,.int .i64 y.to,.bool true]:Array Value)[j]?=some u→W4.cell? ⟨g,0+j,none⟩=some u):=Lib.hid fun j u hj=>by rw [Nat.zero_add,HK4.out.cell];exact hj
    obtain ⟨WA,hWA⟩:∃ W,W4.alloc (.cells #[.string y.name,.int .i64 y.mass,.int .i64 y.value,.int .i64 y.frm,.int .i64 y.to,.bool true] 54)=W:=⟨_,rfl⟩
    have HBA:Hid (Below wo.heap.size wo WA):=Lib.hid (by rw [← hWA];exact HB4.out.alloc HB4.out.size _)
    have HOA:Hid (OwnG WA W0.heap.size v1 (withL c l q)):=Lib.hid (HOW.out.later HBA.out)
    have HKA:Hid (∀ j,j<6→WA.cell? ⟨W4.heap.size,0+j,none⟩=some (cargoC { y with must:=true } j)):=Lib.hid fun j hj=>by
     have:Bk WA W4.heap.size 54 (cargoA { y with must:=true }):=by rw [← hWA];exact Bk.new _ _ _
     rw [Nat.zero_add,this.cell,← cargoC_at _ hj];simp
    have HSA:Hid (W0.heap.size≤WA.heap.size):=Lib.hid (by have:=HBA.out.size;have:=HBW.out.size;omega)
    have HWN:Hid ((withL c l q).length≤4096):=Lib.hid (by have:=withL_len c l q;omega)
    go_wp2_with (first | (refine wpLoadAt rfl 54 _ rfl g 0 rfl #[.string y.name,.int .i64 y.mass,.int .i64 y.value,.int .i64 y.frm,.int .i64 y.to,.bool true] _ HL4.out und_cargo rfl info_cargo ?_) | (at_builtin;refine wpList_pushG (w:=WA) rfl (.tmp 23) (.tmp 25) rfl (B:=W0.heap.size) (v:=v1) (L:=withL c l q) rfl HOA.out W4.heap.size 0 1 ⟨y.name,y.mass,y.value,y.frm,y.to,true⟩ rfl HKA.out HWN.out HSA.out ?_))
    intro v5 W5 hv5 hb5
    have HV5:Hid (OwnG W5 W0.heap.size v5 (withL c l (q+1))):=Lib.hid (by rw [withL_succ (by rw [HNL.out];exact hlt),HY.out];exact hv5)
    have HB5:Hid (Below W0.heap.size W0 W5):=Lib.hid ((HBW.out.trans (HBA.out.mono HBW.out.size)).trans hb5)
    clear hv5 hb5 hWA
    go_wp2_with fail
    go_roundw
    case rel=>first | exact ⟨q+1,_,by omega,rfl,by go_num,HV5,HB5⟩ | ((repeat apply Exists.intro);exact ⟨⟨q+1,_,by omega,rfl,by go_num,HV5,HB5⟩,rfl⟩)
    case measure=>simp [intOf];omega
end Go.Proofs.YtcnjenlojnognaaGreat
/- What is proved: the contract of the document's Can. Conditions: the campaign is valid, the cargos are a set's; both lie in memory. -/
namespace Go.Proofs.YtcnjenlojnognaaGreat
open Go.RowKit

theorem bits_rng {c:CampD} {b:Nat} (hb:b<2 ^ c.cargos.length):∀ i ∈ bitsL b,0≤i∧i<(c.cargos.length:Int):=fun i hi=>by
 obtain ⟨a1,_,a3⟩:=bitsL_mem.1 hi
 refine ⟨a1,?_⟩
 rcases Nat.lt_or_ge i.toNat c.cargos.length with h6 | h6
 ·omega
 ·rw [Nat.testBit_lt_two_pow (Nat.lt_of_lt_of_le hb (Nat.pow_le_pow_right (by decide) h6))] at a3;cases a3
theorem bits_len6 (b:Nat):(bitsL b).length≤6:=by unfold bitsL;rw [List.length_map];exact Nat.le_trans (List.length_filter_le _ _) (by simp)
theorem bst_some {d:CampD} (hd:campB d=true):(bstB d).2=if (bestB d).isSome=true then 0 else 7:=by
 unfold bstB
 rw [hd,if_neg (by decide)]
 cases bestB d <;> rfl
set_option maxRecDepth 100000 in
set_option maxHeartbeats 4000000 in
theorem refCan_any (w:World) (V:CV) (c:CampD) (h:CampAt w w.heap.size V c) (hc:campB c=true) (b:Nat) (h0:b ≠ 0) (hb:b<2 ^ c.cargos.length) (A:Option Addr) (cl:Nat) (hl:IntsAt w w.heap.size A (bitsL b)) :
  Calls Tryz.prog 74 #[.agg (campA V c),.slice A (bitsL b).length cl] w fun e w'=>e=.returned (.bool (bestB (withB c (bitsL b))).isSome)∧Below w.heap.size w w':=by
 obtain ⟨qb,hqb⟩:∃ qb,w.heap.size=qb:=⟨_,rfl⟩
 obtain ⟨W0,hW0⟩:∃ W0,w.alloc (.cells (campA V c) 26)=W0:=⟨_,rfl⟩
 have hb0:Below w.heap.size w W0:=by rw [← hW0];exact (Below.refl _ w).alloc (Nat.le_refl _) _
 have HB0:Hid (Below qb w W0):=Lib.hid (by rw [← hqb];exact hb0)
 have HKC:Hid (Bk W0 qb 26 (campA V c)):=Lib.hid (by rw [← hW0,← hqb];exact Bk.new _ _ _)
 have HSZ:Hid (qb≤W0.heap.size):=Lib.hid (by have:=HKC.out.lt;omega)
 have HLC0:Hid (∀ j u,(campA V c)[j]?=some u→W0.cell? ⟨qb,0+j,none⟩=some u):=Lib.hid fun j u hj=>by rw [Nat.zero_add,HKC.out.cell];exact hj
 have hwi:=with_any W0 V c (h.later hb0) (bitsL b) A cl (hl.later hb0) (bits_rng hb) (bits_len6 b)
 obtain ⟨n,hn⟩:∃ n,(bitsL b).length=n:=⟨_,rfl⟩
 obtain ⟨d,hd⟩:∃ d,withB c (bitsL b)=d:=⟨_,rfl⟩
 have hdc:campB d=true:=by rw [← hd];exact with_camp hc h0 hb
 unfold WithPost at hwi
 rw [hn,hd] at hwi
 have HWI:=Lib.hid hwi
 obtain ⟨sm,hsm⟩:∃ x,(bestB d).isSome=x:=⟨_,rfl⟩
 have HER:Hid ((bstB d).2=if sm=true then 0 else 7):=Lib.hid (by rw [bst_some hdc,hsm])
 obtain ⟨PQ,hPQ⟩:∃ Q,(fun (e:Ending) (w':World)=>e=.returned (.bool sm)∧Below w.heap.size w w')=Q:=⟨_,rfl⟩
 have HFIN:Hid (∀ w',Below qb w w'→PQ (.returned (.bool sm)) w'):=Lib.hid fun w' h1=>by rw [← hPQ,hqb];exact ⟨rfl,h1⟩
 rw [hn,hd,hsm,hPQ]
 clear h hc hb0 hl h0 hb hwi hn hd hdc hsm hPQ
 simp only [campA] at hW0 ⊢
 go_enter Tryz.func74,Tryz.ntmps74
 go_upto_region 1 with (fail)
 clear hW0 hqb
 go_wp2_with (first | (refine wpLoadAt rfl 26 _ rfl qb 0 rfl (campA V c) _ HLC0.out und_camp rfl (info_campA V c) ?_))
 refine HWI.out.mono ?_
 rintro e W1 ⟨V',rfl,hca,hb1⟩
 have HB1:=Lib.hid hb1
 have hbe:=refBest_any W1 V' d hca
 unfold RBestPost at hbe
 rw [HER.out] at hbe
 have HBE:=Lib.hid hbe
 clear hca hb1 hbe
 go_wp2_with fail
 refine HBE.out.mono ?_
 rintro e W2 ⟨A2,n2,c2,rfl,_,_,_,hb2⟩
 have HF:=Lib.hid (HFIN.out W2 (HB0.out.trans ((HB1.out.trans (hb2.mono HB1.out.size)).mono HSZ.out)))
 clear hb2
 cases sm with
 | true =>
  simp only [if_true]
  go_wp2_with fail
  first | exact HF.out | (go_ret;exact HF.out)
 | false =>
  simp only [Bool.false_eq_true,if_false]
  go_wp2_with fail
  first | exact HF.out | (go_ret;exact HF.out)
end Go.Proofs.YtcnjenlojnognaaGreat
