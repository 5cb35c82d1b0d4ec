/- What is proved: the texts Ar As Rd Rw Ba Bb Bc Bd, one behind the other; each says at its head what it proves, and under which conditions. -/
import Derived.Test.YtcnjenlojnognaaGreatRows
import Derived.ProofKit
import Derived.OpenShut
import Derived.JoinedOf
import Derived.JoinedCond
import Derived.SizedLaws
import Derived.ChangeSame
import Derived.Carry
import Derived.BigQuiet
import Derived.Test.YtcnjenlojnognaaGreatg6
/- What is proved: a contract of the law's example. Conditions: none. -/
namespace Go.Proofs.YtcnjenlojnognaaGreat
open Go.RowKit

def exV (q:Nat):CV:=⟨some ⟨q+1,0,none⟩,1,some ⟨q+1+1+1,0,none⟩,1,some ⟨q+1+1+1+1,0,none⟩,3,fun _=>some ⟨q+1+1,0,none⟩,fun _=>1⟩
/-- The example in memory. -/
structure ExAt (w:World) (q:Nat) (lift:Int) (must:Bool):Prop where
 k1:Bk w (q+1) 46 #[.string ⟨#[120]⟩,.int .i64 lift,.int .i64 2,.int .i64 5]
 k2:Bk w (q+1+1) 3 #[.int .i64 0]
 k3:Bk w (q+1+1+1) 61 #[.string ⟨#[112]⟩,.int .i64 3,.slice (some ⟨q+1+1,0,none⟩) 1 1]
 k4:Bk w (q+1+1+1+1) 54 #[.string ⟨#[97]⟩,.int .i64 60,.int .i64 5,.int .i64 0,.int .i64 9,.bool must,.string ⟨#[98]⟩,.int .i64 50,.int .i64 4,.int .i64 0,.int .i64 4,.bool false,.string ⟨#[99]⟩,.int .i64 40,.int .i64 3,.int .i64 8,.int .i64 20,.bool false]
theorem ExAt.below {w w':World} {q:Nat} {lift:Int} {must:Bool} (h:ExAt w q lift must) (hb:Below w.heap.size w w'):ExAt w' q lift must :=
 ⟨h.k1.below hb h.k1.lt,h.k2.below hb h.k2.lt,h.k3.below hb h.k3.lt,h.k4.below hb h.k4.lt⟩
theorem ExAt.camp {w:World} {q:Nat} {lift:Int} {must:Bool} (h:ExAt w q lift must):CampAt w w.heap.size (exV q) (exD lift must) where
 crafts:=⟨by show 1≤9223372036854775807;decide,fun _=>⟨q+1,0,rfl,h.k1.lt,fun i hi j hj=>by
  obtain rfl:i=0:=by have:i<1:=hi;omega
  rw [h.k1.cell]
  match j,hj with
  | 0,_=>rfl
  | 1,_=>rfl
  | 2,_=>rfl
  | 3,_=>rfl⟩⟩
 pads:=⟨by show 1≤9223372036854775807;decide,fun _=>⟨q+1+1+1,0,rfl,h.k3.lt,fun i hi j hj=>by
  obtain rfl:i=0:=by have:i<1:=hi;omega
  rw [h.k3.cell]
  match j,hj with
  | 0,_=>rfl
  | 1,_=>rfl
  | 2,_=>rfl⟩⟩
 cargos:=⟨by show 3≤9223372036854775807;decide,fun _=>⟨q+1+1+1+1,0,rfl,h.k4.lt,fun i hi j hj=>by
  have hi3:i<3:=hi
  rw [h.k4.cell]
  match i,hi3,j,hj with
  | 0,_,0,_=>rfl
  | 0,_,1,_=>rfl
  | 0,_,2,_=>rfl
  | 0,_,3,_=>rfl
  | 0,_,4,_=>rfl
  | 0,_,5,_=>rfl
  | 1,_,0,_=>rfl
  | 1,_,1,_=>rfl
  | 1,_,2,_=>rfl
  | 1,_,3,_=>rfl
  | 1,_,4,_=>rfl
  | 1,_,5,_=>rfl
  | 2,_,0,_=>rfl
  | 2,_,1,_=>rfl
  | 2,_,2,_=>rfl
  | 2,_,3,_=>rfl
  | 2,_,4,_=>rfl
  | 2,_,5,_=>rfl⟩⟩
 takes:=fun i hi=>by
  obtain rfl:i=0:=by have:i<1:=hi;omega
  refine ⟨by show 1≤9223372036854775807;decide,fun _=>⟨q+1+1,0,rfl,h.k2.lt,fun i hi j hj=>?_⟩⟩
  obtain rfl:i=0:=by have:i<1:=hi;omega
  obtain rfl:j=0:=by omega
  exact h.k2.cell 0
def ExPost (w:World) (e:Ending) (w':World):Prop:=e=.returned (.agg (campA (exV w.heap.size) (exD 100 false)))∧ExAt w' w.heap.size 100 false∧Below w.heap.size w w'
set_option maxRecDepth 100000 in
set_option maxHeartbeats 8000000 in
theorem example_any (w:World):Calls Tryz.prog 36 #[] w (ExPost w):=by
 obtain ⟨qb,hqb⟩:∃ qb,w.heap.size=qb:=⟨_,rfl⟩
 obtain ⟨PQ,hPQ⟩:∃ Q,ExPost w=Q:=⟨_,rfl⟩
 have HFIN:Hid (∀ w',ExAt w' qb 100 false→Below qb w w'→PQ (.returned (.agg (campA (exV qb) (exD 100 false)))) w'):=Lib.hid fun w' h1 h2=>by
  rw [← hPQ];unfold ExPost;rw [hqb];exact ⟨rfl,h1,h2⟩
 rw [hPQ]
 clear hPQ
 go_enter Tryz.func36,Tryz.ntmps36
 go_wp2_with fail
 try rw [hqb]
 have hb0:Below w.heap.size w (w.alloc (.cells #[.slice (some ⟨qb+1,0,none⟩) 1 1,.slice (some ⟨qb+1+1+1,0,none⟩) 1 1,.slice (some ⟨qb+1+1+1+1,0,none⟩) 3 3,.int .i64 0] 26)):=(Below.refl _ w).alloc (Nat.le_refl _) _
 have k0:Bk (w.alloc (.cells #[.slice (some ⟨qb+1,0,none⟩) 1 1,.slice (some ⟨qb+1+1+1,0,none⟩) 1 1,.slice (some ⟨qb+1+1+1+1,0,none⟩) 3 3,.int .i64 0] 26)) qb 26 #[.slice (some ⟨qb+1,0,none⟩) 1 1,.slice (some ⟨qb+1+1+1,0,none⟩) 1 1,.slice (some ⟨qb+1+1+1+1,0,none⟩) 3 3,.int .i64 0]:=by rw [← hqb];exact Bk.new _ _ _
 refine bodyPost_ret (v:=.agg (campA (exV qb) (exD 100 false))) (results_cellS rfl _ _ qb 26 (campA (exV qb) (exD 100 false)) _ rfl ?_ und_camp rfl info_camp) rfl (HFIN.out _ ⟨?_,?_,?_,?_⟩ ?_)
 ·exact (((k0.alloc _).alloc _).alloc _).alloc _
 ·exact (((Bk.newAt _ _ _ _ (by simp;omega)).alloc _).alloc _).alloc _
 ·exact ((Bk.newAt _ _ _ _ (by simp;omega)).alloc _).alloc _
 ·exact (Bk.newAt _ _ _ _ (by simp;omega)).alloc _
 ·exact Bk.newAt _ _ _ _ (by simp;omega)
 ·exact ((((hb0.alloc (by simp) _).alloc (by simp;omega) _).alloc (by simp;omega) _).alloc (by simp;omega) _).mono (Nat.le_of_eq hqb.symm)
/-- A plan of two launches in memory. -/
structure PlE (w:World) (q:Nat) (d1 d2:Int):Prop where
 k1:Bk w q 3 #[.int .i64 1]
 k2:Bk w (q+1) 3 #[.int .i64 0,.int .i64 2]
 k3:Bk w (q+1+1) 52 #[.int .i64 d1,.int .i64 0,.int .i64 0,.slice (some ⟨q,0,none⟩) 1 1,.int .i64 d2,.int .i64 0,.int .i64 0,.slice (some ⟨q+1,0,none⟩) 2 2]
theorem PlE.below {w w':World} {q:Nat} {d1 d2:Int} (h:PlE w q d1 d2) (hb:Below w.heap.size w w'):PlE w' q d1 d2:=⟨h.k1.below hb h.k1.lt,h.k2.below hb h.k2.lt,h.k3.below hb h.k3.lt⟩
theorem PlE.plan {w:World} {q:Nat} {d1 d2:Int} (h:PlE w q d1 d2):PlanAt w w.heap.size (some ⟨q+1+1,0,none⟩) [⟨d1,0,0,[1]⟩,⟨d2,0,0,[0,2]⟩]:=by
 refine ⟨fun i=>match i with | 0=>some ⟨q,0,none⟩ | _=>some ⟨q+1,0,none⟩,fun i=>match i with | 0=>1 | _=>2,⟨by show 2≤9223372036854775807;decide,fun _=>⟨q+1+1,0,rfl,h.k3.lt,fun i hi j hj=>?_⟩⟩,fun i hi=>?_⟩
 ·have hi2:i<2:=hi
  rw [h.k3.cell]
  match i,hi2,j,hj with
  | 0,_,0,_=>rfl
  | 0,_,1,_=>rfl
  | 0,_,2,_=>rfl
  | 0,_,3,_=>rfl
  | 1,_,0,_=>rfl
  | 1,_,1,_=>rfl
  | 1,_,2,_=>rfl
  | 1,_,3,_=>rfl
 ·have hi2:i<2:=hi
  match i,hi2 with
  | 0,_ =>
   refine ⟨by show 1≤9223372036854775807;decide,fun _=>⟨q,0,rfl,h.k1.lt,fun a ha j hj=>?_⟩⟩
   obtain rfl:a=0:=by have:a<1:=ha;omega
   obtain rfl:j=0:=by omega
   exact h.k1.cell 0
  | 1,_ =>
   refine ⟨by show 2≤9223372036854775807;decide,fun _=>⟨q+1,0,rfl,h.k2.lt,fun a ha j hj=>?_⟩⟩
   obtain rfl:j=0:=by omega
   have ha2:a<2:=ha
   match a,ha2 with
   | 0,_=>exact h.k2.cell 0
   | 1,_=>exact h.k2.cell 1
theorem PlE.made (w:World) (q:Nat) (hq:w.heap.size=q) (d1 d2:Int):PlE (((w.alloc (.cells #[.int .i64 1] 3)).alloc (.cells #[.int .i64 0,.int .i64 2] 3)).alloc (.cells #[.int .i64 d1,.int .i64 0,.int .i64 0,.slice (some ⟨q,0,none⟩) 1 1,.int .i64 d2,.int .i64 0,.int .i64 0,.slice (some ⟨q+1,0,none⟩) 2 2] 52)) q d1 d2 :=
 ⟨((Bk.newAt _ _ _ _ hq.symm).alloc _).alloc _,(Bk.newAt _ _ _ _ (by simp;omega)).alloc _,Bk.newAt _ _ _ _ (by simp;omega)⟩
theorem below3 (w:World) (o1 o2 o3:Obj):Below w.heap.size w (((w.alloc o1).alloc o2).alloc o3):=(((Below.refl _ w).alloc (Nat.le_refl _) _).alloc (by simp) _).alloc (by simp;omega) _
end Go.Proofs.YtcnjenlojnognaaGreat
/- What is proved: the law's awake is true. Conditions: none. -/
namespace Go.Proofs.YtcnjenlojnognaaGreat
open Go.RowKit

theorem same_self (l:List LaunchD):sameB l l=true:=sameB_iff.2 rfl
set_option maxRecDepth 100000 in
set_option maxHeartbeats 32000000 in
theorem awake_any (w:World):Calls Tryz.prog 15 #[] w fun e w'=>e=.returned (.bool true)∧Below w.heap.size w w':=by
 obtain ⟨q,hq⟩:∃ q,w.heap.size=q:=⟨_,rfl⟩
 obtain ⟨PQ,hPQ⟩:∃ Q,(fun (e:Ending) (w':World)=>e=.returned (.bool true)∧Below w.heap.size w w')=Q:=⟨_,rfl⟩
 have HFIN:Hid (∀ w',Below q w w'→PQ (.returned (.bool true)) w'):=Lib.hid fun w' h2=>by rw [← hPQ,hq];exact ⟨rfl,h2⟩
 have hex:=example_any w
 unfold ExPost at hex
 rw [hq] at hex
 have HEX:=Lib.hid hex
 have hqw:q≤w.heap.size:=by omega
 rw [hPQ]
 clear hPQ hex hq
 go_enter Tryz.func15,Tryz.ntmps15
 go_wp2_with fail
 refine HEX.out.mono ?_
 rintro e w1 ⟨rfl,hx1,hb1⟩
 obtain ⟨qc,hqc⟩:∃ x,w1.heap.size=x:=⟨_,rfl⟩
 have HX1:=Lib.hid hx1
 have HB1:=Lib.hid hb1
 clear hx1 hb1
 simp only [campA,exV,exD,List.length_cons,List.length_nil,Nat.zero_add]
 go_upto_region 2 with (fail)
 have hx1:=HX1.out
 have hb1:=HB1.out
 obtain ⟨W2,hW2⟩:∃ W2,w1.alloc (.cells (campA (exV q) (exD 100 false)) 26)=W2:=⟨_,rfl⟩
 have hb12:Below w1.heap.size w1 W2:=by rw [← hW2];exact (Below.refl _ w1).alloc (Nat.le_refl _) _
 have HX2:=Lib.hid (hx1.below hb12)
 have hqs:q≤qc:=by have:=hb1.size;omega
 have HB2:Hid (Below q w W2):=Lib.hid (hb1.trans (hb12.mono (by omega)))
 have HKC:Hid (Bk W2 qc 26 (campA (exV q) (exD 100 false))):=Lib.hid (by rw [← hW2,← hqc];exact Bk.new _ _ _)
 have HSZ:Hid (q≤W2.heap.size):=Lib.hid (by have:=HKC.out.lt;omega)
 have HLC:Hid (∀ w',Below W2.heap.size W2 w'→∀ j u,(campA (exV q) (exD 100 false))[j]?=some u→w'.cell? ⟨qc,0+j,none⟩=some u):=Lib.hid fun w' hb j u hj=>by rw [Nat.zero_add,(HKC.out.below hb HKC.out.lt).cell];exact hj
 have HCAMP:Hid (∀ w',Below W2.heap.size W2 w'→CampAt w' w'.heap.size (exV q) (exD 100 false)):=Lib.hid fun w' hb=>(HX2.out.below hb).camp
 have HL2:=Lib.hid (HLC.out W2 (Below.refl _ _))
 have HBE:=Lib.hid (Best_any W2 (exV q) (exD 100 false) (HCAMP.out W2 (Below.refl _ _)))
 clear hx1 hb1 hb12
 unfold campA exV exD at hW2
 simp only [List.length_cons,List.length_nil,Nat.zero_add] at hW2
 rw [hW2]
 clear hW2 hqc HX1 HB1
 go_wp2_with (first | (refine wpLoadAt rfl 26 _ rfl qc 0 rfl (campA (exV q) (exD 100 false)) _ HL2.out und_camp rfl (info_campA _ _) ?_))
 refine HBE.out.mono ?_
 rintro e w3 ⟨A3,n3,c3,rfl,hn3,hc3,hp3,hb3⟩
 rw [ex_best] at hn3 hp3 ⊢
 have hn3':n3=2:=hn3
 subst hn3'
 have HB3:Hid (Below W2.heap.size W2 w3):=Lib.hid hb3
 have HP3:=Lib.hid hp3
 clear hn3 hc3 hp3 hb3
 obtain ⟨q3,hq3⟩:∃ x,w3.heap.size=x:=⟨_,rfl⟩
 go_upto_region 4 with (fail)
 obtain ⟨W4,hW4⟩:∃ W4,(((w3.alloc (.cells #[.int .i64 1] 3)).alloc (.cells #[.int .i64 0,.int .i64 2] 3)).alloc (.cells #[.int .i64 2,.int .i64 0,.int .i64 0,.slice (some ⟨q3,0,none⟩) 1 1,.int .i64 8,.int .i64 0,.int .i64 0,.slice (some ⟨q3+1,0,none⟩) 2 2] 52))=W4:=⟨_,rfl⟩
 have HPE:Hid (PlE W4 q3 2 8):=Lib.hid (by rw [← hW4];exact PlE.made w3 q3 hq3 2 8)
 have hb34:Below w3.heap.size w3 W4:=by rw [← hW4];exact below3 _ _ _ _
 have HB4:Hid (Below W2.heap.size W2 W4):=Lib.hid (HB3.out.trans (hb34.mono HB3.out.size))
 have HP4:=Lib.hid (HP3.out.later hb34)
 have HL4:=Lib.hid (HLC.out W4 HB4.out)
 have HWO:=Lib.hid (worth_any W4 (exV q) (exD 100 false) (HCAMP.out W4 HB4.out) exW (some ⟨q3+1+1,0,none⟩) 2 HPE.out.plan (by decide))
 unfold WorthPost at HWO
 rw [ex_worth] at HWO
 clear hb34 HP3
 rw [hW4]
 clear hW4 hq3
 go_wp2_with (first | (refine wpLoadAt rfl 26 _ rfl qc 0 rfl (campA (exV q) (exD 100 false)) _ HL4.out und_camp rfl (info_campA _ _) ?_))
 refine HWO.out.mono ?_
 rintro e w5 ⟨rfl,hb5⟩
 have HB5:Hid (Below W2.heap.size W2 w5):=Lib.hid (HB4.out.trans (hb5.mono HB4.out.size))
 have HP5:=Lib.hid (HP4.out.later hb5)
 have HPE5:=Lib.hid (HPE.out.below hb5)
 have HL5:=Lib.hid (HLC.out w5 HB5.out)
 have HDE:=Lib.hid (delay_any w5 (exV q) (exD 100 false) (HCAMP.out w5 HB5.out) exW (some ⟨q3+1+1,0,none⟩) 2 HPE5.out.plan (by decide) (by decide) 0 2)
 unfold DelayPost at HDE
 rw [ex_delay] at HDE
 clear hb5
 go_wp2_with (first | (refine wpLoadAt rfl 26 _ rfl qc 0 rfl (campA (exV q) (exD 100 false)) _ HL5.out und_camp rfl (info_campA _ _) ?_))
 refine HDE.out.mono ?_
 rintro e w6 ⟨A6,c6,rfl,hc6,hp6,hb6⟩
 have HB6:Hid (Below W2.heap.size W2 w6):=Lib.hid (HB5.out.trans (hb6.mono HB5.out.size))
 have HP6:=Lib.hid (HP5.out.later hb6)
 have HPE6:=Lib.hid (HPE5.out.below hb6)
 have HQ6:=Lib.hid hp6
 have HL6:=Lib.hid (HLC.out w6 HB6.out)
 have HSL:=Lib.hid (slack_any w6 (exV q) (exD 100 false) (HCAMP.out w6 HB6.out) exW (some ⟨q3+1+1,0,none⟩) 2 HPE6.out.plan (by decide) (by decide) 0)
 unfold SlackPost at HSL
 rw [ex_slack] at HSL
 clear hb6 hp6 hc6
 go_wp2_with (first | (refine wpLoadAt rfl 26 _ rfl qc 0 rfl (campA (exV q) (exD 100 false)) _ HL6.out und_camp rfl (info_campA _ _) ?_))
 refine HSL.out.mono ?_
 rintro e w7 ⟨rfl,hb7⟩
 have HB7:Hid (Below W2.heap.size W2 w7):=Lib.hid (HB6.out.trans (hb7.mono HB6.out.size))
 have HP7:=Lib.hid (HP6.out.later hb7)
 have HQ7:=Lib.hid (HQ6.out.later hb7)
 have HPE7:=Lib.hid (HPE6.out.below hb7)
 have HL7:=Lib.hid (HLC.out w7 HB7.out)
 have HRO:=Lib.hid (room_any w7 (exV q) (exD 100 false) (HCAMP.out w7 HB7.out) exW (some ⟨q3+1+1,0,none⟩) 2 HPE7.out.plan (by decide) (by decide) 1)
 unfold RoomPost at HRO
 rw [ex_room] at HRO
 clear hb7
 go_wp2_with (first | (refine wpLoadAt rfl 26 _ rfl qc 0 rfl (campA (exV q) (exD 100 false)) _ HL7.out und_camp rfl (info_campA _ _) ?_))
 refine HRO.out.mono ?_
 rintro e w8 ⟨rfl,hb8⟩
 have HB8:Hid (Below W2.heap.size W2 w8):=Lib.hid (HB7.out.trans (hb8.mono HB7.out.size))
 have HP8:=Lib.hid (HP7.out.later hb8)
 have HQ8:=Lib.hid (HQ7.out.later hb8)
 have HPE8:=Lib.hid (HPE7.out.below hb8)
 have hx8:=HX2.out.below HB8.out
 have kc8:=HKC.out.below HB8.out HKC.out.lt
 have c0:w8.cell? ⟨qc,0,none⟩=some (.slice (some ⟨q+1,0,none⟩) 1 1):=kc8.cell 0
 have c2:w8.cell? ⟨qc,2,none⟩=some (.slice (some ⟨q+1+1+1+1,0,none⟩) 3 3):=kc8.cell 2
 have d1:w8.cell? ⟨q+1,1,none⟩=some (.int .i64 100):=hx8.k1.cell 1
 have d5:w8.cell? ⟨q+1+1+1+1,5,none⟩=some (.bool false):=hx8.k4.cell 5
 have f1:w8.frozen? ⟨q+1,1,none⟩=false:=hx8.k1.free 1
 have f5:w8.frozen? ⟨q+1+1+1+1,5,none⟩=false:=hx8.k4.free 5
 have HX8:=Lib.hid hx8
 have HKC8:=Lib.hid kc8
 clear hb8 hx8 kc8
 go_upto_region 10 with (fail)
 obtain ⟨W9,hW9⟩:∃ W9,(w8.setCell ⟨q+1,1,none⟩ (.int .i64 30)).setCell ⟨q+1+1+1+1,5,none⟩ (.bool true)=W9:=⟨_,rfl⟩
 have o1:=Only.setCell w8 (q+1) 1 (.int .i64 30)
 have o2:=Only.setCell (w8.setCell ⟨q+1,1,none⟩ (.int .i64 30)) (q+1+1+1+1) 5 (.bool true)
 have hk4:Bk (w8.setCell ⟨q+1,1,none⟩ (.int .i64 30)) (q+1+1+1+1) 54 _:=HX8.out.k4.only o1 (by omega)
 have HX9:Hid (ExAt W9 q 30 true):=Lib.hid (by
  rw [← hW9]
  exact ⟨(HX8.out.k1.set 1 _).only o2 (by omega),(HX8.out.k2.only o1 (by omega)).only o2 (by omega),(HX8.out.k3.only o1 (by omega)).only o2 (by omega),hk4.set 5 _⟩)
 have hne:∀ b T cs,Bk w8 b T cs→T ≠ 46→T ≠ 54→Bk W9 b T cs:=fun b T cs hb h1 h2=>by
  rw [← hW9]
  exact (hb.only o1 fun e=>by subst e;exact h1 (bk_ty hb HX8.out.k1)).only o2 fun e=>by subst e;exact h2 (bk_ty hb HX8.out.k4)
 have HKC9:Hid (Bk W9 qc 26 (campA (exV q) (exD 30 true))):=Lib.hid (hne _ _ _ HKC8.out (by decide) (by decide))
 have HPE9:Hid (PlE W9 q3 2 8):=Lib.hid ⟨hne _ _ _ HPE8.out.k1 (by decide) (by decide),hne _ _ _ HPE8.out.k2 (by decide) (by decide),hne _ _ _ HPE8.out.k3 (by decide) (by decide)⟩
 have HP9:Hid (PlanO W9 W2.heap.size A3 exW):=Lib.hid (by rw [← hW9];exact (HP8.out.other HX8.out.k1 (by decide) (by decide) o1).other hk4 (by decide) (by decide) o2)
 have HQ9:Hid (PlanO W9 w5.heap.size A6 exL):=Lib.hid (by rw [← hW9];exact (HQ8.out.other HX8.out.k1 (by decide) (by decide) o1).other hk4 (by decide) (by decide) o2)
 have HB9:Hid (Below q w W9):=Lib.hid (by rw [← hW9];exact ((HB2.out.trans (HB8.out.mono HSZ.out)).trans (o1.below (by omega))).trans (o2.below (by omega)))
 have HLC9:Hid (∀ w',Below W9.heap.size W9 w'→∀ j u,(campA (exV q) (exD 30 true))[j]?=some u→w'.cell? ⟨qc,0+j,none⟩=some u):=Lib.hid fun w' hb j u hj=>by rw [Nat.zero_add,(HKC9.out.below hb HKC9.out.lt).cell];exact hj
 have HL9:=Lib.hid (HLC9.out W9 (Below.refl _ _))
 have HS9:Hid (q≤W9.heap.size):=Lib.hid (by have:=HKC9.out.lt;omega)
 have HBN:=Lib.hid (Best_any W9 (exV q) (exD 30 true) HX9.out.camp)
 rw [hW9]
 clear hW9 o1 o2 hk4 hne c0 c2 d1 d5 f1 f5
 go_wp2_with (first | (refine wpLoadAt rfl 26 _ rfl qc 0 rfl (campA (exV q) (exD 30 true)) _ HL9.out und_camp rfl (info_campA _ _) ?_))
 refine HBN.out.mono ?_
 rintro e w10 ⟨A10,n10,c10,rfl,hn10,hc10,hp10,hb10⟩
 rw [ex_none] at hn10 hp10 ⊢
 have hn10':n10=0:=hn10
 subst hn10'
 have HB10:Hid (Below W9.heap.size W9 w10):=Lib.hid hb10
 have HL10:=Lib.hid (HLC9.out w10 HB10.out)
 have HCO:=Lib.hid (conflict_any w10 (exV q) (exD 30 true) (HX9.out.below HB10.out).camp)
 clear hn10 hc10 hp10 hb10
 go_wp2_with (first | (refine wpLoadAt rfl 26 _ rfl qc 0 rfl (campA (exV q) (exD 30 true)) _ HL10.out und_camp rfl (info_campA _ _) ?_))
 refine HCO.out.mono ?_
 rintro e w11 ⟨A11,c11,rfl,hc11,hi11,hb11⟩
 rw [ex_conf] at hi11 ⊢
 have HB11:Hid (Below W9.heap.size W9 w11):=Lib.hid (HB10.out.trans (hb11.mono HB10.out.size))
 obtain ⟨g11,cu11,hA11,hg11,hk11,hcu11⟩:=hi11.2 (by decide)
 subst hA11
 have HK11:=Lib.hid hk11
 have HCU:Hid (cu11[0]?=some (.int .i64 0)):=Lib.hid (hcu11 0 (by decide) 0 (by decide))
 have HSA:=Lib.hid (same_any w11 exW exW A3 (some ⟨q3+1+1,0,none⟩) c3 2 (HP9.out.later HB11.out).at (HPE9.out.below HB11.out).plan)
 rw [same_self] at HSA
 clear hc11 hi11 hb11 hg11 hk11 hcu11
 simp only [List.length_cons,List.length_nil,Nat.zero_add]
 go_wp2_with fail
 refine HSA.out.mono ?_
 rintro e w12 ⟨rfl,hb12⟩
 have HB12:Hid (Below W9.heap.size W9 w12):=Lib.hid (HB11.out.trans (hb12.mono HB11.out.size))
 have HK12:=Lib.hid (HK11.out.below hb12 HK11.out.lt)
 clear hb12
 obtain ⟨q12,hq12⟩:∃ x,w12.heap.size=x:=⟨_,rfl⟩
 have hmade:=PlE.made w12 q12 hq12 4 9
 have hb3:=below3 w12 (.cells #[.int .i64 1] 3) (.cells #[.int .i64 0,.int .i64 2] 3) (.cells #[.int .i64 4,.int .i64 0,.int .i64 0,.slice (some ⟨q12,0,none⟩) 1 1,.int .i64 9,.int .i64 0,.int .i64 0,.slice (some ⟨q12+1,0,none⟩) 2 2] 52)
 have HSB:=Lib.hid (same_any _ exL exL A6 (some ⟨q12+1+1,0,none⟩) c6 2 ((HQ9.out.later HB12.out).later hb3).at hmade.plan)
 have HB3:=Lib.hid (HB12.out.trans (hb3.mono HB12.out.size))
 have HK13:=Lib.hid (HK12.out.below hb3 HK12.out.lt)
 have HB3s:=Lib.hid hb3.size
 rw [same_self] at HSB
 clear hmade hb3
 go_wp2_with fail
 refine HSB.out.mono ?_
 rintro e w13 ⟨rfl,hb13⟩
 have HB13:Hid (Below W9.heap.size W9 w13):=Lib.hid (HB3.out.trans (hb13.mono HB3.out.size))
 have ce:w13.cell? ⟨g11,0,none⟩=some (.int .i64 0):=by rw [(HK13.out.below hb13 HK13.out.lt).cell];exact HCU.out
 have HF:=Lib.hid (HFIN.out w13 (HB9.out.trans (HB13.out.mono HS9.out)))
 clear hb13 hq12
 go_wp2_with fail
 first | exact HF.out | (go_ret;exact HF.out)
end Go.Proofs.YtcnjenlojnognaaGreat
/- What is proved: what the form's reading of data says of the cells, type by type; and the last step of a law that only makes memory. Conditions: those that each lemma states. -/
namespace Go.Proofs.YtcnjenlojnognaaGreat
open Go.ChangeShapes Go.WideShapes Go.ChangeAt Go.RowKit

section
variable {H:Type} {enc:TypeId × Value→H} {P:Program} {w:World} {t e:TypeId} {cs:List Value}
/-- The cells cs read as a value of type t. -/
def Rd (enc:TypeId × Value→H) (P:Program) (w:World) (t:TypeId) (cs:List Value):Prop:=∃ fuel x,DataW.trod enc P w 0 (fun _=>true) true fuel t cs=some x
theorem Rd.of_trod {v:Value} {d:DataW H} {ps:List MemPlace} (h:DataW.Trod enc P w 0 (fun _=>true) true t v d ps):Rd enc P w t v.cells.toList:=by
 obtain ⟨n,hn⟩:=h
 exact ⟨n,_,hn⟩
theorem Rd.int {k:IntKind} (h:Rd enc P w t cs) (ht:P.underlying t=some (.int k)):∃ n,cs=[.int k n]∧(Lit.int k n).wf=true:=by
 obtain ⟨fuel,x,h⟩:=h
 cases fuel with
 | zero=>simp [DataW.trod] at h
 | succ m =>
  unfold DataW.trod at h
  rw [ht] at h
  split at h <;> simp_all
theorem Rd.bool (h:Rd enc P w t cs) (ht:P.underlying t=some .bool):∃ b,cs=[.bool b]:=by
 obtain ⟨fuel,x,h⟩:=h
 cases fuel with
 | zero=>simp [DataW.trod] at h
 | succ m =>
  unfold DataW.trod at h
  rw [ht] at h
  split at h <;> simp_all
theorem Rd.string (h:Rd enc P w t cs) (ht:P.underlying t=some .string):∃ s,cs=[.string s]∧s.size≤maxLen:=by
 obtain ⟨fuel,x,h⟩:=h
 cases fuel with
 | zero=>simp [DataW.trod] at h
 | succ m =>
  unfold DataW.trod at h
  rw [ht] at h
  split at h <;> simp_all
theorem Rd.struct {fs:Array Field} (h:Rd enc P w t cs) (ht:P.underlying t=some (.struct fs)):cs.length=P.cellsOf t∧∀ f ∈ fs.toList,Rd enc P w f.type ((cs.drop f.offset).take (P.cellsOf f.type)):=by
 obtain ⟨fuel,x,h⟩:=h
 cases fuel with
 | zero=>simp [DataW.trod] at h
 | succ m =>
  unfold DataW.trod at h
  rw [ht] at h
  split at h <;> simp_all
  obtain ⟨hl,xs,hp,_⟩:=h
  refine fun f hf=>?_
  obtain ⟨i,hi⟩:=List.getElem?_of_mem (Array.mem_toList_iff.2 hf)
  have hg:=mapM_some_get hp i f hi
  have hlen:=mapM_some_length hp
  have:i<xs.length:=by rw [hlen];exact (List.getElem?_eq_some_iff.1 hi).1
  exact ⟨m,xs[i],by rw [hg];exact List.getElem?_eq_getElem this⟩
theorem Rd.fields {fs:Array Field} {l:List (TypeId × Nat)} (h:Rd enc P w t cs) (ht:P.underlying t=some (.struct fs)) (hl:fs.toList.map (fun f=>(f.type,f.offset))=l) :
  cs.length=P.cellsOf t∧∀ q ∈ l,Rd enc P w q.1 ((cs.drop q.2).take (P.cellsOf q.1)):=by
 obtain ⟨h1,h2⟩:=h.struct ht
 refine ⟨h1,fun q hq=>?_⟩
 rw [← hl] at hq
 obtain ⟨f,hf,rfl⟩:=List.mem_map.1 hq
 exact h2 f hf
theorem Rd.array {n:Nat} (h:Rd enc P w t cs) (ht:P.underlying t=some (.array n e)):cs.length=P.cellsOf t∧∀ i,i<n→Rd enc P w e ((cs.drop (i * P.cellsOf e)).take (P.cellsOf e)):=by
 obtain ⟨fuel,x,h⟩:=h
 obtain ⟨xs,m,_,_,h1,h2,h3⟩:=DataW.trod_array ht h
 refine ⟨h1,fun i hi=>?_⟩
 exact ⟨m,xs[i]'(by omega),by rw [h3 i hi];exact List.getElem?_eq_getElem _⟩
theorem cells_get {base n:Nat} {a:Addr} {l:List Value} (h:w.cells? base a n=some l):l.length=n∧∀ j,j<n→w.cell? (a.add j)=l[j]?:=by
 unfold World.cells? at h
 split at h
 ·exact ⟨by simpa using mapM_some_length h,fun j hj=>mapM_some_get h j j (by simp [hj])⟩
 ·cases h
theorem Rd.slice (h:Rd enc P w t cs) (ht:P.underlying t=some (.slice e)) :
  cs=[.slice none 0 0] ∨ ∃ a len cap,cs=[.slice (some a) len cap]∧len≤maxLen∧∀ i,i<len→∃ l,w.cells? 0 (a.add (i * P.cellsOf e)) (P.cellsOf e)=some l∧Rd enc P w e l:=by
 obtain ⟨fuel,x,h⟩:=h
 cases fuel with
 | zero=>simp [DataW.trod] at h
 | succ m =>
  unfold DataW.trod at h
  rw [ht] at h
  split at h <;> simp_all
  rename_i a len cap _
  obtain ⟨⟨h1,h2⟩,h3⟩:=h
  refine ⟨a,len,⟨rfl,rfl⟩,by omega,fun i hi=>?_⟩
  obtain ⟨elems,he,_⟩:=Option.bind_eq_some_iff.1 h3
  have hg:=mapM_some_get he i i (by simp [hi])
  have hlen:=mapM_some_length he
  have hi2:i<elems.length:=by rw [hlen];simpa using hi
  rw [List.getElem?_eq_getElem hi2] at hg
  obtain ⟨l,hl,hr⟩:=Option.bind_eq_some_iff.1 hg
  exact ⟨l,hl,m,_,hr⟩
/-- A slice, each of whose rows of k cells is some y. -/
theorem Rd.list {Y:Type} (C:Y→Nat→Value) (Q:Y→Prop) (y0:Y) {k:Nat} (h:Rd enc P w t cs) (ht:P.underlying t=some (.slice e)) (hk:P.cellsOf e=k) (hk0:0<k)
  (hrow:∀ l,l.length=k→Rd enc P w e l→∃ y,Q y∧∀ j,j<k→l[j]?=some (C y j)) :
  ∃ (A:Option Addr) (c:Nat) (l:List Y),cs=[.slice A l.length c]∧(∀ y ∈ l,Q y)∧Sl w w.heap.size k A l.length fun i=>C (l.getD i y0):=by
 rcases h.slice ht with rfl | ⟨a,len,cap,rfl,hm,hi⟩
 ·exact ⟨none,0,[],rfl,fun y hy=>by simp at hy,Sl.nil _ _ _ _ _⟩
 ·rw [hk] at hi
  have hex:∀ i,∃ y,i<len→Q y∧∀ j,j<k→w.cell? ((a.add (i * k)).add j)=some (C y j):=fun i=>by
   by_cases hlt:i<len
   ·obtain ⟨l,hl,hr⟩:=hi i hlt
    obtain ⟨h1,h2⟩:=cells_get hl
    obtain ⟨y,hq,hy⟩:=hrow l h1 hr
    exact ⟨y,fun _=>⟨hq,fun j hj=>(h2 j hj).trans (hy j hj)⟩⟩
   ·exact ⟨y0,fun h=>absurd h hlt⟩
  obtain ⟨f,hf⟩:=Classical.axiomOfChoice hex
  have hlen:((List.range len).map f).length=len:=by simp
  have hget:∀ i,i<len→((List.range len).map f).getD i y0=f i:=fun i hlt=>by simp [hlt]
  refine ⟨some a,cap,(List.range len).map f,by rw [hlen],fun y hy=>?_,?_,fun h0=>?_⟩
  ·obtain ⟨i,h1,rfl⟩:=List.mem_map.1 hy
   exact (hf i (by simpa using h1)).1
  ·rw [hlen];unfold maxLen at hm;omega
  ·rw [hlen] at h0
   have h1:=(hf 0 h0).2 0 hk0
   simp only [Nat.zero_mul,Addr.add] at h1
   obtain ⟨b,off,sp⟩:=a
   have hsp:sp=none:=by
    cases sp with
    | none=>rfl
    | some s=>simp [World.cell?] at h1;split at h1 <;> cases h1
   subst hsp
   refine ⟨b,off,rfl,World.block_lt_of_cell? w _ h1,fun i hi2 j hj=>?_⟩
   rw [hlen] at hi2
   show w.cell? _=some (C (((List.range len).map f).getD i y0) j)
   rw [hget i hi2]
   have:=(hf i hi2).2 j hj
   rwa [Addr.add_lit,Addr.add_lit] at this
theorem okWide_arr {n base:Nat} {v:Value} (hu:P.underlying t=some (.array n e)) (h:Value.okWide P w .any base t v):∃ cs,v=.agg cs:=by
 simp only [Value.okWide,hu] at h
 cases v <;> simp at h
 exact ⟨_,rfl⟩
theorem i64_bd {n:Int} (h:(Lit.int .i64 n).wf=true):-9223372036854775808≤n∧n≤9223372036854775807:=by
 simpa [Lit.wf,IntKind.min,IntKind.max,IntKind.signed,IntKind.bits] using h

/-! The last step. -/
theorem trodAll_stays (hl:laidOutB P=true) {W W':World} {base:Nat} {sp:Nat→Bool}:∀ (ts:List TypeId) {vs:List Value} {ds:List (DataW H)} {ps:List MemPlace},(∀ t ∈ ts,P.readableRec t=true∧t<P.types.size) →
  DataW.TrodAll enc P W base (fun _=>true) true ts vs ds ps→(∀ p ∈ ps,W.sameAt W' p)→(∀ p ∈ ps,sp p.block=true)→DataW.TrodAll enc P W' base sp true ts vs ds ps
 | [],vs,ds,ps,_,h,_,_=>by
  cases vs <;> cases ds <;> simp_all [DataW.TrodAll]
 | t :: ts,vs,ds,ps,ht,h,hs,hsp=>by
  obtain ⟨v,vs',d,ds',p,q,rfl,rfl,rfl,h1,h2⟩:=trodAll_cons h
  exact trodAll_cons_mk (WideElems.Trod_stays hl (ht t (List.mem_cons_self ..)).1 (ht t (List.mem_cons_self ..)).2 h1 (fun x hx=>hs x (List.mem_append_left _ hx)) (fun x hx=>hsp x (List.mem_append_left _ hx)))
   (trodAll_stays hl ts (fun t' h'=>ht t' (List.mem_cons_of_mem _ h')) h2 (fun x hx=>hs x (List.mem_append_right _ hx)) (fun x hx=>hsp x (List.mem_append_right _ hx)))
theorem law_post {f:Func} {s:ChangeSpec} {bt:TypeId} {W W':World} {args:Array Value} {ds gs:List (DataW H)} {before:List MemPlace}
  (hl:laidOutB P=true) (hps:∀ t ∈ f.params.toList,P.readableRec t=true∧t<P.types.size) (hrt:f.resultTypes=#[bt]) (hbt:P.underlying bt=some .bool) (hv:s.vars=[])
  (hW:DataW.Whole enc P f.params.toList s.vars false W args.toList ds gs before) (hres:(s.fn H (ds ++ gs)).results=[.lit (.bool true)]) (hargs:(s.fn H (ds ++ gs)).args=ds) (hvars:(s.fn H (ds ++ gs)).vars=[])
  (hb:Below W.heap.size W W'):s.post enc P f false true false false W args (.bool true) W':=by
 have hW':=hW
 have hlt:∀ p ∈ before,p.block<W.heap.size:=fun p hp=>hW.lt p hp
 have hold:∀ p ∈ before,(fun b=>decide (b<W.heap.size)) p.block=true:=fun p hp=>by simpa using hlt p hp
 obtain ⟨p,q,hA,hV,rfl,hz,hn⟩:=hW
 rw [hv] at hV
 obtain ⟨rfl,rfl⟩:=trodVars_none hV
 have hr:∀ (b:Nat) (sp:Nat→Bool) (hd:Bool),DataW.TrodAll enc P W' b sp hd f.resultTypes.toList ((Value.bool true).resultList f.resultTypes.size) (s.fn H (ds ++ [])).results []:=fun b sp hd=>by
  rw [hrt,hres];exact trodAll_mk1 (shut_bool hbt _)
 have ha:∀ sp:Nat→Bool,(∀ x ∈ p,sp x.block=true)→DataW.TrodAll enc P W' 0 sp true f.params.toList args.toList (s.fn H (ds ++ [])).args p:=fun sp hsp=>by
  rw [hargs];exact trodAll_stays hl _ hps hA (fun x hx=>hb.same (hlt x (List.mem_append_left _ hx))) hsp
 have hvs:∀ sp:Nat→Bool,DataW.TrodVars enc P W' sp s.vars (s.fn H (ds ++ [])).vars []:=fun sp=>by rw [hv,hvars];rfl
 refine ⟨ds,[],p ++ [],[],p,[],hW',hr _ _ _,ha _ (fun x hx=>hold x (List.mem_append_left _ hx)),hvs _,World.keptBut_mono (fun x hx=>⟨hx,?_⟩) (hb.frame (· ∈ p ++ [])),fun _=>?_⟩
 ·exact Or.inr (List.mem_append.1 hx)
 ·refine ⟨?_,_,_,([] ++ p) ++ [],⟨[] ++ p,[],trodAll_append (ha _ (fun _ _=>rfl)) (hr _ _ _),hvs _,rfl,?_,?_⟩,?_⟩
  ·exact ok_one hrt rfl (okWide_bool_mk hbt _)
  ·intro b off hp
   have hin:MemPlace.cell b off ∈ p ++ []:=by simpa using hp
   rw [hb.frozen (hlt _ hin)]
   exact hz b off hin
  ·intro ha;cases ha
  ·intro x hx _
   simpa using hx
end
end Go.Proofs.YtcnjenlojnognaaGreat
/- What is proved: what the form's reading of data says of the cells, with the form's reach: how long lists are. Conditions: those that each lemma states. -/
namespace Go.Proofs.YtcnjenlojnognaaGreat
open Go.ChangeShapes Go.WideShapes Go.ChangeAt Go.RowKit

section
variable {H:Type} {enc:TypeId × Value→H} {P:Program} {w:World} {t e:TypeId} {cs:List Value}
/-- The cells cs read as a value of type t, within the reach. -/
def RdW (enc:TypeId × Value→H) (P:Program) (w:World) (t:TypeId) (cs:List Value):Prop :=
 ∃ fuel d ps,DataW.trod enc P w 0 (fun _=>true) true fuel t cs=some (d,ps)∧∀ n ∈ d.weights P t,n≤reachBytes
theorem RdW.rd (h:RdW enc P w t cs):Rd enc P w t cs:=by
 obtain ⟨fuel,d,ps,h,_⟩:=h
 exact ⟨fuel,_,h⟩
theorem RdW.of_trod {v:Value} {d:DataW H} {ps:List MemPlace} (h:DataW.Trod enc P w 0 (fun _=>true) true t v d ps) (hw:∀ n ∈ d.weights P t,n≤reachBytes):RdW enc P w t v.cells.toList:=by
 obtain ⟨n,hn⟩:=h
 exact ⟨n,_,_,hn,hw⟩
theorem RdW.fields {fs:Array Field} {l:List (TypeId × Nat)} (h:RdW enc P w t cs) (ht:P.underlying t=some (.struct fs)) (hl:fs.toList.map (fun f=>(f.type,f.offset))=l) :
  cs.length=P.cellsOf t∧∀ q ∈ l,RdW enc P w q.1 ((cs.drop q.2).take (P.cellsOf q.1)):=by
 obtain ⟨fuel,d,ps,h,hw⟩:=h
 cases fuel with
 | zero=>simp [DataW.trod] at h
 | succ m =>
  unfold DataW.trod at h
  rw [ht] at h
  split at h <;> simp_all
  obtain ⟨hlen,xs,hp,hd,_⟩:=h
  subst hd
  subst hl
  intro a b hab
  obtain ⟨f,hf,hfe⟩:=List.mem_map.1 hab
  simp only [Prod.mk.injEq] at hfe
  obtain ⟨rfl,rfl⟩:=hfe
  obtain ⟨i,hi⟩:=List.getElem?_of_mem hf
  have hg:=mapM_some_get hp i f hi
  have hlen2:=mapM_some_length hp
  have hi2:i<xs.length:=by rw [hlen2];exact (List.getElem?_eq_some_iff.1 hi).1
  rw [List.getElem?_eq_getElem hi2] at hg
  refine ⟨m,xs[i].1,xs[i].2,hg,fun n hn=>hw n ?_⟩
  simp only [DataW.weights,ht]
  exact DataW.weights_mem_each (j:=i) (t:=f.type) (d:=xs[i].1) (by simp [hi]) (by simp [List.getElem?_eq_getElem hi2]) n hn
theorem weights_mem_all:∀ {ds:List (DataW H)} {j:Nat} {d:DataW H},ds[j]?=some d→∀ n ∈ d.weights P e,n ∈ DataW.weightsAll P e ds
 | d0 :: ds,0,d,hd,n,hn=>by
  simp only [List.getElem?_cons_zero,Option.some.injEq] at hd
  subst hd
  simp only [DataW.weightsAll,List.mem_append]
  exact Or.inl hn
 | d0 :: ds,j+1,d,hd,n,hn=>by
  simp only [List.getElem?_cons_succ] at hd
  simp only [DataW.weightsAll,List.mem_append]
  exact Or.inr (weights_mem_all hd n hn)
 | [],_,_,hd,_,_=>by simp at hd
theorem RdW.slice (h:RdW enc P w t cs) (ht:P.underlying t=some (.slice e)) :
  cs=[.slice none 0 0] ∨ ∃ a len cap,cs=[.slice (some a) len cap]∧len≤maxLen∧len * P.bytesOf e≤reachBytes∧∀ i,i<len→∃ l,w.cells? 0 (a.add (i * P.cellsOf e)) (P.cellsOf e)=some l∧RdW enc P w e l:=by
 obtain ⟨fuel,d,ps,h,hw⟩:=h
 cases fuel with
 | zero=>simp [DataW.trod] at h
 | succ m =>
  unfold DataW.trod at h
  rw [ht] at h
  split at h <;> simp_all
  rename_i a len cap _
  obtain ⟨⟨h1,h2⟩,h3⟩:=h
  obtain ⟨elems,he,h4⟩:=Option.bind_eq_some_iff.1 h3
  obtain ⟨rest,hr,h5⟩:=Option.map_eq_some_iff.1 h4
  simp only [Prod.mk.injEq] at h5
  obtain ⟨rfl,_⟩:=h5
  have hlen:=mapM_some_length he
  simp only [List.length_range] at hlen
  simp only [DataW.weights,ht,List.length_map] at hw
  have hb:=hw _ (List.mem_cons_self ..)
  rw [hlen] at hb
  refine ⟨a,len,⟨rfl,rfl⟩,by omega,Nat.le_trans (Nat.mul_le_mul_right _ (Nat.le_add_right _ _)) hb,fun i hi=>?_⟩
  have hg:=mapM_some_get he i i (by simp [hi])
  have hi2:i<elems.length:=by omega
  rw [List.getElem?_eq_getElem hi2] at hg
  obtain ⟨l,hl,hr⟩:=Option.bind_eq_some_iff.1 hg
  refine ⟨l,hl,m,elems[i].1,elems[i].2,hr,fun n hn=>hw n ?_⟩
  refine List.mem_cons_of_mem _ (List.mem_append_left _ (weights_mem_all (j:=i) (d:=elems[i].1) ?_ n hn))
  simp [List.getElem?_eq_getElem hi2]
/-- A slice, each of whose rows of k cells is some y. -/
theorem RdW.list {Y:Type} (C:Y→Nat→Value) (Q:Y→Prop) (y0:Y) {k:Nat} (h:RdW enc P w t cs) (ht:P.underlying t=some (.slice e)) (hk:P.cellsOf e=k) (hk0:0<k)
  (hrow:∀ l,l.length=k→RdW enc P w e l→∃ y,Q y∧∀ j,j<k→l[j]?=some (C y j)) :
  ∃ (A:Option Addr) (c:Nat) (l:List Y),cs=[.slice A l.length c]∧(∀ y ∈ l,Q y)∧Sl w w.heap.size k A l.length (fun i=>C (l.getD i y0))∧l.length * P.bytesOf e≤reachBytes:=by
 rcases h.slice ht with rfl | ⟨a,len,cap,rfl,hm,hby,hi⟩
 ·exact ⟨none,0,[],rfl,fun y hy=>by simp at hy,Sl.nil _ _ _ _ _,by simp⟩
 ·rw [hk] at hi
  have hex:∀ i,∃ y,i<len→Q y∧∀ j,j<k→w.cell? ((a.add (i * k)).add j)=some (C y j):=fun i=>by
   by_cases hlt:i<len
   ·obtain ⟨l,hl,hr⟩:=hi i hlt
    obtain ⟨h1,h2⟩:=cells_get hl
    obtain ⟨y,hq,hy⟩:=hrow l h1 hr
    exact ⟨y,fun _=>⟨hq,fun j hj=>(h2 j hj).trans (hy j hj)⟩⟩
   ·exact ⟨y0,fun h=>absurd h hlt⟩
  obtain ⟨f,hf⟩:=Classical.axiomOfChoice hex
  have hlen:((List.range len).map f).length=len:=by simp
  have hget:∀ i,i<len→((List.range len).map f).getD i y0=f i:=fun i hlt=>by simp [hlt]
  refine ⟨some a,cap,(List.range len).map f,by rw [hlen],fun y hy=>?_,⟨?_,fun h0=>?_⟩,by rw [hlen];exact hby⟩
  ·obtain ⟨i,h1,rfl⟩:=List.mem_map.1 hy
   exact (hf i (by simpa using h1)).1
  ·rw [hlen];unfold maxLen at hm;omega
  ·rw [hlen] at h0
   have h1:=(hf 0 h0).2 0 hk0
   simp only [Nat.zero_mul,Addr.add] at h1
   obtain ⟨b,off,sp⟩:=a
   have hsp:sp=none:=by
    cases sp with
    | none=>rfl
    | some s=>simp [World.cell?] at h1;split at h1 <;> cases h1
   subst hsp
   refine ⟨b,off,rfl,World.block_lt_of_cell? w _ h1,fun i hi2 j hj=>?_⟩
   rw [hlen] at hi2
   show w.cell? _=some (C (((List.range len).map f).getD i y0) j)
   rw [hget i hi2]
   have:=(hf i hi2).2 j hj
   rwa [Addr.add_lit,Addr.add_lit] at this
theorem heavy_all {ts:List TypeId} {ds:List (DataW H)} (h:(DataW.weightsEach P (ts ++ []) (ds ++ [])).all (·≤reachBytes)=true) {j:Nat} {t:TypeId} {d:DataW H} (ht:ts[j]?=some t) (hd:ds[j]?=some d):∀ n ∈ d.weights P t,n≤reachBytes:=by
 intro n hn
 rw [List.append_nil,List.append_nil] at h
 have:=List.all_eq_true.1 h n (DataW.weights_mem_each ht hd n hn)
 simpa using this
end
end Go.Proofs.YtcnjenlojnognaaGreat
/- What is proved: what the form's reading of a law's arguments says of the cells. Conditions: those that each lemma states. -/
namespace Go.Proofs.YtcnjenlojnognaaGreat
open Go.ChangeShapes Go.WideShapes Go.ChangeAt Go.RowKit

theorem Sl.congr {w:World} {B k n:Nat} {A:Option Addr} {f g:Nat→Nat→Value} (h:Sl w B k A n f) (hf:∀ i,i<n→∀ j,j<k→f i j=g i j):Sl w B k A n g :=
 ⟨h.1,fun hn=>by obtain ⟨b,off,e,h1,h2⟩:=h.2 hn;exact ⟨b,off,e,h1,fun i hi j hj=>(h2 i hi j hj).trans (by rw [hf i hi j hj])⟩⟩
def structOf (P:Program) (t:TypeId):Array Field:=match P.underlying t with | some (.struct f)=>f | _=>#[]
theorem cells_int:Tryz.prog.cellsOf 3=1:=by kernel_rfl
theorem cells_bool:Tryz.prog.cellsOf 4=1:=by kernel_rfl
theorem cells_string:Tryz.prog.cellsOf 9=1:=by kernel_rfl
theorem cells_u16:Tryz.prog.cellsOf 43=1:=by kernel_rfl
theorem und_int:Tryz.prog.underlying 3=some (.int .i64):=by kernel_rfl
theorem und_u16:Tryz.prog.underlying 43=some (.int .u16):=by kernel_rfl
theorem und_bool:Tryz.prog.underlying 4=some .bool:=by kernel_rfl
theorem und_string:Tryz.prog.underlying 9=some .string:=by kernel_rfl
theorem row_get {cs:List Value} {j:Nat} {v:Value} (h:(cs.drop j).take 1=[v]):cs[j]?=some v:=by
 have:=congrArg (·[0]?) h
 simpa [List.getElem?_take,List.getElem?_drop] using this
def Wd (n:Int):Prop:=-9223372036854775808≤n∧n≤9223372036854775807
theorem u16_bd {n:Int} (h:(Lit.int .u16 n).wf=true):0≤n∧n≤65535:=by
 simpa [Lit.wf,IntKind.min,IntKind.max,IntKind.signed,IntKind.bits] using h
section
variable {H:Type} {enc:TypeId × Value→H} {w:World} {cs:List Value} {j:Nat}
theorem RdW.cap {P:Program} {t e:TypeId} {A:Option Addr} {n c:Nat} (h:RdW enc P w t [.slice A n c]) (ht:P.underlying t=some (.slice e)):n≤c:=by
 obtain ⟨fuel,d,ps,h,_⟩:=h
 cases fuel with
 | zero=>simp [DataW.trod] at h
 | succ m =>
  unfold DataW.trod at h
  rw [ht] at h
  cases A with
  | none=>cases n <;> cases c <;> simp_all
  | some a =>
   simp at h
   omega
theorem rwInt (h:RdW enc Tryz.prog w 3 ((cs.drop j).take (Tryz.prog.cellsOf 3))):∃ n,cs[j]?=some (.int .i64 n)∧Wd n:=by
 rw [cells_int] at h
 obtain ⟨n,e,hw⟩:=h.rd.int und_int
 exact ⟨n,row_get e,i64_bd hw⟩
theorem rwBool (h:RdW enc Tryz.prog w 4 ((cs.drop j).take (Tryz.prog.cellsOf 4))):∃ n,cs[j]?=some (.bool n):=by
 rw [cells_bool] at h
 obtain ⟨n,e⟩:=h.rd.bool und_bool
 exact ⟨n,row_get e⟩
theorem rwString (h:RdW enc Tryz.prog w 9 ((cs.drop j).take (Tryz.prog.cellsOf 9))):∃ n,cs[j]?=some (.string n):=by
 rw [cells_string] at h
 obtain ⟨n,e,_⟩:=h.rd.string und_string
 exact ⟨n,row_get e⟩
theorem rwInts (h:RdW enc Tryz.prog w 48 cs):∃ (A:Option Addr) (c:Nat) (l:List Int),cs=[.slice A l.length c]∧IntsAt w w.heap.size A l∧(∀ n ∈ l,Wd n):=by
 obtain ⟨A,c,l,e,hq,hs,_⟩:=h.list (fun (n:Int) _=>Value.int .i64 n) Wd 0 (e:=3) (by kernel_rfl) cells_int (by omega) (fun l hl hr=>by
  obtain ⟨n,e,hw⟩:=hr.rd.int und_int
  refine ⟨n,i64_bd hw,fun j hj=>?_⟩
  obtain rfl:j=0:=by omega
  rw [e];rfl)
 exact ⟨A,c,l,e,hs,hq⟩
theorem und_craftS:Tryz.prog.underlying 46=some (.struct (structOf Tryz.prog 46)):=by kernel_rfl
theorem und_padS:Tryz.prog.underlying 61=some (.struct (structOf Tryz.prog 61)):=by kernel_rfl
theorem und_cargoS:Tryz.prog.underlying 54=some (.struct (structOf Tryz.prog 54)):=by kernel_rfl
theorem und_launchS:Tryz.prog.underlying 52=some (.struct (structOf Tryz.prog 52)):=by kernel_rfl
theorem und_campS:Tryz.prog.underlying 26=some (.struct (structOf Tryz.prog 26)):=by kernel_rfl
theorem rwCraft (h:RdW enc Tryz.prog w 46 cs):∃ y:CraftD,True∧∀ j,j<4→cs[j]?=some (craftC y j):=by
 obtain ⟨_,h2⟩:=h.fields (l:=[(9,0),(3,1),(3,2),(3,3)]) und_craftS (by kernel_rfl)
 obtain ⟨a,e0⟩:=rwString (h2 (9,0) (by simp))
 obtain ⟨b,e1,_⟩:=rwInt (h2 (3,1) (by simp))
 obtain ⟨c,e2,_⟩:=rwInt (h2 (3,2) (by simp))
 obtain ⟨d,e3,_⟩:=rwInt (h2 (3,3) (by simp))
 refine ⟨⟨a,b,c,d⟩,trivial,fun j hj=>?_⟩
 match j,hj with
 | 0,_=>exact e0
 | 1,_=>exact e1
 | 2,_=>exact e2
 | 3,_=>exact e3
def pad1C (y:Option Addr × Nat × PadD) (j:Nat):Value:=padC y.2.2 y.1 y.2.1 j
theorem cells_ints:Tryz.prog.cellsOf 48=1:=by kernel_rfl
theorem rwPad (h:RdW enc Tryz.prog w 61 cs):∃ y:Option Addr × Nat × PadD,IntsAt w w.heap.size y.1 y.2.2.takes∧∀ j,j<3→cs[j]?=some (pad1C y j):=by
 obtain ⟨_,h2⟩:=h.fields (l:=[(9,0),(3,1),(48,2)]) und_padS (by kernel_rfl)
 obtain ⟨a,e0⟩:=rwString (h2 (9,0) (by simp))
 obtain ⟨b,e1,_⟩:=rwInt (h2 (3,1) (by simp))
 obtain ⟨A,n,l,e2,hl,_⟩:=rwInts (h2 (48,2) (by simp))
 rw [cells_ints] at e2
 refine ⟨⟨A,n,⟨a,b,l⟩⟩,hl,fun j hj=>?_⟩
 match j,hj with
 | 0,_=>exact e0
 | 1,_=>exact e1
 | 2,_=>exact row_get e2
theorem rwCargo (h:RdW enc Tryz.prog w 54 cs):∃ y:CargoD,True∧∀ j,j<6→cs[j]?=some (cargoC y j):=by
 obtain ⟨_,h2⟩:=h.fields (l:=[(9,0),(3,1),(3,2),(3,3),(3,4),(4,5)]) und_cargoS (by kernel_rfl)
 obtain ⟨a,e0⟩:=rwString (h2 (9,0) (by simp))
 obtain ⟨b,e1,_⟩:=rwInt (h2 (3,1) (by simp))
 obtain ⟨c,e2,_⟩:=rwInt (h2 (3,2) (by simp))
 obtain ⟨d,e3,_⟩:=rwInt (h2 (3,3) (by simp))
 obtain ⟨f,e4,_⟩:=rwInt (h2 (3,4) (by simp))
 obtain ⟨g,e5⟩:=rwBool (h2 (4,5) (by simp))
 refine ⟨⟨a,b,c,d,f,g⟩,trivial,fun j hj=>?_⟩
 match j,hj with
 | 0,_=>exact e0
 | 1,_=>exact e1
 | 2,_=>exact e2
 | 3,_=>exact e3
 | 4,_=>exact e4
 | 5,_=>exact e5
def launch1C (y:Option Addr × Nat × LaunchD) (j:Nat):Value:=launchR y.2.2 y.1 y.2.1 j
theorem rwLaunch (h:RdW enc Tryz.prog w 52 cs):∃ y:Option Addr × Nat × LaunchD,IntsAt w w.heap.size y.1 y.2.2.cargos∧∀ j,j<4→cs[j]?=some (launch1C y j):=by
 obtain ⟨_,h2⟩:=h.fields (l:=[(3,0),(3,1),(3,2),(48,3)]) und_launchS (by kernel_rfl)
 obtain ⟨a,e0,_⟩:=rwInt (h2 (3,0) (by simp))
 obtain ⟨b,e1,_⟩:=rwInt (h2 (3,1) (by simp))
 obtain ⟨c,e2,_⟩:=rwInt (h2 (3,2) (by simp))
 obtain ⟨A,n,l,e3,hl,_⟩:=rwInts (h2 (48,3) (by simp))
 rw [cells_ints] at e3
 refine ⟨⟨A,n,⟨a,b,c,l⟩⟩,hl,fun j hj=>?_⟩
 match j,hj with
 | 0,_=>exact e0
 | 1,_=>exact e1
 | 2,_=>exact e2
 | 3,_=>exact row_get e3
theorem map_getD {α β:Type} (l:List α) (f:α→β) (i:Nat) (a:α) (b:β) (hi:i<l.length):(l.map f).getD i b=f (l.getD i a):=by
 rw [List.getD_eq_getElem?_getD,List.getD_eq_getElem?_getD]
 simp [hi]
theorem getD_mem {α:Type} {l:List α} {i:Nat} {a:α} (hi:i<l.length):l.getD i a ∈ l:=by
 rw [List.getD_eq_getElem?_getD,List.getElem?_eq_getElem hi];exact List.getElem_mem hi
theorem rwPlan (h:RdW enc Tryz.prog w 27 cs):∃ (A:Option Addr) (c:Nat) (l:List LaunchD),cs=[.slice A l.length c]∧PlanAt w w.heap.size A l:=by
 obtain ⟨A,c,l,e,hq,hs,_⟩:=h.list launch1C (fun y=>IntsAt w w.heap.size y.1 y.2.2.cargos) (none,0,launch0) (e:=52) (by kernel_rfl) (k:=4) (by kernel_rfl) (by omega) (fun l _ hr=>rwLaunch hr)
 refine ⟨A,c,l.map (·.2.2),by rw [List.length_map];exact e,⟨⟨fun i=>(l.getD i (none,0,launch0)).1,fun i=>(l.getD i (none,0,launch0)).2.1,?_,fun i hi=>?_⟩⟩⟩
 ·rw [List.length_map]
  refine Sl.congr hs fun i hi j hj=>?_
  show launch1C _ j=launchR _ _ _ j
  unfold launch1C
  rw [map_getD l (·.2.2) i (none,0,launch0) launch0 hi]
 ·rw [List.length_map] at hi
  rw [map_getD l (·.2.2) i (none,0,launch0) launch0 hi]
  exact hq _ (getD_mem hi)
end
section
variable {H:Type} {enc:TypeId × Value→H} {P:Program} {w:World} {t e:TypeId} {base:Nat} {v:Value} {cs:List Value}
theorem okWide_str {fs:Array Field} (hu:P.underlying t=some (.struct fs)) (h:Value.okWide P w .any base t v):∃ cs,v=.agg cs:=by
 simp only [Value.okWide,hu] at h
 obtain ⟨cs,rfl,_⟩:=h
 exact ⟨cs,rfl⟩
theorem okWide_sl (hu:P.underlying t=some (.slice e)) (h:Value.okWide P w .any base t v) (u:Value) (hc:v.cells.toList=[u]):v=u:=by
 simp only [Value.okWide,hu,Cell.okWide] at h
 cases v <;> simp [Value.cells] at hc <;> first | exact hc | (simp [Cell.ok,hu] at h)
theorem okWide_int {k:IntKind} (hu:P.underlying t=some (.int k)) (h:Value.okWide P w .any base t v) (u:Value) (hc:v.cells.toList=[u]):v=u:=by
 simp only [Value.okWide,hu,Cell.okWide] at h
 cases v <;> simp [Value.cells] at hc <;> first | exact hc | (simp [Cell.ok,hu] at h)
theorem RdW.array2 {n:Nat} (h:RdW enc P w t cs) (ht:P.underlying t=some (.array n e)):cs.length=P.cellsOf t∧∀ i,i<n→Rd enc P w e ((cs.drop (i * P.cellsOf e)).take (P.cellsOf e)):=h.rd.array ht
end
theorem ownKnobL:ownKnob Tryz.prog.godebug=none:=by kernel_rfl
theorem toList4 {cs:Array Value} {a b c d:Value} (h0:cs.toList.length=4) (e0:cs.toList[0]?=some a) (e1:cs.toList[1]?=some b) (e2:cs.toList[2]?=some c) (e3:cs.toList[3]?=some d):cs=#[a,b,c,d]:=by
 obtain ⟨l⟩:=cs
 simp only at h0 e0 e1 e2 e3
 match l,h0 with
 | [x0,x1,x2,x3],_=>simp at e0 e1 e2 e3;subst e0;subst e1;subst e2;subst e3;rfl
theorem toList3 {cs:Array Value} {a b c:Value} (h0:cs.toList.length=3) (e0:cs.toList[0]?=some a) (e1:cs.toList[1]?=some b) (e2:cs.toList[2]?=some c):cs=#[a,b,c]:=by
 obtain ⟨l⟩:=cs
 simp only at h0 e0 e1 e2
 match l,h0 with
 | [x0,x1,x2],_=>simp at e0 e1 e2;subst e0;subst e1;subst e2;rfl
theorem toList2 {cs:Array Value} {a b:Value} (h0:cs.toList.length=2) (e0:cs.toList[0]?=some a) (e1:cs.toList[1]?=some b):cs=#[a,b]:=by
 obtain ⟨l⟩:=cs
 simp only at h0 e0 e1
 match l,h0 with
 | [x0,x1],_=>simp at e0 e1;subst e0;subst e1;rfl
section
variable {H:Type} {enc:TypeId × Value→H} {w:World} {base:Nat} {v:Value}
set_option maxRecDepth 100000 in
theorem arg_int (ho:Value.okWide Tryz.prog w .any base 3 v) (h:RdW enc Tryz.prog w 3 v.cells.toList):∃ a:Int,v=.int .i64 a∧Wd a:=by
 obtain ⟨n,e,hw⟩:=h.rd.int und_int
 exact ⟨n,okWide_int (P:=Tryz.prog) (t:=3) und_int ho _ e,i64_bd hw⟩
set_option maxRecDepth 100000 in
theorem arg_int2 (ho:Value.okWide Tryz.prog w .any base 55 v) (h:RdW enc Tryz.prog w 55 v.cells.toList) :
  ∃ a b:Int,v=.agg #[.int .i64 a,.int .i64 b]∧Wd a∧Wd b:=by
 obtain ⟨cs,rfl⟩:=okWide_arr (P:=Tryz.prog) Tryz.underlying55 ho
 obtain ⟨h1,h2⟩:=h.array2 (e:=3) (n:=2) (by kernel_rfl)
 rw [show Tryz.prog.cellsOf 55=2 from by kernel_rfl] at h1
 obtain ⟨a,e0,ha⟩:=(h2 0 (by omega)).int und_int
 obtain ⟨b,e1,hb⟩:=(h2 1 (by omega)).int und_int
 rw [cells_int] at e0 e1
 exact ⟨a,b,congrArg Value.agg (toList2 (cs:=cs) h1 (row_get (j:=0) e0) (row_get (j:=1) e1)),i64_bd ha,i64_bd hb⟩
set_option maxRecDepth 100000 in
theorem arg_int3 (ho:Value.okWide Tryz.prog w .any base 58 v) (h:RdW enc Tryz.prog w 58 v.cells.toList) :
  ∃ a b c:Int,v=.agg #[.int .i64 a,.int .i64 b,.int .i64 c]∧Wd a∧Wd b∧Wd c:=by
 obtain ⟨cs,rfl⟩:=okWide_arr (P:=Tryz.prog) Tryz.underlying58 ho
 obtain ⟨h1,h2⟩:=h.array2 (e:=3) (n:=3) (by kernel_rfl)
 rw [show Tryz.prog.cellsOf 58=3 from by kernel_rfl] at h1
 obtain ⟨a,e0,ha⟩:=(h2 0 (by omega)).int und_int
 obtain ⟨b,e1,hb⟩:=(h2 1 (by omega)).int und_int
 obtain ⟨c,e2,hc⟩:=(h2 2 (by omega)).int und_int
 rw [cells_int] at e0 e1 e2
 exact ⟨a,b,c,congrArg Value.agg (toList3 (cs:=cs) h1 (row_get (j:=0) e0) (row_get (j:=1) e1) (row_get (j:=2) e2)),i64_bd ha,i64_bd hb,i64_bd hc⟩
set_option maxRecDepth 100000 in
theorem arg_u3 (ho:Value.okWide Tryz.prog w .any base 44 v) (h:RdW enc Tryz.prog w 44 v.cells.toList) :
  ∃ a b c:Int,v=.agg #[.int .u16 a,.int .u16 b,.int .u16 c]∧(0≤a∧a≤65535)∧(0≤b∧b≤65535)∧(0≤c∧c≤65535):=by
 obtain ⟨cs,rfl⟩:=okWide_arr (P:=Tryz.prog) Tryz.underlying44 ho
 obtain ⟨h1,h2⟩:=h.array2 (e:=43) (n:=3) (by kernel_rfl)
 rw [show Tryz.prog.cellsOf 44=3 from by kernel_rfl] at h1
 obtain ⟨a,e0,ha⟩:=(h2 0 (by omega)).int und_u16
 obtain ⟨b,e1,hb⟩:=(h2 1 (by omega)).int und_u16
 obtain ⟨c,e2,hc⟩:=(h2 2 (by omega)).int und_u16
 rw [cells_u16] at e0 e1 e2
 exact ⟨a,b,c,congrArg Value.agg (toList3 (cs:=cs) h1 (row_get (j:=0) e0) (row_get (j:=1) e1) (row_get (j:=2) e2)),u16_bd ha,u16_bd hb,u16_bd hc⟩
set_option maxRecDepth 100000 in
theorem arg_camp (ho:Value.okWide Tryz.prog w .any base 26 v) (h:RdW enc Tryz.prog w 26 v.cells.toList) :
  ∃ (V:CV) (c:CampD),v=.agg (campA V c)∧CampAt w w.heap.size V c:=by
 obtain ⟨cs,rfl⟩:=okWide_str (P:=Tryz.prog) (t:=26) und_campS ho
 obtain ⟨h1,h2⟩:=h.fields (l:=[(22,0),(23,1),(24,2),(3,3)]) und_campS (by kernel_rfl)
 rw [show Tryz.prog.cellsOf 26=4 from by kernel_rfl] at h1
 obtain ⟨cA,cc,lc,e0,_,hcs,_⟩:=(h2 (22,0) (by simp)).list craftC (fun _=>True) craft0 (e:=46) (by kernel_rfl) (k:=4) (by kernel_rfl) (by omega) (fun l _ hr=>rwCraft hr)
 obtain ⟨pA,pc,lp,e1,hpq,hps,_⟩:=(h2 (23,1) (by simp)).list pad1C (fun y=>IntsAt w w.heap.size y.1 y.2.2.takes) (none,0,pad0) (e:=61) (by kernel_rfl) (k:=3) (by kernel_rfl) (by omega) (fun l _ hr=>rwPad hr)
 obtain ⟨gA,gc,lg,e2,_,hgs,_⟩:=(h2 (24,2) (by simp)).list cargoC (fun _=>True) cargo0 (e:=54) (by kernel_rfl) (k:=6) (by kernel_rfl) (by omega) (fun l _ hr=>rwCargo hr)
 obtain ⟨mg,e3,_⟩:=rwInt (h2 (3,3) (by simp))
 rw [show Tryz.prog.cellsOf 22=1 from by kernel_rfl] at e0
 rw [show Tryz.prog.cellsOf 23=1 from by kernel_rfl] at e1
 rw [show Tryz.prog.cellsOf 24=1 from by kernel_rfl] at e2
 refine ⟨⟨cA,cc,pA,pc,gA,gc,fun i=>(lp.getD i (none,0,pad0)).1,fun i=>(lp.getD i (none,0,pad0)).2.1⟩,⟨lc,lp.map (·.2.2),lg,mg⟩,congrArg Value.agg ?_,⟨hcs,?_,hgs,fun i hi=>?_⟩⟩
 ·refine (toList4 (cs:=cs) h1 (row_get e0) (row_get e1) (row_get e2) e3).trans ?_
  unfold campA
  simp
 ·show Sl w w.heap.size 3 pA (lp.map (·.2.2)).length _
  rw [List.length_map]
  refine Sl.congr hps fun i hi j hj=>?_
  show pad1C _ j=padC (CampD.padN ⟨lc,lp.map (·.2.2),lg,mg⟩ i) _ _ j
  unfold pad1C CampD.padN
  dsimp only
  rw [map_getD lp (·.2.2) i (none,0,pad0) pad0 hi]
 ·have hi2:i<lp.length:=by simpa using hi
  show IntsAt w w.heap.size _ (CampD.padN ⟨lc,lp.map (·.2.2),lg,mg⟩ i).takes
  unfold CampD.padN
  dsimp only
  rw [map_getD lp (·.2.2) i (none,0,pad0) pad0 hi2]
  exact hpq _ (getD_mem hi2)
set_option maxRecDepth 100000 in
theorem arg_plan (ho:Value.okWide Tryz.prog w .any base 27 v) (h:RdW enc Tryz.prog w 27 v.cells.toList) :
  ∃ (A:Option Addr) (c:Nat) (l:List LaunchD),v=.slice A l.length c∧PlanAt w w.heap.size A l∧l.length≤c:=by
 obtain ⟨A,c,l,e,hs⟩:=rwPlan h
 have hc:l.length≤c:=RdW.cap (t:=27) (e:=52) (by rw [← e];exact h) (by kernel_rfl)
 exact ⟨A,c,l,okWide_sl (P:=Tryz.prog) (t:=27) (e:=52) (by kernel_rfl) ho _ e,hs,hc⟩
end
end Go.Proofs.YtcnjenlojnognaaGreat
/- What is proved: contracts of the document's Great and Long, and of the law's small. Conditions: the campaign and the plan lie in memory. -/
namespace Go.Proofs.YtcnjenlojnognaaGreat
open Go.RowKit

/-- A call that says yes or no, and makes only memory. -/
def AnyB (w:World) (e:Ending) (w':World):Prop:=∃ b,e=.returned (.bool b)∧Below w.heap.size w w'
set_option maxRecDepth 100000 in
set_option maxHeartbeats 16000000 in
theorem great_any (w:World) (V:CV) (c:CampD) (h:CampAt w w.heap.size V c) :
  Calls Tryz.prog 13 #[.agg (campA V c)] w (AnyB w):=by
 obtain ⟨qb,hqb⟩:∃ qb,w.heap.size=qb:=⟨_,rfl⟩
 obtain ⟨W0,hW0⟩:∃ W0,w.alloc (.cells (campA V c) 26)=W0:=⟨_,rfl⟩
 have hb0:Below w.heap.size w W0:=by rw [← hW0];exact (Below.refl _ w).alloc (Nat.le_refl _) _
 have HB0:Hid (Below qb w W0):=Lib.hid (by rw [← hqb];exact hb0)
 have HKC:Hid (Bk W0 qb 26 (campA V c)):=Lib.hid (by rw [← hW0,← hqb];exact Bk.new _ _ _)
 have HSZ:Hid (qb≤W0.heap.size):=Lib.hid (by have:=HKC.out.lt;omega)
 have HCA:=Lib.hid (h.later hb0)
 obtain ⟨PQ,hPQ⟩:∃ Q,AnyB w=Q:=⟨_,rfl⟩
 have HFIN:Hid (∀ b w',Below W0.heap.size W0 w'→PQ (.returned (.bool b)) w'):=Lib.hid fun b w' hb=>by rw [← hPQ];exact ⟨b,rfl,by rw [hqb];exact HB0.out.trans (hb.mono HSZ.out)⟩
 have l1:=h.crafts.1
 have l2:=h.pads.1
 have l3:=h.cargos.1
 obtain ⟨nc,hnc⟩:∃ n,c.crafts.length=n:=⟨_,rfl⟩
 obtain ⟨np,hnp⟩:∃ n,c.pads.length=n:=⟨_,rfl⟩
 obtain ⟨ng,hng⟩:∃ n,c.cargos.length=n:=⟨_,rfl⟩
 have HN:=Lib.hid (And.intro hnc (And.intro hnp hng))
 have HC:Hid (∀ w1,Below W0.heap.size W0 w1→w1.cell? ⟨qb,0,none⟩=some (.slice V.cA nc V.cc)∧w1.cell? ⟨qb,1,none⟩=some (.slice V.pA np V.pc)∧w1.cell? ⟨qb,2,none⟩=some (.slice V.gA ng V.gc)):=Lib.hid fun w1 hb=>by
  have k1:=HKC.out.below hb HKC.out.lt
  rw [← hnc,← hnp,← hng]
  exact ⟨k1.cell 0,k1.cell 1,k1.cell 2⟩
 rw [hnc] at l1
 rw [hnp] at l2
 rw [hng] at l3
 rw [hPQ]
 clear h hb0 hPQ hnc hnp hng
 simp only [campA] at hW0 ⊢
 go_enter Tryz.func13,Tryz.ntmps13
 go_upto_region 1 with (fail)
 clear hW0 hqb
 go_wp2_with fail
 go_loopw [3,4] (fun v i wr=>Hid (Below W0.heap.size W0 wr)∧∃ (k:Nat) (x:Int),k≤nc∧k≤9∧i=.int .i64 k∧v=.int .i64 x) (fun _ i _=>nc - (intOf i).toNat)
 case atStart=>exact ⟨Lib.hid (Below.refl _ _),0,0,Nat.zero_le _,Nat.zero_le _,rfl,rfl⟩
 case round =>
  obtain ⟨wo,rfl⟩:∃ wo:World,wo=wr:=⟨_,rfl⟩
  obtain ⟨HB,k,x,hk,hk9,rfl,rfl⟩:=hrel
  have h0k:(0:Int)≤(k:Int):=by omega
  obtain ⟨c0,c1,c2⟩:=HC.out wo HB.out
  by_cases hlt:k<nc
  case pos =>
   have hki:(k:Int)<(nc:Int):=by omega
   by_cases hl9:k<9
   case pos =>
    have hl9i:(k:Int)<9:=by omega
    obtain ⟨gb,go,hga,hgb,g0,_⟩:=Sl.at4 (HCA.out.later HB.out).crafts (i:=k) (by rw [HN.out.1];exact hlt)
    rw [hga] at c0
    dsimp only [craftC] at g0
    clear hga c1 c2
    go_wp2_with fail
    go_roundw
    case rel=>first | exact ⟨(by first | exact HB | exact Lib.hid (below_drewN HB.out _)),k+1,_,by omega,by omega,by go_num,rfl⟩ | ((repeat apply Exists.intro);exact ⟨⟨(by first | exact HB | exact Lib.hid (below_drewN HB.out _)),k+1,_,by omega,by omega,by go_num,rfl⟩,rfl⟩)
    case measure=>simp [intOf];omega
   case neg =>
    have hl9i:¬ (k:Int)<9:=by omega
    go_wp2_with fail
    go_loopw [3,5] (fun v i wr=>Hid (Below W0.heap.size W0 wr)∧∃ (k:Nat) (x:Int),k≤np∧k≤9∧i=.int .i64 k∧v=.int .i64 x) (fun _ i _=>np - (intOf i).toNat)
    case atStart=>exact ⟨HB,0,x,Nat.zero_le _,Nat.zero_le _,rfl,rfl⟩
    case round =>
     obtain ⟨wo,rfl⟩:∃ wo:World,wo=wr:=⟨_,rfl⟩
     obtain ⟨HB,k,x,hk,hk9,rfl,rfl⟩:=hrel
     have h0k:(0:Int)≤(k:Int):=by omega
     obtain ⟨c0,c1,c2⟩:=HC.out wo HB.out
     by_cases hlt:k<np
     case pos =>
      have hki:(k:Int)<(np:Int):=by omega
      by_cases hl9:k<9
      case pos =>
       have hl9i:(k:Int)<9:=by omega
       obtain ⟨gb,go,hga,hgb,g0,_,g2⟩:=Sl.at3 (HCA.out.later HB.out).pads (i:=k) (by rw [HN.out.2.1];exact hlt)
       rw [hga] at c1
       dsimp only [padC] at g0 g2
       clear hga c0 c2
       go_wp2_with fail
       go_quiet (fail)
       go_wp2_with fail
       go_roundw
       case rel=>first | exact ⟨(by first | exact HB | exact Lib.hid (below_drewN HB.out _)),k+1,_,by omega,by omega,by go_num,rfl⟩ | ((repeat apply Exists.intro);exact ⟨⟨(by first | exact HB | exact Lib.hid (below_drewN HB.out _)),k+1,_,by omega,by omega,by go_num,rfl⟩,rfl⟩)
       case measure=>simp [intOf];omega
      case neg =>
       have hl9i:¬ (k:Int)<9:=by omega
       go_wp2_with fail
       go_loopw [3,6] (fun v i wr=>Hid (Below W0.heap.size W0 wr)∧∃ (k:Nat) (x:Int),k≤ng∧k≤9∧i=.int .i64 k∧v=.int .i64 x) (fun _ i _=>ng - (intOf i).toNat)
       case atStart=>exact ⟨HB,0,x,Nat.zero_le _,Nat.zero_le _,rfl,rfl⟩
       case round =>
        obtain ⟨wo,rfl⟩:∃ wo:World,wo=wr:=⟨_,rfl⟩
        obtain ⟨HB,k,x,hk,hk9,rfl,rfl⟩:=hrel
        have h0k:(0:Int)≤(k:Int):=by omega
        obtain ⟨c0,c1,c2⟩:=HC.out wo HB.out
        by_cases hlt:k<ng
        case pos =>
         have hki:(k:Int)<(ng:Int):=by omega
         by_cases hl9:k<9
         case pos =>
          have hl9i:(k:Int)<9:=by omega
          obtain ⟨gb,go,hga,hgb,g0,_⟩:=Sl.at6 (HCA.out.later HB.out).cargos (i:=k) (by rw [HN.out.2.2];exact hlt)
          rw [hga] at c2
          dsimp only [cargoC] at g0
          clear hga c0 c1
          go_wp2_with fail
          go_roundw
          case rel=>first | exact ⟨HB,k+1,_,by omega,by omega,by go_num,rfl⟩ | ((repeat apply Exists.intro);exact ⟨⟨HB,k+1,_,by omega,by omega,by go_num,rfl⟩,rfl⟩)
          case measure=>simp [intOf];omega
         case neg =>
          have hl9i:¬ (k:Int)<9:=by omega
          go_wp2_with fail
          by_cases q1:9<nc
          case pos =>
           have q1i:(9:Int)<(nc:Int):=by omega
           go_wp2_with fail
           first | exact HFIN.out _ _ HB.out | (go_ret;exact HFIN.out _ _ HB.out)
          case neg =>
           have q1i:¬ (9:Int)<(nc:Int):=by omega
           by_cases q2:9<np
           case pos =>
            have q2i:(9:Int)<(np:Int):=by omega
            go_wp2_with fail
            first | exact HFIN.out _ _ HB.out | (go_ret;exact HFIN.out _ _ HB.out)
           case neg =>
            have q2i:¬ (9:Int)<(np:Int):=by omega
            by_cases q3:9<ng
            case pos =>
             have q3i:(9:Int)<(ng:Int):=by omega
             go_wp2_with fail
             first | exact HFIN.out _ _ HB.out | (go_ret;exact HFIN.out _ _ HB.out)
            case neg =>
             have q3i:¬ (9:Int)<(ng:Int):=by omega
             go_wp2_with fail
             first | exact HFIN.out _ _ HB.out | (go_ret;exact HFIN.out _ _ HB.out)
        case neg =>
         have hki:¬ (k:Int)<(ng:Int):=by omega
         go_wp2_with fail
         by_cases q1:9<nc
         case pos =>
          have q1i:(9:Int)<(nc:Int):=by omega
          go_wp2_with fail
          first | exact HFIN.out _ _ HB.out | (go_ret;exact HFIN.out _ _ HB.out)
         case neg =>
          have q1i:¬ (9:Int)<(nc:Int):=by omega
          by_cases q2:9<np
          case pos =>
           have q2i:(9:Int)<(np:Int):=by omega
           go_wp2_with fail
           first | exact HFIN.out _ _ HB.out | (go_ret;exact HFIN.out _ _ HB.out)
          case neg =>
           have q2i:¬ (9:Int)<(np:Int):=by omega
           by_cases q3:9<ng
           case pos =>
            have q3i:(9:Int)<(ng:Int):=by omega
            go_wp2_with fail
            first | exact HFIN.out _ _ HB.out | (go_ret;exact HFIN.out _ _ HB.out)
           case neg =>
            have q3i:¬ (9:Int)<(ng:Int):=by omega
            go_wp2_with fail
            first | exact HFIN.out _ _ HB.out | (go_ret;exact HFIN.out _ _ HB.out)
     case neg =>
      have hki:¬ (k:Int)<(np:Int):=by omega
      go_wp2_with fail
      go_loopw [3,6] (fun v i wr=>Hid (Below W0.heap.size W0 wr)∧∃ (k:Nat) (x:Int),k≤ng∧k≤9∧i=.int .i64 k∧v=.int .i64 x) (fun _ i _=>ng - (intOf i).toNat)
      case atStart=>exact ⟨HB,0,x,Nat.zero_le _,Nat.zero_le _,rfl,rfl⟩
      case round =>
       obtain ⟨wo,rfl⟩:∃ wo:World,wo=wr:=⟨_,rfl⟩
       obtain ⟨HB,k,x,hk,hk9,rfl,rfl⟩:=hrel
       have h0k:(0:Int)≤(k:Int):=by omega
       obtain ⟨c0,c1,c2⟩:=HC.out wo HB.out
       by_cases hlt:k<ng
       case pos =>
        have hki:(k:Int)<(ng:Int):=by omega
        by_cases hl9:k<9
        case pos =>
         have hl9i:(k:Int)<9:=by omega
         obtain ⟨gb,go,hga,hgb,g0,_⟩:=Sl.at6 (HCA.out.later HB.out).cargos (i:=k) (by rw [HN.out.2.2];exact hlt)
         rw [hga] at c2
         dsimp only [cargoC] at g0
         clear hga c0 c1
         go_wp2_with fail
         go_roundw
         case rel=>first | exact ⟨HB,k+1,_,by omega,by omega,by go_num,rfl⟩ | ((repeat apply Exists.intro);exact ⟨⟨HB,k+1,_,by omega,by omega,by go_num,rfl⟩,rfl⟩)
         case measure=>simp [intOf];omega
        case neg =>
         have hl9i:¬ (k:Int)<9:=by omega
         go_wp2_with fail
         by_cases q1:9<nc
         case pos =>
          have q1i:(9:Int)<(nc:Int):=by omega
          go_wp2_with fail
          first | exact HFIN.out _ _ HB.out | (go_ret;exact HFIN.out _ _ HB.out)
         case neg =>
          have q1i:¬ (9:Int)<(nc:Int):=by omega
          by_cases q2:9<np
          case pos =>
           have q2i:(9:Int)<(np:Int):=by omega
           go_wp2_with fail
           first | exact HFIN.out _ _ HB.out | (go_ret;exact HFIN.out _ _ HB.out)
          case neg =>
           have q2i:¬ (9:Int)<(np:Int):=by omega
           by_cases q3:9<ng
           case pos =>
            have q3i:(9:Int)<(ng:Int):=by omega
            go_wp2_with fail
            first | exact HFIN.out _ _ HB.out | (go_ret;exact HFIN.out _ _ HB.out)
           case neg =>
            have q3i:¬ (9:Int)<(ng:Int):=by omega
            go_wp2_with fail
            first | exact HFIN.out _ _ HB.out | (go_ret;exact HFIN.out _ _ HB.out)
       case neg =>
        have hki:¬ (k:Int)<(ng:Int):=by omega
        go_wp2_with fail
        by_cases q1:9<nc
        case pos =>
         have q1i:(9:Int)<(nc:Int):=by omega
         go_wp2_with fail
         first | exact HFIN.out _ _ HB.out | (go_ret;exact HFIN.out _ _ HB.out)
        case neg =>
         have q1i:¬ (9:Int)<(nc:Int):=by omega
         by_cases q2:9<np
         case pos =>
          have q2i:(9:Int)<(np:Int):=by omega
          go_wp2_with fail
          first | exact HFIN.out _ _ HB.out | (go_ret;exact HFIN.out _ _ HB.out)
         case neg =>
          have q2i:¬ (9:Int)<(np:Int):=by omega
          by_cases q3:9<ng
          case pos =>
           have q3i:(9:Int)<(ng:Int):=by omega
           go_wp2_with fail
           first | exact HFIN.out _ _ HB.out | (go_ret;exact HFIN.out _ _ HB.out)
          case neg =>
           have q3i:¬ (9:Int)<(ng:Int):=by omega
           go_wp2_with fail
           first | exact HFIN.out _ _ HB.out | (go_ret;exact HFIN.out _ _ HB.out)
  case neg =>
   have hki:¬ (k:Int)<(nc:Int):=by omega
   go_wp2_with fail
   go_loopw [3,5] (fun v i wr=>Hid (Below W0.heap.size W0 wr)∧∃ (k:Nat) (x:Int),k≤np∧k≤9∧i=.int .i64 k∧v=.int .i64 x) (fun _ i _=>np - (intOf i).toNat)
   case atStart=>exact ⟨HB,0,x,Nat.zero_le _,Nat.zero_le _,rfl,rfl⟩
   case round =>
    obtain ⟨wo,rfl⟩:∃ wo:World,wo=wr:=⟨_,rfl⟩
    obtain ⟨HB,k,x,hk,hk9,rfl,rfl⟩:=hrel
    have h0k:(0:Int)≤(k:Int):=by omega
    obtain ⟨c0,c1,c2⟩:=HC.out wo HB.out
    by_cases hlt:k<np
    case pos =>
     have hki:(k:Int)<(np:Int):=by omega
     by_cases hl9:k<9
     case pos =>
      have hl9i:(k:Int)<9:=by omega
      obtain ⟨gb,go,hga,hgb,g0,_,g2⟩:=Sl.at3 (HCA.out.later HB.out).pads (i:=k) (by rw [HN.out.2.1];exact hlt)
      rw [hga] at c1
      dsimp only [padC] at g0 g2
      clear hga c0 c2
      go_wp2_with fail
      go_quiet (fail)
      go_wp2_with fail
      go_roundw
      case rel=>first | exact ⟨(by first | exact HB | exact Lib.hid (below_drewN HB.out _)),k+1,_,by omega,by omega,by go_num,rfl⟩ | ((repeat apply Exists.intro);exact ⟨⟨(by first | exact HB | exact Lib.hid (below_drewN HB.out _)),k+1,_,by omega,by omega,by go_num,rfl⟩,rfl⟩)
      case measure=>simp [intOf];omega
     case neg =>
      have hl9i:¬ (k:Int)<9:=by omega
      go_wp2_with fail
      go_loopw [3,6] (fun v i wr=>Hid (Below W0.heap.size W0 wr)∧∃ (k:Nat) (x:Int),k≤ng∧k≤9∧i=.int .i64 k∧v=.int .i64 x) (fun _ i _=>ng - (intOf i).toNat)
      case atStart=>exact ⟨HB,0,x,Nat.zero_le _,Nat.zero_le _,rfl,rfl⟩
      case round =>
       obtain ⟨wo,rfl⟩:∃ wo:World,wo=wr:=⟨_,rfl⟩
       obtain ⟨HB,k,x,hk,hk9,rfl,rfl⟩:=hrel
       have h0k:(0:Int)≤(k:Int):=by omega
       obtain ⟨c0,c1,c2⟩:=HC.out wo HB.out
       by_cases hlt:k<ng
       case pos =>
        have hki:(k:Int)<(ng:Int):=by omega
        by_cases hl9:k<9
        case pos =>
         have hl9i:(k:Int)<9:=by omega
         obtain ⟨gb,go,hga,hgb,g0,_⟩:=Sl.at6 (HCA.out.later HB.out).cargos (i:=k) (by rw [HN.out.2.2];exact hlt)
         rw [hga] at c2
         dsimp only [cargoC] at g0
         clear hga c0 c1
         go_wp2_with fail
         go_roundw
         case rel=>first | exact ⟨HB,k+1,_,by omega,by omega,by go_num,rfl⟩ | ((repeat apply Exists.intro);exact ⟨⟨HB,k+1,_,by omega,by omega,by go_num,rfl⟩,rfl⟩)
         case measure=>simp [intOf];omega
        case neg =>
         have hl9i:¬ (k:Int)<9:=by omega
         go_wp2_with fail
         by_cases q1:9<nc
         case pos =>
          have q1i:(9:Int)<(nc:Int):=by omega
          go_wp2_with fail
          first | exact HFIN.out _ _ HB.out | (go_ret;exact HFIN.out _ _ HB.out)
         case neg =>
          have q1i:¬ (9:Int)<(nc:Int):=by omega
          by_cases q2:9<np
          case pos =>
           have q2i:(9:Int)<(np:Int):=by omega
           go_wp2_with fail
           first | exact HFIN.out _ _ HB.out | (go_ret;exact HFIN.out _ _ HB.out)
          case neg =>
           have q2i:¬ (9:Int)<(np:Int):=by omega
           by_cases q3:9<ng
           case pos =>
            have q3i:(9:Int)<(ng:Int):=by omega
            go_wp2_with fail
            first | exact HFIN.out _ _ HB.out | (go_ret;exact HFIN.out _ _ HB.out)
           case neg =>
            have q3i:¬ (9:Int)<(ng:Int):=by omega
            go_wp2_with fail
            first | exact HFIN.out _ _ HB.out | (go_ret;exact HFIN.out _ _ HB.out)
       case neg =>
        have hki:¬ (k:Int)<(ng:Int):=by omega
        go_wp2_with fail
        by_cases q1:9<nc
        case pos =>
         have q1i:(9:Int)<(nc:Int):=by omega
         go_wp2_with fail
         first | exact HFIN.out _ _ HB.out | (go_ret;exact HFIN.out _ _ HB.out)
        case neg =>
         have q1i:¬ (9:Int)<(nc:Int):=by omega
         by_cases q2:9<np
         case pos =>
          have q2i:(9:Int)<(np:Int):=by omega
          go_wp2_with fail
          first | exact HFIN.out _ _ HB.out | (go_ret;exact HFIN.out _ _ HB.out)
         case neg =>
          have q2i:¬ (9:Int)<(np:Int):=by omega
          by_cases q3:9<ng
          case pos =>
           have q3i:(9:Int)<(ng:Int):=by omega
           go_wp2_with fail
           first | exact HFIN.out _ _ HB.out | (go_ret;exact HFIN.out _ _ HB.out)
          case neg =>
           have q3i:¬ (9:Int)<(ng:Int):=by omega
           go_wp2_with fail
           first | exact HFIN.out _ _ HB.out | (go_ret;exact HFIN.out _ _ HB.out)
    case neg =>
     have hki:¬ (k:Int)<(np:Int):=by omega
     go_wp2_with fail
     go_loopw [3,6] (fun v i wr=>Hid (Below W0.heap.size W0 wr)∧∃ (k:Nat) (x:Int),k≤ng∧k≤9∧i=.int .i64 k∧v=.int .i64 x) (fun _ i _=>ng - (intOf i).toNat)
     case atStart=>exact ⟨HB,0,x,Nat.zero_le _,Nat.zero_le _,rfl,rfl⟩
     case round =>
      obtain ⟨wo,rfl⟩:∃ wo:World,wo=wr:=⟨_,rfl⟩
      obtain ⟨HB,k,x,hk,hk9,rfl,rfl⟩:=hrel
      have h0k:(0:Int)≤(k:Int):=by omega
      obtain ⟨c0,c1,c2⟩:=HC.out wo HB.out
      by_cases hlt:k<ng
      case pos =>
       have hki:(k:Int)<(ng:Int):=by omega
       by_cases hl9:k<9
       case pos =>
        have hl9i:(k:Int)<9:=by omega
        obtain ⟨gb,go,hga,hgb,g0,_⟩:=Sl.at6 (HCA.out.later HB.out).cargos (i:=k) (by rw [HN.out.2.2];exact hlt)
        rw [hga] at c2
        dsimp only [cargoC] at g0
        clear hga c0 c1
        go_wp2_with fail
        go_roundw
        case rel=>first | exact ⟨HB,k+1,_,by omega,by omega,by go_num,rfl⟩ | ((repeat apply Exists.intro);exact ⟨⟨HB,k+1,_,by omega,by omega,by go_num,rfl⟩,rfl⟩)
        case measure=>simp [intOf];omega
       case neg =>
        have hl9i:¬ (k:Int)<9:=by omega
        go_wp2_with fail
        by_cases q1:9<nc
        case pos =>
         have q1i:(9:Int)<(nc:Int):=by omega
         go_wp2_with fail
         first | exact HFIN.out _ _ HB.out | (go_ret;exact HFIN.out _ _ HB.out)
        case neg =>
         have q1i:¬ (9:Int)<(nc:Int):=by omega
         by_cases q2:9<np
         case pos =>
          have q2i:(9:Int)<(np:Int):=by omega
          go_wp2_with fail
          first | exact HFIN.out _ _ HB.out | (go_ret;exact HFIN.out _ _ HB.out)
         case neg =>
          have q2i:¬ (9:Int)<(np:Int):=by omega
          by_cases q3:9<ng
          case pos =>
           have q3i:(9:Int)<(ng:Int):=by omega
           go_wp2_with fail
           first | exact HFIN.out _ _ HB.out | (go_ret;exact HFIN.out _ _ HB.out)
          case neg =>
           have q3i:¬ (9:Int)<(ng:Int):=by omega
           go_wp2_with fail
           first | exact HFIN.out _ _ HB.out | (go_ret;exact HFIN.out _ _ HB.out)
      case neg =>
       have hki:¬ (k:Int)<(ng:Int):=by omega
       go_wp2_with fail
       by_cases q1:9<nc
       case pos =>
        have q1i:(9:Int)<(nc:Int):=by omega
        go_wp2_with fail
        first | exact HFIN.out _ _ HB.out | (go_ret;exact HFIN.out _ _ HB.out)
       case neg =>
        have q1i:¬ (9:Int)<(nc:Int):=by omega
        by_cases q2:9<np
        case pos =>
         have q2i:(9:Int)<(np:Int):=by omega
         go_wp2_with fail
         first | exact HFIN.out _ _ HB.out | (go_ret;exact HFIN.out _ _ HB.out)
        case neg =>
         have q2i:¬ (9:Int)<(np:Int):=by omega
         by_cases q3:9<ng
         case pos =>
          have q3i:(9:Int)<(ng:Int):=by omega
          go_wp2_with fail
          first | exact HFIN.out _ _ HB.out | (go_ret;exact HFIN.out _ _ HB.out)
         case neg =>
          have q3i:¬ (9:Int)<(ng:Int):=by omega
          go_wp2_with fail
          first | exact HFIN.out _ _ HB.out | (go_ret;exact HFIN.out _ _ HB.out)
/-- The like; if it says no, the plan is short. -/
def LongPost (l:List LaunchD) (w:World) (e:Ending) (w':World):Prop:=∃ b,e=.returned (.bool b)∧Below w.heap.size w w'∧(b=false→l.length≤20)
set_option maxRecDepth 100000 in
set_option maxHeartbeats 8000000 in
theorem long_any (w:World) (A:Option Addr) (c:Nat) (l:List LaunchD) (h:PlanAt w w.heap.size A l) :
  Calls Tryz.prog 14 #[.slice A l.length c] w (LongPost l w):=by
 have hll:=h.len
 have HP:=Lib.hid h
 obtain ⟨n,hn⟩:∃ n,l.length=n:=⟨_,rfl⟩
 have HN:=Lib.hid hn
 obtain ⟨PQ,hPQ⟩:∃ Q,LongPost l w=Q:=⟨_,rfl⟩
 have HYES:Hid (PQ (.returned (.bool true)) w):=Lib.hid (by rw [← hPQ];exact ⟨true,rfl,Below.refl _ _,fun e=>by cases e⟩)
 have HNO:Hid (n≤20→∀ b,PQ (.returned (.bool b)) w):=Lib.hid fun h20 b=>by rw [← hPQ];exact ⟨b,rfl,Below.refl _ _,fun _=>by rw [hn];exact h20⟩
 rw [hn] at hll ⊢
 rw [hPQ]
 clear h hn hPQ
 go_enter Tryz.func14,Tryz.ntmps14
 go_wp2_with fail
 go_loopw [3,4] (fun v i wr=>wr=w∧∃ (k:Nat) (x:Int),k≤n∧k≤20∧i=.int .i64 k∧v=.int .i64 x) (fun _ i _=>n - (intOf i).toNat)
 case atStart=>exact ⟨rfl,0,0,Nat.zero_le _,Nat.zero_le _,rfl,rfl⟩
 case round =>
  obtain ⟨rfl,k,x,hk,hk20,rfl,rfl⟩:=hrel
  have h0k:(0:Int)≤(k:Int):=by omega
  by_cases hlt:k<n
  case pos =>
   have hki:(k:Int)<(n:Int):=by omega
   by_cases hl20:k<20
   case pos =>
    have hl20i:(k:Int)<20:=by omega
    obtain ⟨b,off,P,Q,rfl,_,_,_,_,d3,_⟩:=HP.out.at4 (i:=k) (by rw [HN.out];exact hlt)
    go_wp2_with fail
    go_roundw
    case rel=>first | exact ⟨trivial,k+1,_,by omega,by omega,by go_num,rfl⟩ | exact ⟨rfl,k+1,_,by omega,by omega,by go_num,rfl⟩ | ((repeat apply Exists.intro);exact ⟨⟨trivial,k+1,_,by omega,by omega,by go_num,rfl⟩,rfl⟩)
    case measure=>simp [intOf];omega
   case neg =>
    have hl20i:¬ (k:Int)<20:=by omega
    have hgt:(20:Int)<(n:Int):=by omega
    go_wp2_with fail
    first | exact HYES.out | (go_ret;exact HYES.out)
  case neg =>
   have hki:¬ (k:Int)<(n:Int):=by omega
   have hgt:¬ (20:Int)<(n:Int):=by omega
   have HF:=Lib.hid (HNO.out (by omega))
   go_wp2_with fail
   first | exact HF.out _ | (go_ret;exact HF.out _)
end Go.Proofs.YtcnjenlojnognaaGreat
/- What is proved: a contract of the law's small. Conditions: the campaign lies in memory. -/
namespace Go.Proofs.YtcnjenlojnognaaGreat
open Go.RowKit

set_option maxRecDepth 100000 in
set_option maxHeartbeats 8000000 in
theorem small_any (w:World) (V:CV) (c:CampD) (h:CampAt w w.heap.size V c) :
  Calls Tryz.prog 24 #[.agg (campA V c)] w (AnyB w):=by
 obtain ⟨PQ,hPQ⟩:∃ Q,AnyB w=Q:=⟨_,rfl⟩
 have HFIN:Hid (∀ b w',Below w.heap.size w w'→PQ (.returned (.bool b)) w'):=Lib.hid fun b w' hb=>by rw [← hPQ];exact ⟨b,rfl,hb⟩
 obtain ⟨W0,hW0⟩:∃ W0,w.alloc (.cells (campA V c) 26)=W0:=⟨_,rfl⟩
 have HB0:Hid (Below w.heap.size w W0):=Lib.hid (by rw [← hW0];exact (Below.refl _ w).alloc (Nat.le_refl _) _)
 have HKC:Hid (Bk W0 w.heap.size 26 (campA V c)):=Lib.hid (by rw [← hW0];exact Bk.new _ _ _)
 obtain ⟨q,hq⟩:∃ q,w.heap.size=q:=⟨_,rfl⟩
 have l1:=h.crafts.1
 have l2:=h.pads.1
 have l3:=h.cargos.1
 obtain ⟨nc,hnc⟩:∃ n,c.crafts.length=n:=⟨_,rfl⟩
 obtain ⟨np,hnp⟩:∃ n,c.pads.length=n:=⟨_,rfl⟩
 obtain ⟨ng,hng⟩:∃ n,c.cargos.length=n:=⟨_,rfl⟩
 rw [hq] at HKC
 have k0:W0.cell? ⟨q,0,none⟩=some (.slice V.cA nc V.cc):=by rw [← hnc];exact HKC.out.cell 0
 have k1:W0.cell? ⟨q,1,none⟩=some (.slice V.pA np V.pc):=by rw [← hnp];exact HKC.out.cell 1
 have k2:W0.cell? ⟨q,2,none⟩=some (.slice V.gA ng V.gc):=by rw [← hng];exact HKC.out.cell 2
 rw [hnc] at l1
 rw [hnp] at l2
 rw [hng] at l3
 rw [hPQ]
 clear h hPQ hnc hnp hng
 simp only [campA] at hW0 ⊢
 go_enter Tryz.func24,Tryz.ntmps24
 go_upto_region 1 with (fail)
 clear hW0 hq
 go_upto_region 2 with (fail)
 generalize wrap64 ((nc:Int) * (np:Int))=pr
 all_goals (
  by_cases q2n:ng≤2
  case pos =>
   have q2:(ng:Int)≤2:=by omega
   go_wp2_with fail
   all_goals (first | exact HFIN.out _ _ HB0.out | (go_ret;exact HFIN.out _ _ HB0.out))
  case neg =>
   have q2:¬ (ng:Int)≤2:=by omega
   by_cases q3n:ng≤3
   case pos =>
    have q3:(ng:Int)≤3:=by omega
    have q4:(ng:Int)≤4:=by omega
    have q4n:ng≤4:=by omega
    by_cases p9:pr≤9
    case pos =>
     go_wp2_with fail
     all_goals (first | exact HFIN.out _ _ HB0.out | (go_ret;exact HFIN.out _ _ HB0.out))
    case neg =>
     have p4:¬ pr≤4:=by omega
     go_wp2_with fail
     all_goals (first | exact HFIN.out _ _ HB0.out | (go_ret;exact HFIN.out _ _ HB0.out))
   case neg =>
    have q3:¬ (ng:Int)≤3:=by omega
    by_cases q4n:ng≤4
    case pos =>
     have q4:(ng:Int)≤4:=by omega
     by_cases p4:pr≤4
     case pos =>
      go_wp2_with fail
      all_goals (first | exact HFIN.out _ _ HB0.out | (go_ret;exact HFIN.out _ _ HB0.out))
     case neg =>
      go_wp2_with fail
      all_goals (first | exact HFIN.out _ _ HB0.out | (go_ret;exact HFIN.out _ _ HB0.out))
    case neg =>
     have q4:¬ (ng:Int)≤4:=by omega
     go_wp2_with fail
     all_goals (first | exact HFIN.out _ _ HB0.out | (go_ret;exact HFIN.out _ _ HB0.out)))
end Go.Proofs.YtcnjenlojnognaaGreat
/- What is proved: the types lie as the form wants them. Conditions: none. -/
namespace Go.Proofs.YtcnjenlojnognaaGreat
open Go.ChangeShapes Go.WideShapes Go.ChangeAt Go.RowKit
theorem laidOut:laidOutB Tryz.prog=true:=by kernel_rfl
end Go.Proofs.YtcnjenlojnognaaGreat
