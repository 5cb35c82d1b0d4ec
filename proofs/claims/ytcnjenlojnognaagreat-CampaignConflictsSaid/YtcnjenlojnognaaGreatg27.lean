/- What is proved: the texts Dq, one behind the other; each says at its head what it proves, and under which conditions. -/
import Derived.Test.YtcnjenlojnognaaGreatg26
/- What is proved: the contract of the document's cargos. Conditions: the number is below 64. -/
namespace Go.Proofs.YtcnjenlojnognaaGreat
open Go.RowKit

def CargPost (m:Nat) (w:World) (e:Ending) (w':World):Prop:=∃ v,e=.returned v∧OwnI w' w.heap.size v (bitsL m)∧Below w.heap.size w w'
set_option maxRecDepth 100000 in
set_option maxHeartbeats 8000000 in
theorem cargos_any (w:World) (m:Nat) (hm:m<64):Calls Tryz.prog 72 #[.int .i64 (m:Int)] w (CargPost m w):=by
 obtain ⟨PQ,hPQ⟩:∃ Q,CargPost m w=Q:=⟨_,rfl⟩
 have HFIN:Hid (∀ v w',OwnI w' w.heap.size v (bitsL m)→Below w.heap.size w w'→PQ (.returned v) w'):=Lib.hid fun v w' h1 h2=>by rw [← hPQ];exact ⟨v,rfl,h1,h2⟩
 have HM:=Lib.hid hm
 rw [hPQ]
 clear hPQ hm
 go_enter Tryz.func72,Tryz.ntmps72
 go_wp2_with fail
 go_loopw [0,3,4] (fun mv ov iv wr=>∃ (i:Nat) (z:Int) (v1:Value),i≤6∧mv=.int .i64 z∧ov=v1∧iv=.int .i64 (i:Int)∧Hid (z=((m / 2 ^ i:Nat):Int)∧OwnI wr w.heap.size v1 (lowL m i)∧Below w.heap.size w wr)) (fun mv _ _ _=>(intOf mv).toNat)
 case atStart=>exact ⟨0,m,_,Nat.zero_le _,rfl,rfl,rfl,Lib.hid ⟨by simp,OwnI.nil _ _,Below.refl _ _⟩⟩
 case round =>
  obtain ⟨i,z,v1,hi,rfl,hov,rfl,hs⟩:=hrel
  have hov2:=hov.symm
  clear hov
  subst hov2
  have HZ:=Lib.hid hs.out.1
  have HO:=Lib.hid hs.out.2.1
  have HB:=Lib.hid hs.out.2.2
  clear hs
  have h0i:(0:Int)≤(i:Int):=by omega
  have hz63:z≤63:=by
   have h2:=HM.out
   have h3:m / 2 ^ i≤m:=Nat.div_le_self _ _
   rw [HZ.out]
   exact Int.ofNat_le.2 (show m / 2 ^ i≤63 by omega)
  have hz0:0≤z:=by rw [HZ.out];exact Int.natCast_nonneg _
  by_cases hp:0<z
  ·have hpd:decide (0<z)=true:=decide_eq_true hp
   have hi6:i<6:=by
    refine Nat.lt_of_not_le fun h6=>?_
    have h1:=HZ.out
    have h2:m / 2 ^ i=0:=Nat.div_eq_of_lt (Nat.lt_of_lt_of_le HM.out (Nat.le_trans (show 64≤2 ^ 6 by decide) (Nat.pow_le_pow_right (by decide) h6)))
    omega
   obtain ⟨q,hq⟩:∃ q:Int,z.tdiv 2=q:=⟨_,rfl⟩
   have hq2:q=z / 2:=by rw [← hq,Int.tdiv_eq_ediv_of_nonneg hz0]
   have HQ:Hid (q=((m / 2 ^ (i+1):Nat):Int)):=Lib.hid (by
    rw [hq2,HZ.out,Nat.pow_succ,← Nat.div_div_eq_div_mul];omega)
   obtain ⟨r,hr⟩:∃ r:Int,z.tmod 2=r:=⟨_,rfl⟩
   have hr2:r=z % 2:=by rw [← hr,Int.tmod_eq_emod_of_nonneg hz0]
   have HR:Hid (r=1 ↔ m / 2 ^ i % 2=1):=Lib.hid (by rw [hr2,HZ.out];omega)
   have hqlt:q<z:=by omega
   have hq0:0≤q:=by omega
   clear hq2 hr2
   by_cases hb:r=1
   ·have HLS:Hid (lowL m i ++ [(i:Int)]=lowL m (i+1)):=Lib.hid (by rw [lowL_succ,if_pos (HR.out.1 hb)])
    have hbd:(r == 1)=true:=by rw [beq_iff_eq];exact hb
    have hll:Hid ((lowL m i).length≤4096):=Lib.hid (by have:=lowL_len m i;omega)
    have HVO:Hid (OwnI (wr.alloc (.cells #[.int .i64 (i:Int)] 3)) w.heap.size v1 (lowL m i)):=Lib.hid (HO.out.later ((Below.refl _ _).alloc (Nat.le_refl _) _))
    have hsz:=HB.out.size
    clear hb
    go_wp2_with (at_builtin;refine wpList_pushI (w:=wr.alloc (.cells #[.int .i64 (i:Int)] 3)) rfl _ _ rfl (B:=w.heap.size) (L:=lowL m i) rfl HVO.out ⟨wr.heap.size,0,none⟩ _ (i:Int) rfl (by simp) hll.out (by simp;omega) ?_)
    intro v2 W2 hv2 hb2
    have HV2:Hid (OwnI W2 w.heap.size v2 (lowL m (i+1))):=Lib.hid (by rw [← HLS.out];exact hv2)
    have HB2:Hid (Below w.heap.size w W2):=Lib.hid ((HB.out.alloc hsz _).trans hb2)
    clear hv2 hb2
    go_wp2_with fail
    go_roundw
    case rel=>exact ⟨i+1,q,_,by omega,rfl,rfl,by go_num,Lib.hid ⟨HQ.out,HV2.out,HB2.out⟩⟩
    case measure=>simp [intOf];omega
   ·have HLS:Hid (lowL m i=lowL m (i+1)):=Lib.hid (by rw [lowL_succ,if_neg (fun h=>hb (HR.out.2 h))])
    have hbd:(r == 1)=false:=by rw [beq_eq_false_iff_ne];exact hb
    clear hb
    go_wp2_with fail
    go_roundw
    case rel=>exact ⟨i+1,q,_,by omega,rfl,rfl,by go_num,Lib.hid ⟨HQ.out,by rw [← HLS.out];exact HO.out,HB.out⟩⟩
    case measure=>simp [intOf];omega
  ·have hpd:decide (0<z)=false:=decide_eq_false hp
   have HE:Hid (lowL m i=bitsL m):=Lib.hid (lowL_end (by have:=HZ.out;omega) HM.out)
   have HF2:=Lib.hid (HFIN.out _ wr (by rw [← HE.out];exact HO.out) HB.out)
   clear hp
   go_wp2_with fail
   first | exact HF2.out | (go_ret;exact HF2.out)
end Go.Proofs.YtcnjenlojnognaaGreat
