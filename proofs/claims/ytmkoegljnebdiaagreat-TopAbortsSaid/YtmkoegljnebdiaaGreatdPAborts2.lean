/- What is proved: the texts G H I J K L M N O P S T V Fr Fw Fx Wa Ft, one behind the other; each says at its head what it proves, and under which conditions. -/
import Derived.Deep.CutBlock
import Derived.Deep.CutRange
import Derived.Deep.QuietTactic
import Derived.Test.YtmkoegljnebdiaaGreatdPAborts1
namespace Go.Proofs.YtmkoegljnebdiaaGreat
open Go.RowKit
set_option maxRecDepth 100000
set_option maxHeartbeats 16000000

theorem pw2 (s:Nat):(2:Int) ^ s=((2 ^ s:Nat):Int):=by simp
theorem div64_low (lo y:Int) (h1:0≤lo) (h2:lo≤18446744073709551615) (h3:0<y) (h4:y≤18446744073709551615) (w:World) :
  Calls Tryz.prog 177 #[.int .u64 0,.int .u64 lo,.int .u64 y] w fun e w'=>e=.returned (.tuple #[.int .u64 (lo / y),.int .u64 (lo % y)])∧Below w.heap.size w w':=by
 have g1:(y == 0)=false:=by simp;omega
 have g2:decide (y≤0)=false:=decide_eq_false (by omega)
 have hy0:y ≠ 0:=by omega
 go_enter Tryz.func177,Tryz.ntmps177;go_wp2_with fail
 go_quiet (fail)
 go_wp2_with fail
 go_ret2
 exact ⟨rfl,below_drewN (Below.refl _ _) _⟩
theorem div64_high (hn ln yn:Nat) (h0:0<hn) (h2:ln<18446744073709551616) (h3:hn<yn) (h4:yn<18446744073709551616) (w:World) :
  Calls Tryz.prog 177 #[.int .u64 hn,.int .u64 ln,.int .u64 yn] w fun e w'=>e=.returned (.tuple #[.int .u64 (((hn * 18446744073709551616+ln) / yn:Nat):Int),.int .u64 (((hn * 18446744073709551616+ln) % yn:Nat):Int)])∧Below w.heap.size w w':=by
 obtain ⟨sn,hsn,hs63,hY1,hY2⟩:=dv_norm (y:=yn) (by omega) h4
 obtain ⟨d1,d2,d3,d4⟩:=dv_hi hs63 h2 h3 hY2;obtain ⟨hi,hhi⟩:∃ z:Int,(hn:Int)=z:=⟨_,rfl⟩;obtain ⟨lo,hlo⟩:∃ z:Int,(ln:Int)=z:=⟨_,rfl⟩;obtain ⟨y,hy⟩:∃ z:Int,(yn:Int)=z:=⟨_,rfl⟩;have g1:(y == 0)=false:=by simp;omega
 have g2:decide (y≤hi)=false:=decide_eq_false (by omega)
 have g3:(hi == 0)=false:=by simp;omega
 have HLZ:=hZ (Tryz.bits_LeadingZeros64 y w (by omega) (by omega))
 obtain ⟨s,hs⟩:∃ s:Int,(sn:Int)=s:=⟨_,rfl⟩;rw [show 64 - (Lib.bitLen y.toNat:Int)=s by rw [← hs,← hsn,← hy];rfl] at HLZ
 have hs0:0≤s:=by omega
 have hs1:s≤63:=by omega
 have ht1:s.toNat=sn:=by omega
 have ht2:(64 - s).toNat=64 - sn:=by omega
 obtain ⟨Y,hYe⟩:∃ Y:Nat,yn * 2 ^ sn=Y:=⟨_,rfl⟩;obtain ⟨L,hLe⟩:∃ L:Nat,ln * 2 ^ sn % 18446744073709551616=L:=⟨_,rfl⟩;obtain ⟨U,hUe⟩:∃ U:Nat,hn * 2 ^ sn+ln / 2 ^ (64 - sn)=U:=⟨_,rfl⟩;have E1:Hid (IntKind.u64.wrap (y * 2 ^ s.toNat)=(Y:Int)):=hZ (by
  rw [ht1,← hy,IntKind.wrap_u64,← hYe,pw2,← Int.natCast_mul];exact Int.emod_eq_of_lt (by omega) (by omega))
 have E4:Hid (IntKind.u64.wrap (lo * 2 ^ s.toNat)=(L:Int)):=hZ (by
  rw [ht1,← hlo,IntKind.wrap_u64,← hLe,pw2,← Int.natCast_mul];exact (Int.natCast_emod _ _).symm)
 have E7:Hid (bits .or .u64 (IntKind.u64.wrap (hi * 2 ^ s.toNat)) (lo / 2 ^ (64 - s).toNat)=(U:Int)):=hZ (by
  have e1:IntKind.u64.wrap (hi * 2 ^ s.toNat)=((hn * 2 ^ sn:Nat):Int):=by
   rw [ht1,← hhi,IntKind.wrap_u64,pw2,← Int.natCast_mul];exact Int.emod_eq_of_lt (by omega) (by omega)
  have e2:lo / 2 ^ (64 - s).toNat=((ln / 2 ^ (64 - sn):Nat):Int):=by
   rw [ht2,← hlo,pw2];exact (Int.natCast_ediv _ _).symm
  have e3:ln / 2 ^ (64 - sn)≤ln:=Nat.div_le_self _ _;rw [e1,e2,bits_or_u64_nat _ _ d1 (by omega),d2,hUe])
 obtain ⟨Y1,hY1e⟩:∃ z:Nat,Y / 4294967296=z:=⟨_,rfl⟩;obtain ⟨Y0,hY0e⟩:∃ z:Nat,Y % 4294967296=z:=⟨_,rfl⟩;obtain ⟨U1,hU1e⟩:∃ z:Nat,L / 4294967296=z:=⟨_,rfl⟩;obtain ⟨U0,hU0e⟩:∃ z:Nat,L % 4294967296=z:=⟨_,rfl⟩;have hmask:∀ a:Nat,a<18446744073709551616→bits .and .u64 (a:Int) 4294967295=((a % 4294967296:Nat):Int):=fun a ha=>by
  have h:=bits_and_u64_nat a 4294967295 ha (by omega)
  have e:a &&& 4294967295=a % 4294967296:=Nat.and_two_pow_sub_one_eq_mod a 32;rw [e] at h;exact h
 have hLb:L<18446744073709551616:=by rw [← hLe];exact Nat.mod_lt _ (by decide)
 rw [hYe] at hY1 hY2 d3;rw [hUe] at d3;rw [hUe,hLe] at d4;have E2:Hid (bits .and .u64 (Y:Int) 4294967295=(Y0:Int)):=hZ (by rw [hmask Y hY2,hY0e])
 have E3:Hid ((Y:Int) / 4294967296=(Y1:Int)):=hZ (by rw [← hY1e];exact (Int.natCast_ediv _ _).symm)
 have E5:Hid (bits .and .u64 (L:Int) 4294967295=(U0:Int)):=hZ (by rw [hmask L hLb,hU0e])
 have E6:Hid ((L:Int) / 4294967296=(U1:Int)):=hZ (by rw [← hU1e];exact (Int.natCast_ediv _ _).symm)
 have hYY:Y1 * 4294967296+Y0=Y:=by
  have:=Nat.div_add_mod Y 4294967296
  rw [hY1e,hY0e,Nat.mul_comm] at this;exact this
 have hY1b:2147483648≤Y1:=by omega
 have hY1c:Y1<4294967296:=by omega
 have hY0b:Y0<4294967296:=by omega
 have hU1b:U1<4294967296:=by omega
 have hU0b:U0<4294967296:=by omega
 obtain ⟨Q1,hQ1⟩:∃ z:Nat,(U * 4294967296+U1) / Y=z:=⟨_,rfl⟩;obtain ⟨R1,hR1⟩:∃ z:Nat,U * 4294967296+U1 - Q1 * Y=z:=⟨_,rfl⟩;obtain ⟨Q0,hQ0⟩:∃ z:Nat,(R1 * 4294967296+U0) / Y=z:=⟨_,rfl⟩;have hdm:=Nat.div_add_mod (U * 4294967296+U1) Y;have hml:=Nat.mod_lt (U * 4294967296+U1) (show 0<Y by omega)
 rw [hQ1,Nat.mul_comm] at hdm;have hR1b:R1<Y:=by omega
 have hdm0:=Nat.div_add_mod (R1 * 4294967296+U0) Y;have hml0:=Nat.mod_lt (R1 * 4294967296+U0) (show 0<Y by omega)
 rw [hQ0,Nat.mul_comm] at hdm0;obtain ⟨W1,hW1⟩:=dv_whole (hi:=hn) (lo:=ln) (y:=yn) (s:=sn) (U:=U) (L:=L) (Q1:=Q1) (Q0:=Q0) d4 (by rw [hYe,hU1e,hQ1]) (by rw [hYe,hU1e,hU0e,hR1,hQ0]) (by omega)
 rw [hYe,hU1e,hU0e,hR1] at hW1;have HQLQ1:Hid (Q1<4294967296):=hZ (by rw [← hQ1];exact kn_small d3 hU1b)
 have HQLQ0:Hid (Q0<4294967296):=hZ (by rw [← hQ0];exact kn_small hR1b hU0b)
 have HDNQ1:Hid (∀ q r:Nat,q * Y1+r=U→Q1≤q→q * Y0≤r * 4294967296+U1→q=Q1):=hZ fun q r h hge ht=>by
  have:=dv_done (u1:=U1) h (by omega) (by rw [hYY,hQ1];exact hge) ht
  rw [hYY,hQ1] at this;exact this
 have HMOQ1:Hid (∀ q r:Nat,q * Y1+r=U→¬ q * Y0≤r * 4294967296+U1→Q1<q):=hZ fun q r h ht=>by
  have:=dv_more (u1:=U1) h (by omega) ht
  rw [hYY,hQ1] at this;exact this
 have HBRQ1:Hid (∀ q r:Nat,q * Y1+r=U→q≤4294967296→4294967296≤r→Q1≤q→q=Q1):=hZ fun q r h hq hr hge=>by
  rcases kn_break (u1:=U1) h hY0b hq hr with e | e
  ·rw [hYY,hQ1] at e;omega
  ·omega
 have HSTQ1:Hid (w=w∧U / Y1 * Y1+U % Y1=U∧U / Y1≤4294967297∧Q1≤U / Y1∧U % Y1<4294967296):=hZ (by
  refine ⟨rfl,by rw [Nat.mul_comm];exact Nat.div_add_mod _ _,kn_first hY1b hY0b (by rw [hYY];assumption),?_,Nat.lt_trans (Nat.mod_lt _ (by omega)) hY1c⟩
  have:=kn_ge (y1:=Y1) (y0:=Y0) (u:=U) (u1:=U1) (by omega) (by assumption)
  rw [hYY,hQ1] at this;exact this)
 have HDNQ0:Hid (∀ q r:Nat,q * Y1+r=R1→Q0≤q→q * Y0≤r * 4294967296+U0→q=Q0):=hZ fun q r h hge ht=>by
  have:=dv_done (u1:=U0) h (by omega) (by rw [hYY,hQ0];exact hge) ht
  rw [hYY,hQ0] at this;exact this
 have HMOQ0:Hid (∀ q r:Nat,q * Y1+r=R1→¬ q * Y0≤r * 4294967296+U0→Q0<q):=hZ fun q r h ht=>by
  have:=dv_more (u1:=U0) h (by omega) ht
  rw [hYY,hQ0] at this;exact this
 have HBRQ0:Hid (∀ q r:Nat,q * Y1+r=R1→q≤4294967296→4294967296≤r→Q0≤q→q=Q0):=hZ fun q r h hq hr hge=>by
  rcases kn_break (u1:=U0) h hY0b hq hr with e | e
  ·rw [hYY,hQ0] at e;omega
  ·omega
 have HSTQ0:Hid (w=w∧R1 / Y1 * Y1+R1 % Y1=R1∧R1 / Y1≤4294967297∧Q0≤R1 / Y1∧R1 % Y1<4294967296):=hZ (by
  refine ⟨rfl,by rw [Nat.mul_comm];exact Nat.div_add_mod _ _,kn_first hY1b hY0b (by rw [hYY];assumption),?_,Nat.lt_trans (Nat.mod_lt _ (by omega)) hY1c⟩
  have:=kn_ge (y1:=Y1) (y0:=Y0) (u:=R1) (u1:=U0) (by omega) (by assumption)
  rw [hYY,hQ0] at this;exact this)
 have HRES:Hid (∀ a b:Int,a=((Q1 * 4294967296+Q0:Nat):Int)→b=(((R1 * 4294967296+U0 - Q0 * Y) / 2 ^ sn:Nat):Int)→(Ending.returned (.tuple #[.int .u64 a,.int .u64 b]))=.returned (.tuple #[.int .u64 (((hn * 18446744073709551616+ln) / yn:Nat):Int),.int .u64 (((hn * 18446744073709551616+ln) % yn:Nat):Int)])):=hZ fun a b ea eb=>by rw [ea,eb,W1,hW1]
 have hy1n:(Y1:Int) ≠ 0:=by omega
 have hy1b:((Y1:Int) == 0)=false:=by simp;omega
 have HMUL:Hid (Q1 * Y≤U * 4294967296+U1∧Q0 * Y≤R1 * 4294967296+U0):=hZ (by omega)
 have hUb:U<18446744073709551616:=Nat.lt_trans d3 hY2;have hRb:R1<18446744073709551616:=Nat.lt_trans hR1b hY2;obtain ⟨qQ1,hqQ1⟩:∃ z:Nat,U / Y1=z:=⟨_,rfl⟩;obtain ⟨rQ1,hrQ1⟩:∃ z:Nat,U % Y1=z:=⟨_,rfl⟩;obtain ⟨pQ1,hpQ1⟩:∃ z:Nat,qQ1 * Y1=z:=⟨_,rfl⟩;have DQ11:(U:Int) / (Y1:Int)=(qQ1:Int):=by rw [← hqQ1];exact (Int.natCast_ediv _ _).symm
 have hprQ1:pQ1+rQ1=U:=by rw [← hpQ1,← hqQ1,← hrQ1,Nat.mul_comm];exact Nat.div_add_mod _ _
 have DQ12:IntKind.u64.wrap ((qQ1:Int) * (Y1:Int))=(pQ1:Int):=by rw [← Int.natCast_mul,hpQ1,IntKind.wrap_u64];omega
 have DQ13:IntKind.u64.wrap ((U:Int) - (pQ1:Int))=(rQ1:Int):=by rw [IntKind.wrap_u64];omega
 have DQ14:IntKind.u64.wrap (qQ1:Int)=(qQ1:Int):=by rw [IntKind.wrap_u64];have:=HSTQ1.out.2.2.1;rw [hqQ1] at this;omega
 rw [hqQ1,hrQ1] at HSTQ1;clear hqQ1 hrQ1 hpQ1 hprQ1;have DQ11:=hZ DQ11;have DQ12:=hZ DQ12;have DQ13:=hZ DQ13;obtain ⟨qQ0,hqQ0⟩:∃ z:Nat,R1 / Y1=z:=⟨_,rfl⟩;obtain ⟨rQ0,hrQ0⟩:∃ z:Nat,R1 % Y1=z:=⟨_,rfl⟩;obtain ⟨pQ0,hpQ0⟩:∃ z:Nat,qQ0 * Y1=z:=⟨_,rfl⟩;have DQ01:(R1:Int) / (Y1:Int)=(qQ0:Int):=by rw [← hqQ0];exact (Int.natCast_ediv _ _).symm
 have hprQ0:pQ0+rQ0=R1:=by rw [← hpQ0,← hqQ0,← hrQ0,Nat.mul_comm];exact Nat.div_add_mod _ _
 have DQ02:IntKind.u64.wrap ((qQ0:Int) * (Y1:Int))=(pQ0:Int):=by rw [← Int.natCast_mul,hpQ0,IntKind.wrap_u64];omega
 have DQ03:IntKind.u64.wrap ((R1:Int) - (pQ0:Int))=(rQ0:Int):=by rw [IntKind.wrap_u64];omega
 have DQ04:IntKind.u64.wrap (qQ0:Int)=(qQ0:Int):=by rw [IntKind.wrap_u64];have:=HSTQ0.out.2.2.1;rw [hqQ0] at this;omega
 rw [hqQ0,hrQ0] at HSTQ0;clear hqQ0 hrQ0 hpQ0 hprQ0;have DQ01:=hZ DQ01;have DQ02:=hZ DQ02;have DQ03:=hZ DQ03;obtain ⟨V1,hV1⟩:∃ z:Nat,U * 4294967296 % 18446744073709551616=z:=⟨_,rfl⟩;obtain ⟨V2,hV2⟩:∃ z:Nat,(U * 4294967296+U1) % 18446744073709551616=z:=⟨_,rfl⟩;obtain ⟨V3,hV3⟩:∃ z:Nat,Q1 * Y % 18446744073709551616=z:=⟨_,rfl⟩;have A1:IntKind.u64.wrap ((U:Int) * 4294967296)=(V1:Int):=by rw [IntKind.wrap_u64];omega
 have A2:IntKind.u64.wrap ((V1:Int)+(U1:Int))=(V2:Int):=by rw [IntKind.wrap_u64];omega
 have A3:IntKind.u64.wrap ((Q1:Int) * (Y:Int))=(V3:Int):=by rw [IntKind.wrap_u64,← Int.natCast_mul];omega
 have A4:IntKind.u64.wrap ((V2:Int) - (V3:Int))=(R1:Int):=by rw [IntKind.wrap_u64];omega
 obtain ⟨T1,hT1⟩:∃ z:Nat,R1 * 4294967296 % 18446744073709551616=z:=⟨_,rfl⟩;obtain ⟨T2,hT2⟩:∃ z:Nat,(R1 * 4294967296+U0) % 18446744073709551616=z:=⟨_,rfl⟩;obtain ⟨T3,hT3⟩:∃ z:Nat,Q0 * Y % 18446744073709551616=z:=⟨_,rfl⟩;obtain ⟨T4,hT4⟩:∃ z:Nat,R1 * 4294967296+U0 - Q0 * Y=z:=⟨_,rfl⟩;rw [hT4] at HRES;have B1:IntKind.u64.wrap ((R1:Int) * 4294967296)=(T1:Int):=by rw [IntKind.wrap_u64];omega
 have B2:IntKind.u64.wrap ((T1:Int)+(U0:Int))=(T2:Int):=by rw [IntKind.wrap_u64];omega
 have B3:IntKind.u64.wrap ((Q0:Int) * (Y:Int))=(T3:Int):=by rw [IntKind.wrap_u64,← Int.natCast_mul];omega
 have B4:IntKind.u64.wrap ((T2:Int) - (T3:Int))=(T4:Int):=by rw [IntKind.wrap_u64];omega
 have hq1b:=HQLQ1.out;have hq0b:=HQLQ0.out;obtain ⟨Z1,hZ1⟩:∃ z:Nat,Q1 * 4294967296=z:=⟨_,rfl⟩;have C1:IntKind.u64.wrap ((Q1:Int) * 4294967296)=(Z1:Int):=by rw [IntKind.wrap_u64];omega
 have C2:IntKind.u64.wrap ((Z1:Int)+(Q0:Int))=((Q1 * 4294967296+Q0:Nat):Int):=by rw [IntKind.wrap_u64];omega
 have C3:(T4:Int) / 2 ^ s.toNat=((T4 / 2 ^ sn:Nat):Int):=by rw [ht1,pw2];exact (Int.natCast_ediv _ _).symm
 obtain ⟨X1,hX1⟩:∃ z:Int,((Q1 * 4294967296+Q0:Nat):Int)=z:=⟨_,rfl⟩;obtain ⟨X2,hX2⟩:∃ z:Int,((T4 / 2 ^ sn:Nat):Int)=z:=⟨_,rfl⟩;rw [hX1] at C2;rw [hX2] at C3;have HRET:=HRES.out X1 X2 hX1.symm hX2.symm;obtain ⟨ER,hER⟩:∃ e:Ending,(Ending.returned (.tuple #[.int .u64 (((hn * 18446744073709551616+ln) / yn:Nat):Int),.int .u64 (((hn * 18446744073709551616+ln) % yn:Nat):Int)]))=e:=⟨_,rfl⟩;rw [hER] at HRET ⊢;have HRET:=hZ HRET;have C1:=hZ C1;have C2:=hZ C2;have C3:=hZ C3;have A1:=hZ A1;have A2:=hZ A2;have A3:=hZ A3;have A4:=hZ A4;have B1:=hZ B1;have B2:=hZ B2;have B3:=hZ B3;have B4:=hZ B4;rw [hhi,hlo,hy];clear hER hX1 hX2 hZ1 hT1 hT2 hT3 hT4 hV1 hV2 hV3 W1 hW1 hdm hdm0 hml hml0 hQ1 hQ0 hR1 hYe hLe hUe d1 d2 d3 d4 hsn hs ht1 ht2 hmask hY1e hY0e hU1e hU0e hhi hlo hy h0 h2 h3 h4 hs63 HRES HMUL hq1b hq0b hYY;go_enter Tryz.func177,Tryz.ntmps177;go_wp2_with fail
 refine HLZ.out.mono ?_
 rintro e w' ⟨rfl,rfl⟩;go_upto_region 15 with (fail);simp only [E1.out,E4.out];simp only [E7.out,E2.out,E3.out,E5.out,E6.out];go_upto_block 0 with fail
 go_cut [15,16] from 67 to 85 (fun va vb w2=>va=.int .u64 (Q1:Nat)∧w2=w')
 case first =>
  go_wp2_with fail
  go_loopw [15,16] (fun va vb wr=>∃ q r:Nat,va=.int .u64 q∧vb=.int .u64 r∧Hid (wr=w'∧q * Y1+r=U∧q≤4294967297∧Q1≤q∧r<4294967296)) (fun va _ _=>(intOf va).toNat)
  case atStart=>exact ⟨_,_,rfl,rfl,hZ ⟨rfl,HSTQ1.out.2⟩⟩
  case round =>
   obtain ⟨q,r,rfl,rfl,hs⟩:=hrel;obtain ⟨hwr,hq1,hq2,hq3,hq4⟩:=hs.out;subst hwr;have HQ1:=hZ hq1;have HQ3:=hZ hq3;have hdn:=HDNQ1.out q r hq1 hq3;have hmo:=HMOQ1.out q r hq1;have hqy:q * Y0≤4294967297 * 4294967295:=Nat.mul_le_mul hq2 (by omega)
   clear hs;by_cases g1:4294967296≤q
   ·have k1:decide ((4294967296:Int)≤(q:Int))=true:=decide_eq_true (by omega)
    have k1':decide (4294967296≤q)=true:=decide_eq_true (by omega)
    have hlt:Q1<q:=by have:=HQLQ1.out;omega
    obtain ⟨q2,hq0⟩:∃ z:Nat,z+1=q:=⟨q - 1,by omega⟩
    obtain ⟨r2,hr0⟩:∃ z:Nat,r+Y1=z:=⟨_,rfl⟩;have hrel2:q2 * Y1+r2=U:=by
     have:(q2+1) * Y1=q2 * Y1+Y1:=Nat.succ_mul _ _
     rw [hq0] at this;omega
    have n1:IntKind.u64.wrap ((q:Int) - 1)=(q2:Int):=by rw [IntKind.wrap_u64];omega
    have n2:IntKind.u64.wrap ((r:Int)+(Y1:Int))=(r2:Int):=by rw [IntKind.wrap_u64];omega
    have HR2:=hZ hrel2;have HLE:Hid (Q1≤q2∧q2≤4294967296∧q2<q):=hZ (by omega)
    by_cases g3:4294967296≤r2
    ·have k3:decide ((4294967296:Int)≤(r2:Int))=true:=decide_eq_true (by omega)
     have k3':decide (4294967296≤r2)=true:=decide_eq_true (by omega)
     have HE:Hid (q2=Q1):=hZ (HBRQ1.out q2 r2 hrel2 HLE.out.2.1 g3 HLE.out.1);clear hdn hmo g1 hq0 hr0 hrel2 g3 hq1 hq2 hq3 hq4 hqy hlt;go_wp2_with fail
     go_meet
     case rel=>exact ⟨by rw [HE.out],rfl⟩
    ·have k3:decide ((4294967296:Int)≤(r2:Int))=false:=decide_eq_false (by omega)
     have k3':decide (4294967296≤r2)=false:=decide_eq_false (by omega)
     have HG3:Hid (r2<4294967296):=hZ (by omega)
     clear hdn hmo g1 hq0 hr0 hrel2 g3 hq1 hq2 hq3 hq4 hqy hlt;go_wp2_with fail
     go_roundw
     case rel=>exact ⟨q2,r2,rfl,rfl,hZ ⟨by simp,HR2.out,by have:=HLE.out;omega,HLE.out.1,HG3.out⟩⟩
     case measure=>simp [intOf];have:=HLE.out;omega
   ·have k1:decide ((4294967296:Int)≤(q:Int))=false:=decide_eq_false (by omega)
    have k1':decide (4294967296≤q)=false:=decide_eq_false (by omega)
    have hqy2:q * Y0≤4294967295 * 4294967295:=Nat.mul_le_mul (by omega) (by omega)
    obtain ⟨z,hz⟩:∃ z:Nat,q * Y0=z:=⟨_,rfl⟩;rw [hz] at hdn hmo hqy2;have m1:IntKind.u64.wrap ((q:Int) * (Y0:Int))=(z:Int):=by rw [← Int.natCast_mul,hz,IntKind.wrap_u64];omega
    obtain ⟨x2,hx2⟩:∃ z:Nat,4294967296 * r=z:=⟨_,rfl⟩;obtain ⟨x3,hx3⟩:∃ z:Nat,x2+U1=z:=⟨_,rfl⟩;have m2:IntKind.u64.wrap ((4294967296:Int) * (r:Int))=(x2:Int):=by rw [IntKind.wrap_u64];omega
    have m3:IntKind.u64.wrap ((x2:Int)+(U1:Int))=(x3:Int):=by rw [IntKind.wrap_u64];omega
    by_cases g2:z≤x3
    ·have k2:decide ((x3:Int)<(z:Int))=false:=decide_eq_false (by omega)
     have k2':decide (x3<z)=false:=decide_eq_false (by omega)
     have HE:Hid (q=Q1):=hZ (hdn (by omega))
     clear hdn hmo hq1 hq2 hq3 hq4 hqy hqy2 hz g1 g2 hx2 hx3;go_wp2_with fail
     go_meet
     case rel=>exact ⟨by rw [HE.out],rfl⟩
    ·have k2:decide ((x3:Int)<(z:Int))=true:=decide_eq_true (by omega)
     have k2':decide (x3<z)=true:=decide_eq_true (by omega)
     have hlt:Q1<q:=hmo (by omega)
     obtain ⟨q2,hq0⟩:∃ z:Nat,z+1=q:=⟨q - 1,by omega⟩
     obtain ⟨r2,hr0⟩:∃ z:Nat,r+Y1=z:=⟨_,rfl⟩;have hrel2:q2 * Y1+r2=U:=by
      have:(q2+1) * Y1=q2 * Y1+Y1:=Nat.succ_mul _ _
      rw [hq0] at this;omega
     have n1:IntKind.u64.wrap ((q:Int) - 1)=(q2:Int):=by rw [IntKind.wrap_u64];omega
     have n2:IntKind.u64.wrap ((r:Int)+(Y1:Int))=(r2:Int):=by rw [IntKind.wrap_u64];omega
     have HR2:=hZ hrel2;have HLE:Hid (Q1≤q2∧q2≤4294967296∧q2<q):=hZ (by omega)
     by_cases g3:4294967296≤r2
     ·have k3:decide ((4294967296:Int)≤(r2:Int))=true:=decide_eq_true (by omega)
      have k3':decide (4294967296≤r2)=true:=decide_eq_true (by omega)
      have HE:Hid (q2=Q1):=hZ (HBRQ1.out q2 r2 hrel2 HLE.out.2.1 g3 HLE.out.1);clear hdn hmo hz hx2 hx3 g1 g2 hqy2 hq0 hr0 hrel2 g3 hq1 hq2 hq3 hq4 hqy hlt;go_wp2_with fail
      go_meet
      case rel=>exact ⟨by rw [HE.out],rfl⟩
     ·have k3:decide ((4294967296:Int)≤(r2:Int))=false:=decide_eq_false (by omega)
      have k3':decide (4294967296≤r2)=false:=decide_eq_false (by omega)
      have HG3:Hid (r2<4294967296):=hZ (by omega)
      clear hdn hmo hz hx2 hx3 g1 g2 hqy2 hq0 hr0 hrel2 g3 hq1 hq2 hq3 hq4 hqy hlt;go_wp2_with fail
      go_roundw
      case rel=>exact ⟨q2,r2,rfl,rfl,hZ ⟨by simp,HR2.out,by have:=HLE.out;omega,HLE.out.1,HG3.out⟩⟩
      case measure=>simp [intOf];have:=HLE.out;omega
 case rest =>
  obtain ⟨rfl,hwc⟩:=hcut;have hwc:=hwc.symm;subst hwc;go_upto_block 2 with fail
  go_cut [18,16] from 102 to 120 (fun va vb w2=>va=.int .u64 (Q0:Nat)∧w2=w')
  case first =>
   go_wp2_with fail
   go_loopw [18,16] (fun va vb wr=>∃ q r:Nat,va=.int .u64 q∧vb=.int .u64 r∧Hid (wr=w'∧q * Y1+r=R1∧q≤4294967297∧Q0≤q∧r<4294967296)) (fun va _ _=>(intOf va).toNat)
   case atStart=>exact ⟨_,_,rfl,rfl,hZ ⟨rfl,HSTQ0.out.2⟩⟩
   case round =>
    obtain ⟨q,r,rfl,rfl,hs⟩:=hrel;obtain ⟨hwr,hq1,hq2,hq3,hq4⟩:=hs.out;subst hwr;have HQ1:=hZ hq1;have HQ3:=hZ hq3;have hdn:=HDNQ0.out q r hq1 hq3;have hmo:=HMOQ0.out q r hq1;have hqy:q * Y0≤4294967297 * 4294967295:=Nat.mul_le_mul hq2 (by omega)
    clear hs;by_cases g1:4294967296≤q
    ·have k1:decide ((4294967296:Int)≤(q:Int))=true:=decide_eq_true (by omega)
     have k1':decide (4294967296≤q)=true:=decide_eq_true (by omega)
     have hlt:Q0<q:=by have:=HQLQ0.out;omega
     obtain ⟨q2,hq0⟩:∃ z:Nat,z+1=q:=⟨q - 1,by omega⟩
     obtain ⟨r2,hr0⟩:∃ z:Nat,r+Y1=z:=⟨_,rfl⟩;have hrel2:q2 * Y1+r2=R1:=by
      have:(q2+1) * Y1=q2 * Y1+Y1:=Nat.succ_mul _ _
      rw [hq0] at this;omega
     have n1:IntKind.u64.wrap ((q:Int) - 1)=(q2:Int):=by rw [IntKind.wrap_u64];omega
     have n2:IntKind.u64.wrap ((r:Int)+(Y1:Int))=(r2:Int):=by rw [IntKind.wrap_u64];omega
     have HR2:=hZ hrel2;have HLE:Hid (Q0≤q2∧q2≤4294967296∧q2<q):=hZ (by omega)
     by_cases g3:4294967296≤r2
     ·have k3:decide ((4294967296:Int)≤(r2:Int))=true:=decide_eq_true (by omega)
      have k3':decide (4294967296≤r2)=true:=decide_eq_true (by omega)
      have HE:Hid (q2=Q0):=hZ (HBRQ0.out q2 r2 hrel2 HLE.out.2.1 g3 HLE.out.1);clear hdn hmo g1 hq0 hr0 hrel2 g3 hq1 hq2 hq3 hq4 hqy hlt;go_wp2_with fail
      go_meet
      case rel=>exact ⟨by rw [HE.out],rfl⟩
     ·have k3:decide ((4294967296:Int)≤(r2:Int))=false:=decide_eq_false (by omega)
      have k3':decide (4294967296≤r2)=false:=decide_eq_false (by omega)
      have HG3:Hid (r2<4294967296):=hZ (by omega)
      clear hdn hmo g1 hq0 hr0 hrel2 g3 hq1 hq2 hq3 hq4 hqy hlt;go_wp2_with fail
      go_roundw
      case rel=>exact ⟨q2,r2,rfl,rfl,hZ ⟨by simp,HR2.out,by have:=HLE.out;omega,HLE.out.1,HG3.out⟩⟩
      case measure=>simp [intOf];have:=HLE.out;omega
    ·have k1:decide ((4294967296:Int)≤(q:Int))=false:=decide_eq_false (by omega)
     have k1':decide (4294967296≤q)=false:=decide_eq_false (by omega)
     have hqy2:q * Y0≤4294967295 * 4294967295:=Nat.mul_le_mul (by omega) (by omega)
     obtain ⟨z,hz⟩:∃ z:Nat,q * Y0=z:=⟨_,rfl⟩;rw [hz] at hdn hmo hqy2;have m1:IntKind.u64.wrap ((q:Int) * (Y0:Int))=(z:Int):=by rw [← Int.natCast_mul,hz,IntKind.wrap_u64];omega
     obtain ⟨x2,hx2⟩:∃ z:Nat,4294967296 * r=z:=⟨_,rfl⟩;obtain ⟨x3,hx3⟩:∃ z:Nat,x2+U0=z:=⟨_,rfl⟩;have m2:IntKind.u64.wrap ((4294967296:Int) * (r:Int))=(x2:Int):=by rw [IntKind.wrap_u64];omega
     have m3:IntKind.u64.wrap ((x2:Int)+(U0:Int))=(x3:Int):=by rw [IntKind.wrap_u64];omega
     by_cases g2:z≤x3
     ·have k2:decide ((x3:Int)<(z:Int))=false:=decide_eq_false (by omega)
      have k2':decide (x3<z)=false:=decide_eq_false (by omega)
      have HE:Hid (q=Q0):=hZ (hdn (by omega))
      clear hdn hmo hq1 hq2 hq3 hq4 hqy hqy2 hz g1 g2 hx2 hx3;go_wp2_with fail
      go_meet
      case rel=>exact ⟨by rw [HE.out],rfl⟩
     ·have k2:decide ((x3:Int)<(z:Int))=true:=decide_eq_true (by omega)
      have k2':decide (x3<z)=true:=decide_eq_true (by omega)
      have hlt:Q0<q:=hmo (by omega)
      obtain ⟨q2,hq0⟩:∃ z:Nat,z+1=q:=⟨q - 1,by omega⟩
      obtain ⟨r2,hr0⟩:∃ z:Nat,r+Y1=z:=⟨_,rfl⟩;have hrel2:q2 * Y1+r2=R1:=by
       have:(q2+1) * Y1=q2 * Y1+Y1:=Nat.succ_mul _ _
       rw [hq0] at this;omega
      have n1:IntKind.u64.wrap ((q:Int) - 1)=(q2:Int):=by rw [IntKind.wrap_u64];omega
      have n2:IntKind.u64.wrap ((r:Int)+(Y1:Int))=(r2:Int):=by rw [IntKind.wrap_u64];omega
      have HR2:=hZ hrel2;have HLE:Hid (Q0≤q2∧q2≤4294967296∧q2<q):=hZ (by omega)
      by_cases g3:4294967296≤r2
      ·have k3:decide ((4294967296:Int)≤(r2:Int))=true:=decide_eq_true (by omega)
       have k3':decide (4294967296≤r2)=true:=decide_eq_true (by omega)
       have HE:Hid (q2=Q0):=hZ (HBRQ0.out q2 r2 hrel2 HLE.out.2.1 g3 HLE.out.1);clear hdn hmo hz hx2 hx3 g1 g2 hqy2 hq0 hr0 hrel2 g3 hq1 hq2 hq3 hq4 hqy hlt;go_wp2_with fail
       go_meet
       case rel=>exact ⟨by rw [HE.out],rfl⟩
      ·have k3:decide ((4294967296:Int)≤(r2:Int))=false:=decide_eq_false (by omega)
       have k3':decide (4294967296≤r2)=false:=decide_eq_false (by omega)
       have HG3:Hid (r2<4294967296):=hZ (by omega)
       clear hdn hmo hz hx2 hx3 g1 g2 hqy2 hq0 hr0 hrel2 g3 hq1 hq2 hq3 hq4 hqy hlt;go_wp2_with fail
       go_roundw
       case rel=>exact ⟨q2,r2,rfl,rfl,hZ ⟨by simp,HR2.out,by have:=HLE.out;omega,HLE.out.1,HG3.out⟩⟩
       case measure=>simp [intOf];have:=HLE.out;omega
  case rest =>
   obtain ⟨rfl,hwc⟩:=hcut;have hwc:=hwc.symm;subst hwc;go_wp2_with fail
   go_ret2
   exact ⟨HRET.out,Below.refl _ _⟩

theorem div64_any (hi lo y:Nat) (h2:lo<18446744073709551616) (h3:hi<y) (h4:y<18446744073709551616) (w:World) :
  Calls Tryz.prog 177 #[.int .u64 hi,.int .u64 lo,.int .u64 y] w fun e w'=>e=.returned (.tuple #[.int .u64 (((hi * 18446744073709551616+lo) / y:Nat):Int),.int .u64 (((hi * 18446744073709551616+lo) % y:Nat):Int)])∧Below w.heap.size w w':=by
 by_cases h:hi=0
 ·subst h;refine (div64_low lo y (by omega) (by omega) (by omega) (by omega) w).mono ?_
  rintro e w' ⟨rfl,hb⟩;rw [Nat.zero_mul,Nat.zero_add];exact ⟨rfl,hb⟩
 ·exact div64_high hi lo y (by omega) h2 h3 h4 w
theorem dv_parts {m b:Nat} (hb:0<b):m / b=m / 18446744073709551616 / b * 18446744073709551616+(m / 18446744073709551616 % b * 18446744073709551616+m % 18446744073709551616) / b ∧
  m % b=(m / 18446744073709551616 % b * 18446744073709551616+m % 18446744073709551616) % b∧(m / 18446744073709551616 % b * 18446744073709551616+m % 18446744073709551616) / b<18446744073709551616:=by
 have h1:=Nat.div_add_mod m 18446744073709551616;have h2:=Nat.div_add_mod (m / 18446744073709551616) b;have h3:=Nat.mod_lt (m / 18446744073709551616) hb;have h4:=Nat.mod_lt m (show 0<18446744073709551616 by decide)
 generalize m / 18446744073709551616=h at *
 generalize m % 18446744073709551616=l at *
 generalize h / b=q at *
 generalize h % b=r at *
 have e:m=(r * 18446744073709551616+l)+b * (q * 18446744073709551616):=by
  rw [← h1,← h2,Nat.mul_add,Nat.mul_comm 18446744073709551616 (b * q),Nat.mul_assoc];omega
 refine ⟨?_,?_,?_⟩
 ·rw [e,Nat.add_mul_div_left _ _ hb,Nat.add_comm]
 ·rw [e,Nat.add_mul_mod_self_left]
 ·rw [Nat.div_lt_iff_lt_mul hb];have:(r+1) * 18446744073709551616≤b * 18446744073709551616:=Nat.mul_le_mul_right _ h3
  rw [Nat.mul_comm 18446744073709551616];omega
theorem big_of (n:Bool) (c:Nat) (h l:Int) (e1:h=((c / 18446744073709551616:Nat):Int)) (e2:l=((c % 18446744073709551616:Nat):Int)):IsBig (.agg #[.bool n,.int .u64 h,.int .u64 l]) (valI n c) :=
 ⟨n,c,bigV_isN (by omega) (by omega),by omega,rfl⟩
theorem ceil_nat (m b:Nat) (hb:0<b):-(-(m:Int) / (b:Int))=((if m % b=0 then m / b else m / b+1:Nat):Int):=by
 have h1:=Nat.div_add_mod m b;have h2:=Nat.mod_lt m hb;generalize m / b=q at *
 generalize m % b=r at *
 subst h1;by_cases e:r=0
 ·subst e;rw [if_pos rfl];have:-(((b * q+0:Nat):Int))=(b:Int) * (-(q:Int)):=by rw [Nat.add_zero,Int.natCast_mul,Int.mul_neg]
  rw [this,Int.mul_ediv_cancel_left _ (by omega),Int.neg_neg]
 ·rw [if_neg e];have:-(((b * q+r:Nat):Int))=((b:Int) - (r:Int))+(b:Int) * (-(q:Int) - 1):=by
   rw [Int.natCast_add,Int.natCast_mul,Int.mul_sub,Int.mul_neg];omega
  rw [this,Int.add_mul_ediv_left _ _ (by omega),Int.ediv_eq_zero_of_lt (by omega) (by omega)]
  omega
def ceilN (m b:Nat):Nat:=if m % b=0 then m / b else m / b+1
def bigP (n:Bool) (q:Nat):Value:=.agg #[.bool n,.int .u64 ((q / 18446744073709551616:Nat):Int),.int .u64 ((q % 18446744073709551616:Nat):Int)]
def DivP (n:Bool) (m b B:Nat) (w:World) (e:Ending) (w':World):Prop:=e=.returned (.tuple #[bigP n (if n=true then ceilN m b else m / b),bigP n (if n=true then m / b else ceilN m b)])∧Below B w w'
theorem divide_raw (n:Bool) (m b:Nat) (hb:0<b) (hb2:b<18446744073709551616) (hm:m<170141183460469231731687303715884105728) (w:World) :
  Calls Tryz.prog 140 #[bigV n (m / 18446744073709551616:Nat) (m % 18446744073709551616:Nat),bigV false 0 b] w
   (DivP n m b w.heap.size w):=by
 obtain ⟨hn,hhn⟩:∃ z:Nat,m / 18446744073709551616=z:=⟨_,rfl⟩;obtain ⟨ln,hln⟩:∃ z:Nat,m % 18446744073709551616=z:=⟨_,rfl⟩;obtain ⟨p1,p2,p3⟩:=dv_parts (m:=m) hb;rw [hhn,hln];rw [hhn,hln] at p1 p2 p3;obtain ⟨qh,hqh⟩:∃ z:Nat,hn / b=z:=⟨_,rfl⟩;obtain ⟨rh,hrh⟩:∃ z:Nat,hn % b=z:=⟨_,rfl⟩;have HD:=hZ (fun w=>div64_any rh ln b (by omega) (by rw [← hrh];exact Nat.mod_lt _ hb) hb2 w)
 rw [hqh,hrh] at p1;rw [hrh] at p2 p3;have e1:(hn:Int) / (b:Int)=(qh:Int):=by rw [← hqh];exact (Int.natCast_ediv _ _).symm
 have e2:(hn:Int) % (b:Int)=(rh:Int):=by rw [← hrh];exact (Int.natCast_emod _ _).symm
 have hqhb:qh<18446744073709551616:=by rw [← hqh];exact Nat.lt_of_le_of_lt (Nat.div_le_self _ _) (by omega)
 have e3:IntKind.u64.wrap (qh:Int)=(qh:Int):=by rw [IntKind.wrap_u64];omega
 have hb0:(b:Int) ≠ 0:=by omega
 have hb0':((b:Int) == 0)=false:=by simp;omega
 have hb1:b ≠ 0:=by omega
 unfold bigV;go_enter Tryz.func140,Tryz.ntmps140;go_upto_region 4 with (fail);go_region
 try rw [e2]
 obtain ⟨qb,hqb⟩:=eX w.heap.size;obtain ⟨W0,hW0⟩:=eX (((((((w.alloc (.cells #[.bool n,.int .u64 hn,.int .u64 ln] 217)).alloc (.cells #[.bool false,.int .u64 0,.int .u64 b] 217)).alloc (.cells #[.bool false,.int .u64 0,.int .u64 0] 217)).alloc (.cells #[.bool false,.int .u64 0,.int .u64 0] 217)).alloc (.cells #[.bool false,.int .u64 qh,.int .u64 0] 217)).alloc (.cells #[.bool false,.int .u64 0,.int .u64 0] 217)).drew);have HA0:Hid (Bk W0 (qb) 217 #[.bool n,.int .u64 hn,.int .u64 ln]):=hZ (by rw [← hW0,← hqb];exact ((((((Bk.new _ _ _).alloc _).alloc _).alloc _).alloc _).alloc _).drewN 1)
 have HY0:Hid (Bk W0 (qb+1) 217 #[.bool false,.int .u64 0,.int .u64 b]):=hZ (by rw [← hW0,← hqb];exact (((((Bk.newAt _ _ _ _ (by simp)).alloc _).alloc _).alloc _).alloc _).drewN 1)
 have HS0:Hid (Bk W0 (qb+1+1) 217 #[.bool false,.int .u64 0,.int .u64 0]):=hZ (by rw [← hW0,← hqb];exact ((((Bk.newAt _ _ _ _ (by simp)).alloc _).alloc _).alloc _).drewN 1)
 have HT0:Hid (Bk W0 (qb+1+1+1) 217 #[.bool false,.int .u64 0,.int .u64 0]):=hZ (by rw [← hW0,← hqb];exact (((Bk.newAt _ _ _ _ (by simp)).alloc _).alloc _).drewN 1)
 have HQ0:Hid (Bk W0 (qb+1+1+1+1) 217 #[.bool false,.int .u64 qh,.int .u64 0]):=hZ (by rw [← hW0,← hqb];exact ((Bk.newAt _ _ _ _ (by simp)).alloc _).drewN 1)
 have HR0:Hid (Bk W0 (qb+1+1+1+1+1) 217 #[.bool false,.int .u64 0,.int .u64 0]):=hZ (by rw [← hW0,← hqb];exact (Bk.newAt _ _ _ _ (by simp)).drewN 1)
 have HB0:Hid (Below qb w W0):=hZ (by rw [← hW0,← hqb];exact (((((((Below.refl _ w).alloc (Nat.le_refl _) _).alloc (by simp) _).alloc (by simp <;> omega) _).alloc (by simp <;> omega) _).alloc (by simp <;> omega) _).alloc (by simp <;> omega) _).drew)
 rw [hW0,hqb];have HQB:=hZ hqb;clear hW0 hqb;have b1:W0.cell? ⟨qb+1,2,none⟩=some (.int .u64 b):=HY0.out.cell 2;have a2:W0.cell? ⟨qb,2,none⟩=some (.int .u64 ln):=HA0.out.cell 2;go_wp2_with fail
 refine (HD.out _).mono ?_
 rintro e w1 ⟨rfl,hw1⟩;have HA1:Hid (Bk w1 (qb) 217 #[.bool n,.int .u64 hn,.int .u64 ln]):=hZ (HA0.out.below hw1 HA0.out.lt);have HS1:Hid (Bk w1 (qb+1+1) 217 #[.bool false,.int .u64 0,.int .u64 0]):=hZ (HS0.out.below hw1 HS0.out.lt);have HT1:Hid (Bk w1 (qb+1+1+1) 217 #[.bool false,.int .u64 0,.int .u64 0]):=hZ (HT0.out.below hw1 HT0.out.lt);have HQ1:Hid (Bk w1 (qb+1+1+1+1) 217 #[.bool false,.int .u64 qh,.int .u64 0]):=hZ (HQ0.out.below hw1 HQ0.out.lt);have HR1:Hid (Bk w1 (qb+1+1+1+1+1) 217 #[.bool false,.int .u64 0,.int .u64 0]):=hZ (HR0.out.below hw1 HR0.out.lt);have HB1:Hid (Below qb w w1):=hZ (HB0.out.trans (hw1.mono (Nat.le_of_lt HA0.out.lt)));clear hw1 b1 a2;obtain ⟨ql,hql⟩:∃ z:Nat,(rh * 18446744073709551616+ln) / b=z:=⟨_,rfl⟩;obtain ⟨rl,hrl⟩:∃ z:Nat,(rh * 18446744073709551616+ln) % b=z:=⟨_,rfl⟩;rw [hql,hrl];rw [hql] at p1 p3;rw [hrl] at p2;have q2:w1.cell? ⟨qb+1+1+1+1,2,none⟩=some (.int .u64 0):=HQ1.out.cell 2;have r2:w1.cell? ⟨qb+1+1+1+1+1,2,none⟩=some (.int .u64 0):=HR1.out.cell 2;have qf:w1.frozen? ⟨qb+1+1+1+1,2,none⟩=false:=HQ1.out.free 2;have rf:w1.frozen? ⟨qb+1+1+1+1+1,2,none⟩=false:=HR1.out.free 2;clear hql hrl;go_upto_region 7 with (fail);clear q2 r2 qf rf;obtain ⟨W2,hW2⟩:=eX ((w1.setCell ⟨qb+1+1+1+1,2,none⟩ (.int .u64 ql)).setCell ⟨qb+1+1+1+1+1,2,none⟩ (.int .u64 rl));have HA2:Hid (Bk W2 (qb) 217 #[.bool n,.int .u64 hn,.int .u64 ln]):=hZ (by rw [← hW2];exact (HA1.out.far (p:=⟨qb+1+1+1+1,2,none⟩) (by simp <;> omega) _).far (p:=⟨qb+1+1+1+1+1,2,none⟩) (by simp <;> omega) _)
 have HS2:Hid (Bk W2 (qb+1+1) 217 #[.bool false,.int .u64 0,.int .u64 0]):=hZ (by rw [← hW2];exact (HS1.out.far (p:=⟨qb+1+1+1+1,2,none⟩) (by simp <;> omega) _).far (p:=⟨qb+1+1+1+1+1,2,none⟩) (by simp <;> omega) _)
 have HT2:Hid (Bk W2 (qb+1+1+1) 217 #[.bool false,.int .u64 0,.int .u64 0]):=hZ (by rw [← hW2];exact (HT1.out.far (p:=⟨qb+1+1+1+1,2,none⟩) (by simp <;> omega) _).far (p:=⟨qb+1+1+1+1+1,2,none⟩) (by simp <;> omega) _)
 have HQ2:Hid (Bk W2 (qb+1+1+1+1) 217 #[.bool false,.int .u64 qh,.int .u64 ql]):=hZ (by rw [← hW2];exact (HQ1.out.set 2 (.int .u64 ql)).far (p:=⟨qb+1+1+1+1+1,2,none⟩) (by simp <;> omega) _)
 have HR2:Hid (Bk W2 (qb+1+1+1+1+1) 217 #[.bool false,.int .u64 0,.int .u64 rl]):=hZ (by rw [← hW2];exact (HR1.out.far (p:=⟨qb+1+1+1+1,2,none⟩) (by simp <;> omega) _).set 2 (.int .u64 rl))
 have HB2:Hid (Below qb w W2):=hZ (by rw [← hW2];exact (HB1.out.setCell (p:=⟨qb+1+1+1+1,2,none⟩) (by simp <;> omega) _).setCell (p:=⟨qb+1+1+1+1+1,2,none⟩) (by simp <;> omega) _)
 rw [hW2];clear hW2;obtain ⟨gx,hgx⟩:=eX W2.heap.size;have HGX:Hid (qb+1+1+1+1+1<gx):=hZ (by rw [← hgx];exact HR2.out.lt)
 obtain ⟨W3,hW3⟩:=eX (W2.alloc (.cells #[.bool false,.int .u64 qh,.int .u64 ql] 217));have HX3:Hid (Bk W3 gx 217 #[.bool false,.int .u64 qh,.int .u64 ql]):=hZ (by rw [← hW3,← hgx];exact Bk.new _ _ _)
 have HA3:Hid (Bk W3 (qb) 217 #[.bool n,.int .u64 hn,.int .u64 ln]):=hZ (by rw [← hW3];exact HA2.out.alloc _)
 have HS3:Hid (Bk W3 (qb+1+1) 217 #[.bool false,.int .u64 0,.int .u64 0]):=hZ (by rw [← hW3];exact HS2.out.alloc _)
 have HT3:Hid (Bk W3 (qb+1+1+1) 217 #[.bool false,.int .u64 0,.int .u64 0]):=hZ (by rw [← hW3];exact HT2.out.alloc _)
 have HQ3:Hid (Bk W3 (qb+1+1+1+1) 217 #[.bool false,.int .u64 qh,.int .u64 ql]):=hZ (by rw [← hW3];exact HQ2.out.alloc _)
 have HR3:Hid (Bk W3 (qb+1+1+1+1+1) 217 #[.bool false,.int .u64 0,.int .u64 rl]):=hZ (by rw [← hW3];exact HR2.out.alloc _)
 have HB3:Hid (Below qb w W3):=hZ (by rw [← hW3];exact HB2.out.alloc (Nat.le_of_lt HA2.out.lt) _)
 go_upto_region 8 with ((refine wpLoadAt rfl 217 _ rfl (qb+1+1+1+1) 0 rfl #[.bool false,.int .u64 qh,.int .u64 ql] _ (fun j u hj=>by rw [Nat.zero_add,HQ2.out.cell];exact hj) u_big rfl i_big ?_))
 clear hW3 hgx;go_wp2_with ((refine wpLoadAt rfl 217 _ rfl (qb+1+1+1+1+1) 0 rfl #[.bool false,.int .u64 0,.int .u64 rl] _ (fun j u hj=>by rw [Nat.zero_add,HR3.out.cell];exact hj) u_big rfl i_big ?_))
 refine (zero_any false 0 rl _).mono ?_
 rintro e w4 ⟨rfl,hw4⟩;have HA4:Hid (Bk w4 (qb) 217 #[.bool n,.int .u64 hn,.int .u64 ln]):=hZ (HA3.out.below hw4 HA3.out.lt);have HS4:Hid (Bk w4 (qb+1+1) 217 #[.bool false,.int .u64 0,.int .u64 0]):=hZ (HS3.out.below hw4 HS3.out.lt);have HT4:Hid (Bk w4 (qb+1+1+1) 217 #[.bool false,.int .u64 0,.int .u64 0]):=hZ (HT3.out.below hw4 HT3.out.lt);have HQ4:Hid (Bk w4 (qb+1+1+1+1) 217 #[.bool false,.int .u64 qh,.int .u64 ql]):=hZ (HQ3.out.below hw4 HQ3.out.lt);have HX4:Hid (Bk w4 gx 217 #[.bool false,.int .u64 qh,.int .u64 ql]):=hZ (HX3.out.below hw4 HX3.out.lt);have HB4:Hid (Below qb w w4):=hZ (HB3.out.trans (hw4.mono (Nat.le_of_lt HA3.out.lt)));clear hw4;have HFIN:Hid (∀ xh xl:Nat,xh=(if rl=0 then m / b else m / b+1) / 18446744073709551616→xl=(if rl=0 then m / b else m / b+1) % 18446744073709551616 →
   (∀ w',Below qb w w'→n=false→DivP n m b w.heap.size w (.returned (.tuple #[.agg #[.bool false,.int .u64 qh,.int .u64 ql],.agg #[.bool false,.int .u64 xh,.int .u64 xl]])) w') ∧
   (∀ w',Below qb w w'→n=true→DivP n m b w.heap.size w (.returned (.tuple #[.agg #[.bool true,.int .u64 xh,.int .u64 xl],.agg #[.bool true,.int .u64 qh,.int .u64 ql]])) w')):=hZ (by
  intro xh xl ex el;have hq1:qh=m / b / 18446744073709551616:=by rw [p1];omega
  have hq2:ql=m / b % 18446744073709551616:=by rw [p1];omega
  have hc:ceilN m b=(if rl=0 then m / b else m / b+1):=by unfold ceilN;rw [p2]
  constructor
  ·intro w' hb' hn;subst hn;refine ⟨?_,by rw [HQB.out];exact hb'⟩
   unfold bigP;rw [if_neg (by decide),if_neg (by decide),hc,← hq1,← hq2,← ex,← el]
  ·intro w' hb' hn;subst hn;refine ⟨?_,by rw [HQB.out];exact hb'⟩
   unfold bigP;rw [if_pos rfl,if_pos rfl,hc,← hq1,← hq2,← ex,← el])
 have HQV:Hid (IsBig (.agg #[.bool false,.int .u64 qh,.int .u64 ql]) ((m / b:Nat):Int)∧m / b<170141183460469231731687303715884105728∧qh=m / b / 18446744073709551616∧ql=m / b % 18446744073709551616):=hZ (by
  have hq1:qh=m / b / 18446744073709551616:=by rw [p1];omega
  have hq2:ql=m / b % 18446744073709551616:=by rw [p1];omega
  exact ⟨big_of false (m / b) qh ql (by rw [← hq1]) (by rw [← hq2]),Nat.lt_of_le_of_lt (Nat.div_le_self _ _) hm,hq1,hq2⟩)
 clear e1 e2 e3 hqh hrh p1 p2 p3 hhn hln hm;obtain ⟨qq,hqq⟩:∃ z:Nat,m / b=z:=⟨_,rfl⟩;rw [hqq] at HFIN HQV;clear hqq;by_cases hz:rl=0
 ·rw [show (decide ((0:Int)=0) && decide ((rl:Int)=0))=true by simp [hz]]
  obtain ⟨w6,hw6⟩:=eX w4;subst hw6;obtain ⟨xh,hxh⟩:=eX qh;obtain ⟨xl,hxl⟩:=eX ql;have HFF:Hid (∀ w',Below qb w w'→n=false→DivP n m b w.heap.size w (.returned (.tuple #[.agg #[.bool false,.int .u64 qh,.int .u64 ql],.agg #[.bool false,.int .u64 xh,.int .u64 xl]])) w'):=hZ (HFIN.out xh xl (by rw [if_pos hz,← hxh];exact HQV.out.2.2.1) (by rw [if_pos hz,← hxl];exact HQV.out.2.2.2)).1
  have HFT:Hid (∀ w',Below qb w w'→n=true→DivP n m b w.heap.size w (.returned (.tuple #[.agg #[.bool true,.int .u64 xh,.int .u64 xl],.agg #[.bool true,.int .u64 qh,.int .u64 ql]])) w'):=hZ (HFIN.out xh xl (by rw [if_pos hz,← hxh];exact HQV.out.2.2.1) (by rw [if_pos hz,← hxl];exact HQV.out.2.2.2)).2
  have HX6:Hid (Bk w4 gx 217 #[.bool false,.int .u64 xh,.int .u64 xl]):=hZ (by rw [← hxh,← hxl];exact HX4.out)
  have HA6:=HA4;have HQ6:=HQ4;have HS7:=HS4;have HT7:=HT4;have HB7:=HB4;clear HFIN hxh hxl hz;have c0:w4.cell? ⟨qb,0,none⟩=some (.bool n):=HA6.out.cell 0;cases n
  ·go_upto_region 13 with (fail);clear c0;have cs0:w4.cell? ⟨qb+1+1+1+1,0,none⟩=some (.bool false):=HQ6.out.cell 0;have ct0:w4.cell? ⟨gx,0,none⟩=some (.bool false):=HX6.out.cell 0;have cu0:w4.cell? ⟨qb+1+1,0,none⟩=some (.bool false):=HS7.out.cell 0;have cv0:w4.cell? ⟨qb+1+1+1,0,none⟩=some (.bool false):=HT7.out.cell 0;have fu0:w4.frozen? ⟨qb+1+1,0,none⟩=false:=HS7.out.free 0;have fv0:w4.frozen? ⟨qb+1+1+1,0,none⟩=false:=HT7.out.free 0;have cs1:w4.cell? ⟨qb+1+1+1+1,1,none⟩=some (.int .u64 qh):=HQ6.out.cell 1;have ct1:w4.cell? ⟨gx,1,none⟩=some (.int .u64 xh):=HX6.out.cell 1;have cu1:w4.cell? ⟨qb+1+1,1,none⟩=some (.int .u64 0):=HS7.out.cell 1;have cv1:w4.cell? ⟨qb+1+1+1,1,none⟩=some (.int .u64 0):=HT7.out.cell 1;have fu1:w4.frozen? ⟨qb+1+1,1,none⟩=false:=HS7.out.free 1;have fv1:w4.frozen? ⟨qb+1+1+1,1,none⟩=false:=HT7.out.free 1;have cs2:w4.cell? ⟨qb+1+1+1+1,2,none⟩=some (.int .u64 ql):=HQ6.out.cell 2;have ct2:w4.cell? ⟨gx,2,none⟩=some (.int .u64 xl):=HX6.out.cell 2;have cu2:w4.cell? ⟨qb+1+1,2,none⟩=some (.int .u64 0):=HS7.out.cell 2;have cv2:w4.cell? ⟨qb+1+1+1,2,none⟩=some (.int .u64 0):=HT7.out.cell 2;have fu2:w4.frozen? ⟨qb+1+1,2,none⟩=false:=HS7.out.free 2;have fv2:w4.frozen? ⟨qb+1+1+1,2,none⟩=false:=HT7.out.free 2;have hg5:qb+1+1+1+1+1<gx:=HGX.out;have hg2:gx ≠ qb+1+1:=by omega
   have hg3:gx ≠ qb+1+1+1:=by omega
   have hg4:gx ≠ qb+1+1+1+1:=by omega
   have hh2:qb+1+1 ≠ gx:=by omega
   have hh3:qb+1+1+1 ≠ gx:=by omega
   have hh4:qb+1+1+1+1 ≠ gx:=by omega
   go_region
   obtain ⟨W8,hW8⟩:=eX (((((((w4.setCell ⟨qb+1+1,0,none⟩ (.bool false)).setCell ⟨qb+1+1,1,none⟩ (.int .u64 qh)).setCell ⟨qb+1+1,2,none⟩ (.int .u64 ql)).setCell ⟨qb+1+1+1,0,none⟩ (.bool false)).setCell ⟨qb+1+1+1,1,none⟩ (.int .u64 xh)).setCell ⟨qb+1+1+1,2,none⟩ (.int .u64 xl)).drew);have HS8:Hid (Bk W8 (qb+1+1) 217 #[.bool false,.int .u64 qh,.int .u64 ql]):=hZ (by
    rw [← hW8];exact ((((((HS7.out.set 0 (.bool false)).set 1 (.int .u64 qh)).set 2 (.int .u64 ql)).far (p:=⟨qb+1+1+1,0,none⟩) (by simp <;> omega) _).far (p:=⟨qb+1+1+1,1,none⟩) (by simp <;> omega) _).far (p:=⟨qb+1+1+1,2,none⟩) (by simp <;> omega) _).drewN 1)
   have HT8:Hid (Bk W8 (qb+1+1+1) 217 #[.bool false,.int .u64 xh,.int .u64 xl]):=hZ (by
    rw [← hW8];exact ((((((HT7.out.far (p:=⟨qb+1+1,0,none⟩) (by simp <;> omega) _).far (p:=⟨qb+1+1,1,none⟩) (by simp <;> omega) _).far (p:=⟨qb+1+1,2,none⟩) (by simp <;> omega) _).set 0 (.bool false)).set 1 (.int .u64 xh)).set 2 (.int .u64 xl)).drewN 1)
   have HB8:Hid (Below qb w W8):=hZ (by
    rw [← hW8];exact ((((((HB7.out.setCell (p:=⟨qb+1+1,0,none⟩) (by simp <;> omega) _).setCell (p:=⟨qb+1+1,1,none⟩) (by simp <;> omega) _).setCell (p:=⟨qb+1+1,2,none⟩) (by simp <;> omega) _).setCell (p:=⟨qb+1+1+1,0,none⟩) (by simp <;> omega) _).setCell (p:=⟨qb+1+1+1,1,none⟩) (by simp <;> omega) _).setCell (p:=⟨qb+1+1+1,2,none⟩) (by simp <;> omega) _).drew)
   rw [hW8];clear hW8 cs0 ct0 cu0 cv0 fu0 fv0 cs1 ct1 cu1 cv1 fu1 fv1 cs2 ct2 cu2 cv2 fu2 fv2;go_wp2_with fail
   exact ret_big2 rfl rfl rfl rfl HS8.out HT8.out (HFF.out _ HB8.out (by simp))
  ·have x0:w4.cell? ⟨gx,0,none⟩=some (.bool false):=HX6.out.cell 0;have y0:w4.cell? ⟨qb+1+1+1+1,0,none⟩=some (.bool false):=HQ6.out.cell 0;have xf:w4.frozen? ⟨gx,0,none⟩=false:=HX6.out.free 0;have yf:w4.frozen? ⟨qb+1+1+1+1,0,none⟩=false:=HQ6.out.free 0;have hgx:qb+1+1+1+1+1<gx:=HGX.out;have hne:(qb+1+1+1+1=gx)=False:=by simp;omega
   have hne':(gx=qb+1+1+1+1)=False:=by simp;omega
   go_upto_region 12 with (fail);clear c0 x0 y0 xf yf hne hne';obtain ⟨w7,hw7⟩:=eX ((w4.setCell ⟨gx,0,none⟩ (.bool true)).setCell ⟨qb+1+1+1+1,0,none⟩ (.bool true));have HX7:Hid (Bk w7 gx 217 #[.bool true,.int .u64 xh,.int .u64 xl]):=hZ (by rw [← hw7];exact (HX6.out.set 0 (.bool true)).far (p:=⟨qb+1+1+1+1,0,none⟩) (by simp <;> omega) _)
   have HQ7:Hid (Bk w7 (qb+1+1+1+1) 217 #[.bool true,.int .u64 qh,.int .u64 ql]):=hZ (by rw [← hw7];exact (HQ6.out.far (p:=⟨gx,0,none⟩) (by simp <;> omega) _).set 0 (.bool true))
   have HS7:Hid (Bk w7 (qb+1+1) 217 #[.bool false,.int .u64 0,.int .u64 0]):=hZ (by rw [← hw7];exact (HS7.out.far (p:=⟨gx,0,none⟩) (by simp <;> omega) _).far (p:=⟨qb+1+1+1+1,0,none⟩) (by simp <;> omega) _)
   have HT7:Hid (Bk w7 (qb+1+1+1) 217 #[.bool false,.int .u64 0,.int .u64 0]):=hZ (by rw [← hw7];exact (HT7.out.far (p:=⟨gx,0,none⟩) (by simp <;> omega) _).far (p:=⟨qb+1+1+1+1,0,none⟩) (by simp <;> omega) _)
   have HB7:Hid (Below qb w w7):=hZ (by rw [← hw7];exact (HB7.out.setCell (p:=⟨gx,0,none⟩) (by simp <;> omega) _).setCell (p:=⟨qb+1+1+1+1,0,none⟩) (by simp <;> omega) _)
   rw [hw7];clear hw7 hgx;have cs0:w7.cell? ⟨gx,0,none⟩=some (.bool true):=HX7.out.cell 0;have ct0:w7.cell? ⟨qb+1+1+1+1,0,none⟩=some (.bool true):=HQ7.out.cell 0;have cu0:w7.cell? ⟨qb+1+1,0,none⟩=some (.bool false):=HS7.out.cell 0;have cv0:w7.cell? ⟨qb+1+1+1,0,none⟩=some (.bool false):=HT7.out.cell 0;have fu0:w7.frozen? ⟨qb+1+1,0,none⟩=false:=HS7.out.free 0;have fv0:w7.frozen? ⟨qb+1+1+1,0,none⟩=false:=HT7.out.free 0;have cs1:w7.cell? ⟨gx,1,none⟩=some (.int .u64 xh):=HX7.out.cell 1;have ct1:w7.cell? ⟨qb+1+1+1+1,1,none⟩=some (.int .u64 qh):=HQ7.out.cell 1;have cu1:w7.cell? ⟨qb+1+1,1,none⟩=some (.int .u64 0):=HS7.out.cell 1;have cv1:w7.cell? ⟨qb+1+1+1,1,none⟩=some (.int .u64 0):=HT7.out.cell 1;have fu1:w7.frozen? ⟨qb+1+1,1,none⟩=false:=HS7.out.free 1;have fv1:w7.frozen? ⟨qb+1+1+1,1,none⟩=false:=HT7.out.free 1;have cs2:w7.cell? ⟨gx,2,none⟩=some (.int .u64 xl):=HX7.out.cell 2;have ct2:w7.cell? ⟨qb+1+1+1+1,2,none⟩=some (.int .u64 ql):=HQ7.out.cell 2;have cu2:w7.cell? ⟨qb+1+1,2,none⟩=some (.int .u64 0):=HS7.out.cell 2;have cv2:w7.cell? ⟨qb+1+1+1,2,none⟩=some (.int .u64 0):=HT7.out.cell 2;have fu2:w7.frozen? ⟨qb+1+1,2,none⟩=false:=HS7.out.free 2;have fv2:w7.frozen? ⟨qb+1+1+1,2,none⟩=false:=HT7.out.free 2;have hg5:qb+1+1+1+1+1<gx:=HGX.out;have hg2:gx ≠ qb+1+1:=by omega
   have hg3:gx ≠ qb+1+1+1:=by omega
   have hg4:gx ≠ qb+1+1+1+1:=by omega
   have hh2:qb+1+1 ≠ gx:=by omega
   have hh3:qb+1+1+1 ≠ gx:=by omega
   have hh4:qb+1+1+1+1 ≠ gx:=by omega
   go_region
   obtain ⟨W8,hW8⟩:=eX (((((((w7.setCell ⟨qb+1+1,0,none⟩ (.bool true)).setCell ⟨qb+1+1,1,none⟩ (.int .u64 xh)).setCell ⟨qb+1+1,2,none⟩ (.int .u64 xl)).setCell ⟨qb+1+1+1,0,none⟩ (.bool true)).setCell ⟨qb+1+1+1,1,none⟩ (.int .u64 qh)).setCell ⟨qb+1+1+1,2,none⟩ (.int .u64 ql)).drew);have HS8:Hid (Bk W8 (qb+1+1) 217 #[.bool true,.int .u64 xh,.int .u64 xl]):=hZ (by
    rw [← hW8];exact ((((((HS7.out.set 0 (.bool true)).set 1 (.int .u64 xh)).set 2 (.int .u64 xl)).far (p:=⟨qb+1+1+1,0,none⟩) (by simp <;> omega) _).far (p:=⟨qb+1+1+1,1,none⟩) (by simp <;> omega) _).far (p:=⟨qb+1+1+1,2,none⟩) (by simp <;> omega) _).drewN 1)
   have HT8:Hid (Bk W8 (qb+1+1+1) 217 #[.bool true,.int .u64 qh,.int .u64 ql]):=hZ (by
    rw [← hW8];exact ((((((HT7.out.far (p:=⟨qb+1+1,0,none⟩) (by simp <;> omega) _).far (p:=⟨qb+1+1,1,none⟩) (by simp <;> omega) _).far (p:=⟨qb+1+1,2,none⟩) (by simp <;> omega) _).set 0 (.bool true)).set 1 (.int .u64 qh)).set 2 (.int .u64 ql)).drewN 1)
   have HB8:Hid (Below qb w W8):=hZ (by
    rw [← hW8];exact ((((((HB7.out.setCell (p:=⟨qb+1+1,0,none⟩) (by simp <;> omega) _).setCell (p:=⟨qb+1+1,1,none⟩) (by simp <;> omega) _).setCell (p:=⟨qb+1+1,2,none⟩) (by simp <;> omega) _).setCell (p:=⟨qb+1+1+1,0,none⟩) (by simp <;> omega) _).setCell (p:=⟨qb+1+1+1,1,none⟩) (by simp <;> omega) _).setCell (p:=⟨qb+1+1+1,2,none⟩) (by simp <;> omega) _).drew)
   rw [hW8];clear hW8 cs0 ct0 cu0 cv0 fu0 fv0 cs1 ct1 cu1 cv1 fu1 fv1 cs2 ct2 cu2 cv2 fu2 fv2;go_wp2_with fail
   exact ret_big2 rfl rfl rfl rfl HS8.out HT8.out (HFT.out _ HB8.out (by simp))
 ·rw [show (decide ((0:Int)=0) && decide ((rl:Int)=0))=false by simp [hz]]
  have y1:w4.cell? ⟨qb+1+1+1+1,1,none⟩=some (.int .u64 qh):=HQ4.out.cell 1;have y2:w4.cell? ⟨qb+1+1+1+1,2,none⟩=some (.int .u64 ql):=HQ4.out.cell 2;go_wp2_with fail
  refine (plus_any HQV.out.1 (big_of false 1 0 1 (by decide) (by decide)) ⟨by have:=HQV.out.2.1;omega,by have:=HQV.out.2.1;omega⟩ ⟨by decide,by decide⟩ _).mono ?_
  rintro e w5 ⟨r,rfl,hr,hw5⟩;obtain ⟨n',m',rfl,hp,hv⟩:=hr;have hs:=val_size hp hv;have hv1:valI false 1=1:=rfl;rw [show ((1:Nat):Int)=1 from rfl,hv1] at hv hs
  obtain ⟨xh,hxh⟩:∃ z:Nat,(qq+1) / 18446744073709551616=z:=⟨_,rfl⟩;obtain ⟨xl,hxl⟩:∃ z:Nat,(qq+1) % 18446744073709551616=z:=⟨_,rfl⟩;have hmm:m'=((qq+1:Nat):Int):=by omega
  have hnn:n'=false:=by
   cases n' with
   | false=>rfl
   | true=>exfalso;unfold valI at hv;rw [if_pos rfl] at hv;omega
  subst hmm hnn;rw [show bigN false ((qq+1:Nat):Int)=.agg #[.bool false,.int .u64 xh,.int .u64 xl] from by rw [← hxh,← hxl];exact bigV_isN (by omega) (by omega) |>.symm]
  have HFF:Hid (∀ w',Below qb w w'→n=false→DivP n m b w.heap.size w (.returned (.tuple #[.agg #[.bool false,.int .u64 qh,.int .u64 ql],.agg #[.bool false,.int .u64 xh,.int .u64 xl]])) w'):=hZ (HFIN.out xh xl (by rw [if_neg hz];exact hxh.symm) (by rw [if_neg hz];exact hxl.symm)).1
  have HFT:Hid (∀ w',Below qb w w'→n=true→DivP n m b w.heap.size w (.returned (.tuple #[.agg #[.bool true,.int .u64 xh,.int .u64 xl],.agg #[.bool true,.int .u64 qh,.int .u64 ql]])) w'):=hZ (HFIN.out xh xl (by rw [if_neg hz];exact hxh.symm) (by rw [if_neg hz];exact hxl.symm)).2
  have HA5:Hid (Bk w5 (qb) 217 #[.bool n,.int .u64 hn,.int .u64 ln]):=hZ (HA4.out.below hw5 HA4.out.lt);have HS5:Hid (Bk w5 (qb+1+1) 217 #[.bool false,.int .u64 0,.int .u64 0]):=hZ (HS4.out.below hw5 HS4.out.lt);have HT5:Hid (Bk w5 (qb+1+1+1) 217 #[.bool false,.int .u64 0,.int .u64 0]):=hZ (HT4.out.below hw5 HT4.out.lt);have HQ5:Hid (Bk w5 (qb+1+1+1+1) 217 #[.bool false,.int .u64 qh,.int .u64 ql]):=hZ (HQ4.out.below hw5 HQ4.out.lt);have HX5:Hid (Bk w5 gx 217 #[.bool false,.int .u64 qh,.int .u64 ql]):=hZ (HX4.out.below hw5 HX4.out.lt);have HB5:Hid (Below qb w w5):=hZ (HB4.out.trans (hw5.mono (Nat.le_of_lt HA4.out.lt)));clear HFIN hxh hxl hz hs hp hv hv1 hw5 y1 y2 HQV;go_upto_region 10 with ((refine wpStoreAt rfl rfl 217 _ _ rfl (gx) 0 rfl #[.bool false,.int .u64 xh,.int .u64 xl] rfl 217 _ HX5.out (by show 0+3≤3;omega) (one3 _ _ _) i_big ?_;intro w6 hkw6 how6))
  rw [splA_all #[.bool false,.int .u64 qh,.int .u64 ql] #[.bool false,.int .u64 xh,.int .u64 xl] rfl] at hkw6;have HX6:=hZ hkw6;have hgx2:qb+1+1+1+1+1<gx:=HGX.out;have HA6:Hid (Bk w6 (qb) 217 #[.bool n,.int .u64 hn,.int .u64 ln]):=hZ (HA5.out.only how6 (by omega))
  have HS7:Hid (Bk w6 (qb+1+1) 217 #[.bool false,.int .u64 0,.int .u64 0]):=hZ (HS5.out.only how6 (by omega))
  have HT7:Hid (Bk w6 (qb+1+1+1) 217 #[.bool false,.int .u64 0,.int .u64 0]):=hZ (HT5.out.only how6 (by omega))
  have HQ6:Hid (Bk w6 (qb+1+1+1+1) 217 #[.bool false,.int .u64 qh,.int .u64 ql]):=hZ (HQ5.out.only how6 (by omega))
  have HB7:Hid (Below qb w w6):=hZ (HB5.out.trans (how6.below (by omega)))
  clear hkw6 how6 hgx2;have c0:w6.cell? ⟨qb,0,none⟩=some (.bool n):=HA6.out.cell 0;cases n
  ·go_upto_region 13 with (fail);clear c0;have cs0:w6.cell? ⟨qb+1+1+1+1,0,none⟩=some (.bool false):=HQ6.out.cell 0;have ct0:w6.cell? ⟨gx,0,none⟩=some (.bool false):=HX6.out.cell 0;have cu0:w6.cell? ⟨qb+1+1,0,none⟩=some (.bool false):=HS7.out.cell 0;have cv0:w6.cell? ⟨qb+1+1+1,0,none⟩=some (.bool false):=HT7.out.cell 0;have fu0:w6.frozen? ⟨qb+1+1,0,none⟩=false:=HS7.out.free 0;have fv0:w6.frozen? ⟨qb+1+1+1,0,none⟩=false:=HT7.out.free 0;have cs1:w6.cell? ⟨qb+1+1+1+1,1,none⟩=some (.int .u64 qh):=HQ6.out.cell 1;have ct1:w6.cell? ⟨gx,1,none⟩=some (.int .u64 xh):=HX6.out.cell 1;have cu1:w6.cell? ⟨qb+1+1,1,none⟩=some (.int .u64 0):=HS7.out.cell 1;have cv1:w6.cell? ⟨qb+1+1+1,1,none⟩=some (.int .u64 0):=HT7.out.cell 1;have fu1:w6.frozen? ⟨qb+1+1,1,none⟩=false:=HS7.out.free 1;have fv1:w6.frozen? ⟨qb+1+1+1,1,none⟩=false:=HT7.out.free 1;have cs2:w6.cell? ⟨qb+1+1+1+1,2,none⟩=some (.int .u64 ql):=HQ6.out.cell 2;have ct2:w6.cell? ⟨gx,2,none⟩=some (.int .u64 xl):=HX6.out.cell 2;have cu2:w6.cell? ⟨qb+1+1,2,none⟩=some (.int .u64 0):=HS7.out.cell 2;have cv2:w6.cell? ⟨qb+1+1+1,2,none⟩=some (.int .u64 0):=HT7.out.cell 2;have fu2:w6.frozen? ⟨qb+1+1,2,none⟩=false:=HS7.out.free 2;have fv2:w6.frozen? ⟨qb+1+1+1,2,none⟩=false:=HT7.out.free 2;have hg5:qb+1+1+1+1+1<gx:=HGX.out;have hg2:gx ≠ qb+1+1:=by omega
   have hg3:gx ≠ qb+1+1+1:=by omega
   have hg4:gx ≠ qb+1+1+1+1:=by omega
   have hh2:qb+1+1 ≠ gx:=by omega
   have hh3:qb+1+1+1 ≠ gx:=by omega
   have hh4:qb+1+1+1+1 ≠ gx:=by omega
   go_region
   obtain ⟨W8,hW8⟩:=eX (((((((w6.setCell ⟨qb+1+1,0,none⟩ (.bool false)).setCell ⟨qb+1+1,1,none⟩ (.int .u64 qh)).setCell ⟨qb+1+1,2,none⟩ (.int .u64 ql)).setCell ⟨qb+1+1+1,0,none⟩ (.bool false)).setCell ⟨qb+1+1+1,1,none⟩ (.int .u64 xh)).setCell ⟨qb+1+1+1,2,none⟩ (.int .u64 xl)).drew);have HS8:Hid (Bk W8 (qb+1+1) 217 #[.bool false,.int .u64 qh,.int .u64 ql]):=hZ (by
    rw [← hW8];exact ((((((HS7.out.set 0 (.bool false)).set 1 (.int .u64 qh)).set 2 (.int .u64 ql)).far (p:=⟨qb+1+1+1,0,none⟩) (by simp <;> omega) _).far (p:=⟨qb+1+1+1,1,none⟩) (by simp <;> omega) _).far (p:=⟨qb+1+1+1,2,none⟩) (by simp <;> omega) _).drewN 1)
   have HT8:Hid (Bk W8 (qb+1+1+1) 217 #[.bool false,.int .u64 xh,.int .u64 xl]):=hZ (by
    rw [← hW8];exact ((((((HT7.out.far (p:=⟨qb+1+1,0,none⟩) (by simp <;> omega) _).far (p:=⟨qb+1+1,1,none⟩) (by simp <;> omega) _).far (p:=⟨qb+1+1,2,none⟩) (by simp <;> omega) _).set 0 (.bool false)).set 1 (.int .u64 xh)).set 2 (.int .u64 xl)).drewN 1)
   have HB8:Hid (Below qb w W8):=hZ (by
    rw [← hW8];exact ((((((HB7.out.setCell (p:=⟨qb+1+1,0,none⟩) (by simp <;> omega) _).setCell (p:=⟨qb+1+1,1,none⟩) (by simp <;> omega) _).setCell (p:=⟨qb+1+1,2,none⟩) (by simp <;> omega) _).setCell (p:=⟨qb+1+1+1,0,none⟩) (by simp <;> omega) _).setCell (p:=⟨qb+1+1+1,1,none⟩) (by simp <;> omega) _).setCell (p:=⟨qb+1+1+1,2,none⟩) (by simp <;> omega) _).drew)
   rw [hW8];clear hW8 cs0 ct0 cu0 cv0 fu0 fv0 cs1 ct1 cu1 cv1 fu1 fv1 cs2 ct2 cu2 cv2 fu2 fv2;go_wp2_with fail
   exact ret_big2 rfl rfl rfl rfl HS8.out HT8.out (HFF.out _ HB8.out (by simp))
  ·have x0:w6.cell? ⟨gx,0,none⟩=some (.bool false):=HX6.out.cell 0;have y0:w6.cell? ⟨qb+1+1+1+1,0,none⟩=some (.bool false):=HQ6.out.cell 0;have xf:w6.frozen? ⟨gx,0,none⟩=false:=HX6.out.free 0;have yf:w6.frozen? ⟨qb+1+1+1+1,0,none⟩=false:=HQ6.out.free 0;have hgx:qb+1+1+1+1+1<gx:=HGX.out;have hne:(qb+1+1+1+1=gx)=False:=by simp;omega
   have hne':(gx=qb+1+1+1+1)=False:=by simp;omega
   go_upto_region 12 with (fail);clear c0 x0 y0 xf yf hne hne';obtain ⟨w7,hw7⟩:=eX ((w6.setCell ⟨gx,0,none⟩ (.bool true)).setCell ⟨qb+1+1+1+1,0,none⟩ (.bool true));have HX7:Hid (Bk w7 gx 217 #[.bool true,.int .u64 xh,.int .u64 xl]):=hZ (by rw [← hw7];exact (HX6.out.set 0 (.bool true)).far (p:=⟨qb+1+1+1+1,0,none⟩) (by simp <;> omega) _)
   have HQ7:Hid (Bk w7 (qb+1+1+1+1) 217 #[.bool true,.int .u64 qh,.int .u64 ql]):=hZ (by rw [← hw7];exact (HQ6.out.far (p:=⟨gx,0,none⟩) (by simp <;> omega) _).set 0 (.bool true))
   have HS7:Hid (Bk w7 (qb+1+1) 217 #[.bool false,.int .u64 0,.int .u64 0]):=hZ (by rw [← hw7];exact (HS7.out.far (p:=⟨gx,0,none⟩) (by simp <;> omega) _).far (p:=⟨qb+1+1+1+1,0,none⟩) (by simp <;> omega) _)
   have HT7:Hid (Bk w7 (qb+1+1+1) 217 #[.bool false,.int .u64 0,.int .u64 0]):=hZ (by rw [← hw7];exact (HT7.out.far (p:=⟨gx,0,none⟩) (by simp <;> omega) _).far (p:=⟨qb+1+1+1+1,0,none⟩) (by simp <;> omega) _)
   have HB7:Hid (Below qb w w7):=hZ (by rw [← hw7];exact (HB7.out.setCell (p:=⟨gx,0,none⟩) (by simp <;> omega) _).setCell (p:=⟨qb+1+1+1+1,0,none⟩) (by simp <;> omega) _)
   rw [hw7];clear hw7 hgx;have cs0:w7.cell? ⟨gx,0,none⟩=some (.bool true):=HX7.out.cell 0;have ct0:w7.cell? ⟨qb+1+1+1+1,0,none⟩=some (.bool true):=HQ7.out.cell 0;have cu0:w7.cell? ⟨qb+1+1,0,none⟩=some (.bool false):=HS7.out.cell 0;have cv0:w7.cell? ⟨qb+1+1+1,0,none⟩=some (.bool false):=HT7.out.cell 0;have fu0:w7.frozen? ⟨qb+1+1,0,none⟩=false:=HS7.out.free 0;have fv0:w7.frozen? ⟨qb+1+1+1,0,none⟩=false:=HT7.out.free 0;have cs1:w7.cell? ⟨gx,1,none⟩=some (.int .u64 xh):=HX7.out.cell 1;have ct1:w7.cell? ⟨qb+1+1+1+1,1,none⟩=some (.int .u64 qh):=HQ7.out.cell 1;have cu1:w7.cell? ⟨qb+1+1,1,none⟩=some (.int .u64 0):=HS7.out.cell 1;have cv1:w7.cell? ⟨qb+1+1+1,1,none⟩=some (.int .u64 0):=HT7.out.cell 1;have fu1:w7.frozen? ⟨qb+1+1,1,none⟩=false:=HS7.out.free 1;have fv1:w7.frozen? ⟨qb+1+1+1,1,none⟩=false:=HT7.out.free 1;have cs2:w7.cell? ⟨gx,2,none⟩=some (.int .u64 xl):=HX7.out.cell 2;have ct2:w7.cell? ⟨qb+1+1+1+1,2,none⟩=some (.int .u64 ql):=HQ7.out.cell 2;have cu2:w7.cell? ⟨qb+1+1,2,none⟩=some (.int .u64 0):=HS7.out.cell 2;have cv2:w7.cell? ⟨qb+1+1+1,2,none⟩=some (.int .u64 0):=HT7.out.cell 2;have fu2:w7.frozen? ⟨qb+1+1,2,none⟩=false:=HS7.out.free 2;have fv2:w7.frozen? ⟨qb+1+1+1,2,none⟩=false:=HT7.out.free 2;have hg5:qb+1+1+1+1+1<gx:=HGX.out;have hg2:gx ≠ qb+1+1:=by omega
   have hg3:gx ≠ qb+1+1+1:=by omega
   have hg4:gx ≠ qb+1+1+1+1:=by omega
   have hh2:qb+1+1 ≠ gx:=by omega
   have hh3:qb+1+1+1 ≠ gx:=by omega
   have hh4:qb+1+1+1+1 ≠ gx:=by omega
   go_region
   obtain ⟨W8,hW8⟩:=eX (((((((w7.setCell ⟨qb+1+1,0,none⟩ (.bool true)).setCell ⟨qb+1+1,1,none⟩ (.int .u64 xh)).setCell ⟨qb+1+1,2,none⟩ (.int .u64 xl)).setCell ⟨qb+1+1+1,0,none⟩ (.bool true)).setCell ⟨qb+1+1+1,1,none⟩ (.int .u64 qh)).setCell ⟨qb+1+1+1,2,none⟩ (.int .u64 ql)).drew);have HS8:Hid (Bk W8 (qb+1+1) 217 #[.bool true,.int .u64 xh,.int .u64 xl]):=hZ (by
    rw [← hW8];exact ((((((HS7.out.set 0 (.bool true)).set 1 (.int .u64 xh)).set 2 (.int .u64 xl)).far (p:=⟨qb+1+1+1,0,none⟩) (by simp <;> omega) _).far (p:=⟨qb+1+1+1,1,none⟩) (by simp <;> omega) _).far (p:=⟨qb+1+1+1,2,none⟩) (by simp <;> omega) _).drewN 1)
   have HT8:Hid (Bk W8 (qb+1+1+1) 217 #[.bool true,.int .u64 qh,.int .u64 ql]):=hZ (by
    rw [← hW8];exact ((((((HT7.out.far (p:=⟨qb+1+1,0,none⟩) (by simp <;> omega) _).far (p:=⟨qb+1+1,1,none⟩) (by simp <;> omega) _).far (p:=⟨qb+1+1,2,none⟩) (by simp <;> omega) _).set 0 (.bool true)).set 1 (.int .u64 qh)).set 2 (.int .u64 ql)).drewN 1)
   have HB8:Hid (Below qb w W8):=hZ (by
    rw [← hW8];exact ((((((HB7.out.setCell (p:=⟨qb+1+1,0,none⟩) (by simp <;> omega) _).setCell (p:=⟨qb+1+1,1,none⟩) (by simp <;> omega) _).setCell (p:=⟨qb+1+1,2,none⟩) (by simp <;> omega) _).setCell (p:=⟨qb+1+1+1,0,none⟩) (by simp <;> omega) _).setCell (p:=⟨qb+1+1+1,1,none⟩) (by simp <;> omega) _).setCell (p:=⟨qb+1+1+1,2,none⟩) (by simp <;> omega) _).drew)
   rw [hW8];clear hW8 cs0 ct0 cu0 cv0 fu0 fv0 cs1 ct1 cu1 cv1 fu1 fv1 cs2 ct2 cu2 cv2 fu2 fv2;go_wp2_with fail
   exact ret_big2 rfl rfl rfl rfl HS8.out HT8.out (HFT.out _ HB8.out (by simp))
theorem divP_big (n:Bool) (m b:Nat) (hb:0<b):IsBig (bigP n (if n=true then ceilN m b else m / b)) (valI n m / b)∧IsBig (bigP n (if n=true then m / b else ceilN m b)) (-(-(valI n m) / b)):=by
 have hc:=ceil_nat m b hb;have hf:(m:Int) / (b:Int)=((m / b:Nat):Int):=(Int.natCast_ediv _ _).symm;have k:=fun n c=>big_of n c _ _ rfl rfl;cases n
 ·rw [if_neg (by decide),if_neg (by decide)]
  rw [show valI false (m:Int) / (b:Int)=valI false ((m / b:Nat):Int) from hf,show -(-(valI false (m:Int)) / (b:Int))=valI false ((ceilN m b:Nat):Int) from hc]
  exact ⟨k _ _,k _ _⟩
 ·rw [if_pos rfl,if_pos rfl];rw [show valI true (m:Int) / (b:Int)=valI true ((ceilN m b:Nat):Int) from by show -(m:Int) / (b:Int)=-((if m % b=0 then m / b else m / b+1:Nat):Int);omega,show -(-(valI true (m:Int)) / (b:Int))=valI true ((m / b:Nat):Int) from by show -(-(-(m:Int)) / (b:Int))=-_;rw [Int.neg_neg,hf]]
  exact ⟨k _ _,k _ _⟩
theorem divide_any (n:Bool) (m b:Nat) (hb:0<b) (hb2:b<18446744073709551616) (hm:m<170141183460469231731687303715884105728) (w:World) :
  Calls Tryz.prog 140 #[bigV n (m / 18446744073709551616:Nat) (m % 18446744073709551616:Nat),bigV false 0 b] w
   (HulPost (valI n m / b) (-(-(valI n m) / b)) w.heap.size w):=by
 have h:=divP_big n m b hb;exact (divide_raw n m b hb hb2 hm w).mono fun e w' ⟨he,hw⟩=>⟨_,_,he,h.1,h.2,hw⟩

theorem allN_iff {n:Nat} {f:Nat→Bool}:allN n f=true ↔ ∀ i,i<n→f i=true:=by
 unfold allN;rw [List.all_eq_true];exact ⟨fun h i hi=>h i (List.mem_range.2 hi),fun h i hi=>h i (List.mem_range.1 hi)⟩
theorem allN_false {n:Nat} {q:Nat→Bool} {k:Nat} (hk:k<n) (h:q k=false):allN n q=false:=by unfold allN;rw [List.all_eq_false];exact ⟨k,by simpa using hk,by simp [h]⟩
def errC (a:SpanD):Int:=if chkB a=true then 0 else 2
theorem check_any (a:SpanD) (w:World):Calls Tryz.prog 71 #[spanV a] w fun e w'=>e=.returned (.int .i64 (errC a))∧Below w.heap.size w w':=by
 obtain ⟨lo,hi⟩:=a;have H1:=hZ (fun w=>valid_any lo w);have H2:=hZ (fun w=>valid_any hi w);obtain ⟨R,hR⟩:=eX (errC ⟨lo,hi⟩);rw [hR];unfold errC chkB at hR;dsimp only at hR;unfold spanV;dsimp only;cases v1:numB lo with
 | false =>
  have HR:Hid (R=2):=hZ (by rw [← hR,v1];rfl)
  rw [v1] at H1;clear v1 hR H2;go_enter Tryz.func71,Tryz.ntmps71;go_wp2_with fail
  refine (H1.out _).mono ?_
  rintro e w' ⟨rfl,rfl⟩;go_wp2_with fail
  go_ret
  exact ⟨ret_int HR.out.symm,(Below.refl _ w).alloc (Nat.le_refl _) _⟩
 | true =>
  cases v2:numB hi with
  | false =>
   have HR:Hid (R=2):=hZ (by rw [← hR,v1,v2];rfl)
   rw [v1] at H1;rw [v2] at H2;clear v1 v2 hR;go_enter Tryz.func71,Tryz.ntmps71;go_wp2_with fail
   refine (H1.out _).mono ?_
   rintro e w' ⟨rfl,rfl⟩;go_wp2_with fail
   refine (H2.out _).mono ?_
   rintro e w' ⟨rfl,rfl⟩;go_wp2_with fail
   go_ret
   exact ⟨ret_int HR.out.symm,(Below.refl _ w).alloc (Nat.le_refl _) _⟩
  | true =>
   by_cases h:hi<lo
   ·have HR:Hid (R=2):=hZ (by rw [← hR,v1,v2,decide_eq_false (show ¬ lo≤hi by omega)];rfl)
    have g:decide (hi<lo)=true:=decide_eq_true h;rw [v1] at H1;rw [v2] at H2;clear v1 v2 hR h;go_enter Tryz.func71,Tryz.ntmps71;go_wp2_with fail
    refine (H1.out _).mono ?_
    rintro e w' ⟨rfl,rfl⟩;go_wp2_with fail
    refine (H2.out _).mono ?_
    rintro e w' ⟨rfl,rfl⟩;go_wp2_with fail
    go_ret
    exact ⟨ret_int HR.out.symm,(Below.refl _ w).alloc (Nat.le_refl _) _⟩
   ·have HR:Hid (R=0):=hZ (by rw [← hR,v1,v2,decide_eq_true (show lo≤hi by omega)];rfl)
    have g:decide (hi<lo)=false:=decide_eq_false h;rw [v1] at H1;rw [v2] at H2;clear v1 v2 hR h;go_enter Tryz.func71,Tryz.ntmps71;go_wp2_with fail
    refine (H1.out _).mono ?_
    rintro e w' ⟨rfl,rfl⟩;go_wp2_with fail
    refine (H2.out _).mono ?_
    rintro e w' ⟨rfl,rfl⟩;go_wp2_with fail
    go_ret
    exact ⟨ret_int HR.out.symm,(Below.refl _ w).alloc (Nat.le_refl _) _⟩
def SpansAt (w:World) (B:Nat) (A:Option Addr) (n:Nat) (v:Nat→SpanD):Prop:=Sl w B 2 A n fun i j=>match j with | 0=>.int .i64 (v i).lo | _=>.int .i64 (v i).hi
theorem allErr {n k:Nat} {v:Nat→SpanD} (hk:k<n) (h:errC (v k) ≠ 0):(allN n fun i=>chkB (v i))=false:=by
 refine allN_false hk ?_
 cases e:chkB (v k) with
 | false=>rfl
 | true=>exact absurd (show errC (v k)=0 from if_pos e) h
theorem checked_any (w:World) (A:Option Addr) (n c:Nat) (v:Nat→SpanD) (h:SpansAt w w.heap.size A n v) (hn:n≤4096) :
  Calls Tryz.prog 127 #[.slice A n c] w fun e w'=>e=.returned (.int .i64 (if (allN n fun i=>chkB (v i))=true then 0 else 2))∧Below w.heap.size w w':=by
 have HL:=hZ h;obtain ⟨R,hR⟩:∃ R:Int,(if (allN n fun i=>chkB (v i))=true then (0:Int) else 2)=R:=⟨_,rfl⟩;have HR:=hZ hR;rw [hR];clear h hR;go_enter Tryz.func127,Tryz.ntmps127;go_wp2_with fail
 go_loopw [8] (fun iv wr=>∃ k:Nat,k≤n∧iv=.int .i64 k∧Hid (Below w.heap.size w wr∧∀ j,j<k→chkB (v j)=true)) (fun iv _=>n - (intOf iv).toNat)
 case atStart=>exact ⟨0,Nat.zero_le _,rfl,hZ ⟨Below.refl _ _,fun j hj=>absurd hj (Nat.not_lt_zero j)⟩⟩
 case round =>
  obtain ⟨wo,rfl⟩:∃ wo:World,wo=wr:=⟨_,rfl⟩;obtain ⟨k,hk,rfl,hs⟩:=hrel;have HB:=hZ hs.out.1;have HNO:=hZ hs.out.2;clear hs;have h0k:(0:Int)≤(k:Int):=by omega
  by_cases hlt:k<n
  ·have hki:(k:Int)<(n:Int):=by omega
   obtain ⟨b,off,rfl,_,d0,d1⟩:=(HL.out.below HB.out).at2 hlt;obtain ⟨x,hx⟩:=eX (v k);simp only [hx] at d0 d1;have H1:=hZ (fun w=>check_any x w);unfold spanV at H1;obtain ⟨er,her⟩:=eX (errC x);rw [her] at H1;have HX:=hZ hx;obtain ⟨xl,hxl⟩:=eX x.lo;obtain ⟨xh,hxh⟩:=eX x.hi;rw [hxl] at d0 H1;rw [hxh] at d1 H1;have HE:=hZ her;clear hx hxl hxh her;go_wp2_with fail
   refine (H1.out _).mono ?_
   rintro e w1 ⟨rfl,hb1⟩;have HB1:Hid (Below w.heap.size w w1):=hZ ((HB.out.alloc HB.out.size _).trans (hb1.mono (by simp;have:=HB.out.size;omega)))
   clear hb1;by_cases he:er=0
   ·subst he;go_wp2_with fail
    go_roundw
    case rel=>exact ⟨k+1,by omega,by go_num,hZ ⟨HB1.out,fun j hj=>by
     by_cases ej:j=k
     ·subst ej;rw [HX.out];have:=HE.out;unfold errC at this;cases hc:chkB x with
      | true=>rfl
      | false=>rw [hc] at this;exact absurd this (by decide)
     ·exact HNO.out j (by omega)⟩⟩
    case measure=>simp [intOf];omega
   ·have hee:er=2:=by rw [← HE.out] at he ⊢;unfold errC at he ⊢;split at he <;> simp_all
    subst hee;have HF:Hid (R=2):=hZ (by rw [← HR.out,allErr hlt (by rw [HX.out,HE.out];decide)];rfl)
    clear he;go_wp2_with fail
    go_ret
    exact ⟨ret_int HF.out.symm,HB1.out⟩
  ·obtain rfl:k=n:=by omega
   have hki:¬ (k:Int)<(k:Int):=by omega
   have HF:Hid (R=0):=hZ (by
    rw [← HR.out,if_pos];rw [allN_iff];exact HNO.out)
   go_wp2_with fail
   go_ret
   exact ⟨ret_int HF.out.symm,HB.out⟩

theorem neg_any (a:SpanD) (ha:WdS a) (w:World):Calls Tryz.prog 64 #[spanV a] w (SpPost (negB a) w.heap.size w):=by
 obtain ⟨lo,hi⟩:=a;have H1:=hZ (fun w=>check_any ⟨lo,hi⟩ w);obtain ⟨qb,hqb⟩:=eX w.heap.size;obtain ⟨W0,hW0⟩:=eX ((w.alloc (.cells #[.int .i64 lo,.int .i64 hi] 31)).alloc (.cells #[.int .i64 0,.int .i64 0] 31));have HA:Hid (Bk W0 qb 31 #[.int .i64 lo,.int .i64 hi]):=hZ (by rw [← hW0,← hqb];exact (Bk.new _ _ _).alloc _)
 have HR:Hid (Bk W0 (qb+1) 31 #[.int .i64 0,.int .i64 0]):=hZ (by rw [← hW0,← hqb];exact Bk.newAt _ _ _ _ (by simp))
 have HB:Hid (Below qb w W0):=hZ (by rw [← hW0,← hqb];exact ((Below.refl _ w).alloc (Nat.le_refl _) _).alloc (by simp) _)
 have HFIN:Hid (∀ w',Below qb w w'→SpPost (negB ⟨lo,hi⟩) w.heap.size w (.returned (.tuple #[.agg #[.int .i64 (negB ⟨lo,hi⟩).1.lo,.int .i64 (negB ⟨lo,hi⟩).1.hi],.int .i64 (negB ⟨lo,hi⟩).2])) w'):=hZ fun w' h=>⟨rfl,by rw [hqb];exact h⟩
 obtain ⟨⟨a1,a2⟩,a3,a4⟩:=ha;dsimp only at a1 a2 a3 a4;unfold spanV at H1 ⊢;dsimp only at H1 ⊢;cases hc:chkB ⟨lo,hi⟩ with
 | false =>
  have he:errC ⟨lo,hi⟩=2:=by unfold errC;rw [hc];rfl
  have hn:negB ⟨lo,hi⟩=(zeroS,2):=by unfold negB;rw [hc];rfl
  rw [he] at H1;rw [hn] at HFIN ⊢;clear hc he hn;go_enter Tryz.func64,Tryz.ntmps64;go_upto_region 1 with (fail);clear hW0 hqb;go_wp2_with (refine wpLoadAt rfl 31 _ rfl qb 0 rfl #[.int .i64 lo,.int .i64 hi] _ (fun j u hj=>by rw [Nat.zero_add,HA.out.cell];exact hj) u_span rfl i_span ?_)
  refine (H1.out _).mono ?_
  rintro e w1 ⟨rfl,hw1⟩;have HR1:Hid (Bk w1 (qb+1) 31 #[.int .i64 0,.int .i64 0]):=hZ (HR.out.below hw1 HR.out.lt);have HB1:Hid (Below qb w w1):=hZ (HB.out.trans (hw1.mono (Nat.le_of_lt HA.out.lt)));clear hw1;go_wp2_with (refine wpStoreAt rfl rfl 31 _ _ rfl (qb+1) 0 rfl #[.int .i64 0,.int .i64 0] rfl 31 _ HR1.out (by show 0+2≤2;omega) (one2 _ _) i_span ?_;intro wf hkf hof)
  rw [splA_all #[.int .i64 0,.int .i64 0] #[.int .i64 0,.int .i64 0] rfl] at hkf;exact ret_span rfl rfl rfl hkf rfl (HFIN.out _ (HB1.out.trans (hof.below (by omega))))
 | true =>
  have he:errC ⟨lo,hi⟩=0:=by unfold errC;rw [hc];rfl
  have hn:negB ⟨lo,hi⟩=(⟨-hi,-lo⟩,0):=by unfold negB;rw [hc];rfl
  rw [he] at H1;rw [hn] at HFIN ⊢;have h3:=chk_iff.1 hc;dsimp only at h3;have m1:IntKind.i64.wrap (-hi)=-hi:=IntWalk.i64_in _ (by omega)
  have m2:IntKind.i64.wrap (-lo)=-lo:=IntWalk.i64_in _ (by omega)
  have m1':wrap64 (-hi)=-hi:=w64_in (by omega) (by omega)
  have m2':wrap64 (-lo)=-lo:=w64_in (by omega) (by omega)
  clear hc he hn h3 a1 a2 a3 a4;go_enter Tryz.func64,Tryz.ntmps64;go_upto_region 1 with (fail);clear hW0 hqb;go_wp2_with (refine wpLoadAt rfl 31 _ rfl qb 0 rfl #[.int .i64 lo,.int .i64 hi] _ (fun j u hj=>by rw [Nat.zero_add,HA.out.cell];exact hj) u_span rfl i_span ?_)
  refine (H1.out _).mono ?_
  rintro e w1 ⟨rfl,hw1⟩;have HR1:Hid (Bk w1 (qb+1) 31 #[.int .i64 0,.int .i64 0]):=hZ (HR.out.below hw1 HR.out.lt);have HB1:Hid (Below qb w w1):=hZ (HB.out.trans (hw1.mono (Nat.le_of_lt HA.out.lt)));have c0:w1.cell? ⟨qb,0,none⟩=some (.int .i64 lo):=(HA.out.below hw1 HA.out.lt).cell 0;have c1:w1.cell? ⟨qb,1,none⟩=some (.int .i64 hi):=(HA.out.below hw1 HA.out.lt).cell 1;clear hw1;go_wp2_with (refine wpStoreAt rfl rfl 31 _ _ rfl (qb+1) 0 rfl #[.int .i64 (-hi),.int .i64 (-lo)] rfl 31 _ HR1.out (by show 0+2≤2;omega) (one2 _ _) i_span ?_;intro wf hkf hof)
  rw [splA_all #[.int .i64 0,.int .i64 0] #[.int .i64 (-hi),.int .i64 (-lo)] rfl] at hkf;exact ret_span rfl rfl rfl hkf rfl (HFIN.out _ (HB1.out.trans (hof.below (by omega))))

theorem plus_ex {a b:Value} {v1 v2:Int} (ha:IsBig a v1) (hb:IsBig b v2) (h1:S127 v1) (h2:S127 v2) :
  ∃ r,IsBig r (v1+v2)∧∀ w,Calls Tryz.prog 129 #[a,b] w fun e w'=>e=.returned r∧Below w.heap.size w w':=by
 obtain ⟨n1,m1,rfl,p1,q1⟩:=ha;obtain ⟨n2,m2,rfl,p2,q2⟩:=hb;have s1:=val_size p1 q1;have s2:=val_size p2 q2;obtain ⟨h1a,h1b⟩:=h1;obtain ⟨h2a,h2b⟩:=h2;have k1:U64 (m1 / 18446744073709551616):=by unfold U64;omega
 have k2:U64 (m1 % 18446744073709551616):=by unfold U64;omega
 have k3:U64 (m2 / 18446744073709551616):=by unfold U64;omega
 have k4:U64 (m2 % 18446744073709551616):=by unfold U64;omega
 by_cases e:n2=n1
 ·subst e;refine ⟨_,?_,fun w=>plus_same n2 _ _ _ _ k1 k2 k3 k4 w⟩
  refine ⟨n2,m1+m2,bigV_isN (by omega) (by omega),by omega,?_⟩
  rw [← q1,← q2];unfold valI;split <;> omega
 ·obtain rfl:n2=!n1:=by cases n1 <;> cases n2 <;> simp_all
  refine ⟨_,?_,fun w=>plus_other n1 _ _ _ _ k1 k2 k3 k4 w⟩
  rw [← q1,← q2];by_cases g:m1<m2
  ·rw [if_pos (by omega)]
   refine ⟨!n1,m2 - m1,bigV_isN ?_ (by omega),by omega,?_⟩
   ·split <;> omega
   ·unfold valI;cases n1 <;> simp <;> omega
  ·rw [if_neg (by omega)]
   refine ⟨n1,m1 - m2,bigV_isN ?_ (by omega),by omega,?_⟩
   ·split <;> omega
   ·unfold valI;cases n1 <;> simp <;> omega
theorem sum_ex (x y:Int) (hx:I64 x) (hy:I64 y):∃ r,IsBig r (x+y)∧∀ w,Calls Tryz.prog 128 #[.int .i64 x,.int .i64 y] w fun e w'=>e=.returned r∧Below w.heap.size w w':=by
 obtain ⟨r,hr,hc⟩:=plus_ex (of_big hx) (of_big hy) (by unfold I64 at hx;unfold S127;omega) (by unfold I64 at hy;unfold S127;omega)
 refine ⟨r,hr,fun w=>?_⟩
 have H1:=hZ (fun w=>of_any x hx w);have H2:=hZ (fun w=>of_any y hy w);have H3:=hZ hc;obtain ⟨n,h,l,rfl⟩:=big_cells hr;obtain ⟨n1,hn1⟩:=eX (decide (x<0));obtain ⟨n2,hn2⟩:=eX (decide (y<0));obtain ⟨l1,hl1⟩:=eX (sizeI x);obtain ⟨l2,hl2⟩:=eX (sizeI y);rw [hn1,hl1] at H1 H3;rw [hn2,hl2] at H2 H3;unfold bigV at H1 H2 H3;obtain ⟨qb,hqb⟩:=eX w.heap.size;obtain ⟨W0,hW0⟩:=eX (w.alloc (.cells #[.bool false,.int .u64 0,.int .u64 0] 217));have HK:Hid (Bk W0 qb 217 #[.bool false,.int .u64 0,.int .u64 0]):=hZ (by rw [← hW0,← hqb];exact Bk.new _ _ _)
 have HB:Hid (Below qb w W0):=hZ (by rw [← hW0,← hqb];exact (Below.refl _ w).alloc (Nat.le_refl _) _)
 have HFIN:Hid (∀ w',Below qb w w'→Below w.heap.size w w'):=hZ fun w' h=>by rw [hqb];exact h
 clear hr hc hn1 hn2 hl1 hl2 hx hy;go_enter Tryz.func128,Tryz.ntmps128;go_upto_region 1 with (fail);clear hW0 hqb;go_wp2_with fail
 refine (H1.out _).mono ?_
 rintro e w1 ⟨rfl,hw1⟩;have HK1:Hid (Bk w1 qb 217 #[.bool false,.int .u64 0,.int .u64 0]):=hZ (HK.out.below hw1 HK.out.lt);have HB1:Hid (Below qb w w1):=hZ (HB.out.trans (hw1.mono (Nat.le_of_lt HK.out.lt)));clear hw1;go_wp2_with fail
 refine (H2.out _).mono ?_
 rintro e w2 ⟨rfl,hw2⟩;have HK2:Hid (Bk w2 qb 217 #[.bool false,.int .u64 0,.int .u64 0]):=hZ (HK1.out.below hw2 HK1.out.lt);have HB2:Hid (Below qb w w2):=hZ (HB1.out.trans (hw2.mono (Nat.le_of_lt HK1.out.lt)));clear hw2;go_wp2_with fail
 refine (H3.out _).mono ?_
 rintro e w3 ⟨rfl,hw3⟩;have HK3:Hid (Bk w3 qb 217 #[.bool false,.int .u64 0,.int .u64 0]):=hZ (HK2.out.below hw3 HK2.out.lt);have HB3:Hid (Below qb w w3):=hZ (HB2.out.trans (hw3.mono (Nat.le_of_lt HK2.out.lt)));clear hw3;go_wp2_with (refine wpStoreAt rfl rfl 217 _ _ rfl qb 0 rfl #[.bool n,.int .u64 h,.int .u64 l] rfl 217 _ HK3.out (by show 0+3≤3;omega) (one3 _ _ _) i_big ?_;intro wf hkf hof)
 rw [splA_all #[.bool false,.int .u64 0,.int .u64 0] #[.bool n,.int .u64 h,.int .u64 l] rfl] at hkf;exact ret_big rfl rfl rfl hkf ⟨rfl,HFIN.out _ (HB3.out.trans (hof.below (Nat.le_refl _)))⟩

theorem wpo_callV {P:Program} {o:Oper} {a:Act} {w:World} {K:Act→World→Prop} {Q:Exit→Act→World→Prop} (f:Nat) (x:Operand) (xs:Array Operand) (ts:Array TypeId) (ho:o.op=.call { callee:=.value x,args:=xs,argTypes:=ts }) (hv:a.eval x=.func (.func f) #[] #[]) (vs:Array Value) (hx:xs.map a.eval=vs)
  (eg:∀ args w,(callFunc f args).run P w=.ok (.enter f args) w) (h:Calls P f vs w fun e w'=>∃ v,e=.returned v∧K (a.put o.dst v) w'):o.wp P a w K Q:=by
 unfold Oper.wp execOp;simp only [ho,resolve,hx,hv,Deferred.ofValue,Sem.run_bind,Sem.run_pure,Result.andThen_ok,invoke];simp [eg,Oper.upon]
 refine h.mono ?_
 rintro e w' ⟨v,rfl,hk⟩;exact hk
theorem add_any (a b:SpanD) (ha:WdS a) (hb:WdS b) (w:World):Calls Tryz.prog 65 #[spanV a,spanV b] w (SpPost (addB a b) w.heap.size w):=by
 obtain ⟨al,ah⟩:=a;obtain ⟨bl,bh⟩:=b;unfold spanV;dsimp only;have HCH:Hid ((if (allN 2 fun i=>chkB ((fun i=>match i with | 0=>(⟨al,ah⟩:SpanD) | _=>⟨bl,bh⟩) i))=true then (0:Int) else 2)=if (chkB ⟨al,ah⟩ && chkB ⟨bl,bh⟩)=true then 0 else 2):=hZ (by
  show (if (chkB ⟨al,ah⟩ && (chkB ⟨bl,bh⟩ && true))=true then (0:Int) else 2)=_
  rw [Bool.and_true])
 obtain ⟨qb,hqb⟩:=eX w.heap.size;obtain ⟨W0,hW0⟩:=eX ((((w.alloc (.cells #[al,ah] 31)).alloc (.cells #[bl,bh] 31)).alloc (.cells #[.int .i64 0,.int .i64 0] 31)).alloc (.cells #[al,ah,bl,bh] 31));have HA0:Hid (Bk W0 qb 31 #[al,ah]):=hZ (by rw [← hW0,← hqb];exact (((Bk.new _ _ _).alloc _).alloc _).alloc _)
 have HB0:Hid (Bk W0 (qb+1) 31 #[bl,bh]):=hZ (by rw [← hW0,← hqb];exact ((Bk.newAt _ _ _ _ (by simp)).alloc _).alloc _)
 have HR0:Hid (Bk W0 (qb+1+1) 31 #[.int .i64 0,.int .i64 0]):=hZ (by rw [← hW0,← hqb];exact (Bk.newAt _ _ _ _ (by simp)).alloc _)
 have HS0:Hid (Bk W0 (qb+1+1+1) 31 #[al,ah,bl,bh]):=hZ (by rw [← hW0,← hqb];exact Bk.newAt _ _ _ _ (by simp))
 have HL0:Hid (Below qb w W0):=hZ (by rw [← hW0,← hqb];exact ((((Below.refl _ w).alloc (Nat.le_refl _) _).alloc (by simp) _).alloc (by simp <;> omega) _).alloc (by simp <;> omega) _)
 have HSP:Hid (SpansAt W0 W0.heap.size (some ⟨qb+1+1+1,0,none⟩) 2 (fun i=>match i with | 0=>(⟨al,ah⟩:SpanD) | _=>⟨bl,bh⟩)):=hZ ⟨by omega,fun _=>⟨_,_,rfl,HS0.out.lt,fun i hi j hj=>by
  match i,j,hi,hj with
  | 0,0,_,_=>exact HS0.out.cell 0
  | 0,1,_,_=>exact HS0.out.cell 1
  | 1,0,_,_=>exact HS0.out.cell 2
  | 1,1,_,_=>exact HS0.out.cell 3⟩⟩
 have HFIN:Hid (∀ w',Below qb w w'→SpPost (addB ⟨al,ah⟩ ⟨bl,bh⟩) w.heap.size w (.returned (.tuple #[.agg #[.int .i64 (addB ⟨al,ah⟩ ⟨bl,bh⟩).1.lo,.int .i64 (addB ⟨al,ah⟩ ⟨bl,bh⟩).1.hi],.int .i64 (addB ⟨al,ah⟩ ⟨bl,bh⟩).2])) w'):=hZ fun w' h=>⟨rfl,by rw [hqb];exact h⟩
 have HCK:=hZ (checked_any W0 (some ⟨qb+1+1+1,0,none⟩) 2 2 _ HSP.out (by omega))
 obtain ⟨⟨a1,a2⟩,a3,a4⟩:=ha;obtain ⟨⟨b1,b2⟩,b3,b4⟩:=hb;dsimp only at a1 a2 a3 a4 b1 b2 b3 b4;obtain ⟨r1,hr1,hs1⟩:=sum_ex al bl ⟨a1,a2⟩ ⟨b1,b2⟩;obtain ⟨r2,hr2,hs2⟩:=sum_ex ah bh ⟨a3,a4⟩ ⟨b3,b4⟩;have HS1:=hZ hs1;have HS2:=hZ hs2;have HFT:=hZ (fun w=>fit_any hr1 hr2 (by unfold S127;omega) (by unfold S127;omega) w)
 rw [HCH.out] at HCK;clear hr1 hr2 hs1 hs2 HCH HSP a1 a2 a3 a4 b1 b2 b3 b4;cases hc:(chkB ⟨al,ah⟩ && chkB ⟨bl,bh⟩) with
 | false =>
  have hn:addB ⟨al,ah⟩ ⟨bl,bh⟩=(zeroS,2):=by unfold addB;rw [hc];rfl
  rw [hn] at HFIN ⊢;rw [hc] at HCK;clear hc hn HS1 HS2 HFT;go_enter Tryz.func65,Tryz.ntmps65;go_wp2_with fail
  clear hW0 hqb;refine HCK.out.mono ?_
  rintro e wk ⟨rfl,hwk⟩;have HR:Hid (Bk wk (qb+1+1) 31 #[.int .i64 0,.int .i64 0]):=hZ (HR0.out.below hwk HR0.out.lt);have HBW:Hid (Below qb w wk):=hZ (HL0.out.trans (hwk.mono (Nat.le_of_lt HA0.out.lt)));clear hwk;go_wp2_with (refine wpStoreAt rfl rfl 31 _ _ rfl (qb+1+1) 0 rfl #[.int .i64 0,.int .i64 0] rfl 31 _ HR.out (by show 0+2≤2;omega) (one2 _ _) i_span ?_;intro wf hkf hof)
  rw [splA_all #[.int .i64 0,.int .i64 0] #[.int .i64 0,.int .i64 0] rfl] at hkf;exact ret_span rfl rfl rfl hkf rfl (HFIN.out _ (HBW.out.trans (hof.below (by omega))))
 | true =>
  have hn:addB ⟨al,ah⟩ ⟨bl,bh⟩=fitB (al+bl) (ah+bh):=by unfold addB;rw [hc];rfl
  rw [hn] at HFIN ⊢;rw [hc] at HCK;unfold SpPost spanV at HFT;obtain ⟨fl,hfl⟩:=eX ((fitB (al+bl) (ah+bh)).1.lo);obtain ⟨fh,hfh⟩:=eX ((fitB (al+bl) (ah+bh)).1.hi);obtain ⟨fe,hfe⟩:=eX ((fitB (al+bl) (ah+bh)).2);rw [hfl,hfh,hfe] at HFT HFIN;clear hc hn hfl hfh hfe;go_enter Tryz.func65,Tryz.ntmps65;go_wp2_with fail
  clear hW0 hqb;refine HCK.out.mono ?_
  rintro e wk ⟨rfl,hwk⟩;have HAW:Hid (Bk wk qb 31 #[al,ah]):=hZ (HA0.out.below hwk HA0.out.lt);have HBB:Hid (Bk wk (qb+1) 31 #[bl,bh]):=hZ (HB0.out.below hwk HB0.out.lt);have HR:Hid (Bk wk (qb+1+1) 31 #[.int .i64 0,.int .i64 0]):=hZ (HR0.out.below hwk HR0.out.lt);have HBW:Hid (Below qb w wk):=hZ (HL0.out.trans (hwk.mono (Nat.le_of_lt HA0.out.lt)));clear hwk;have HC:Hid (∀ w1,Below wk.heap.size wk w1→w1.cell? ⟨qb,0,none⟩=some (.int .i64 al)∧w1.cell? ⟨qb,1,none⟩=some (.int .i64 ah)∧w1.cell? ⟨qb+1,0,none⟩=some (.int .i64 bl)∧w1.cell? ⟨qb+1,1,none⟩=some (.int .i64 bh)):=hZ fun w1 h=>⟨(HAW.out.below h HAW.out.lt).cell 0,(HAW.out.below h HAW.out.lt).cell 1,(HBB.out.below h HBB.out.lt).cell 0,(HBB.out.below h HBB.out.lt).cell 1⟩;go_upto_region 5 with (fail);refine wp_region_stepsM (by kernel_rfl) (by kernel_rfl) 15 (by decide) (fun bq w1=>if bq=true then Bk w1 (qb+1+1) 31 #[fl,fh]∧Below qb w w1 else Below wk.heap.size wk w1) (fun _ _ _=>True)
   (fun ix u _ _=>match ix with
    | 0=>u=.func (.func 128) #[] #[]
    | 1=>u=.pointer (some ⟨qb,0,none⟩)
    | 2=>u=.int .i64 al
    | 3=>u=.pointer (some ⟨qb+1,0,none⟩)
    | 4=>u=.int .i64 bl
    | 5=>u=r1
    | 6=>u=.func (.func 128) #[] #[]
    | 7=>u=.pointer (some ⟨qb,1,none⟩)
    | 8=>u=.int .i64 ah
    | 9=>u=.pointer (some ⟨qb+1,1,none⟩)
    | 10=>u=.int .i64 bh
    | 11=>u=r2
    | 12=>u=.tuple #[.agg #[fl,fh],.int .i64 fe]
    | 13=>u=.agg #[fl,fh]
    | 14=>u=.int .i64 fe
    | 15=>True
    | _=>u=.int .i64 fe) (Below.refl _ _).drew (fun _ _ _ _ _ _ _ _ h _=>h) ?_ ?_
  ·refine ⟨?_,?_,?_,?_,?_,?_,?_,?_,?_,?_,?_,?_,?_,?_,?_,?_,?_,trivial⟩
   ·intro a w1 vs K bq Hb HJ HK HD HN kk;obtain rfl:bq=false:=by cases bq with | false=>rfl | true=>exact absurd (Hb rfl).2 (by decide)
    have HJ':Below wk.heap.size wk w1:=HJ;have e7:=HK 7 (by decide)
    go_simp;exact kk _ _ (by simp) HJ trivial rfl
   ·intro a w1 vs K bq Hb HJ HK HD HN kk;obtain rfl:bq=false:=by cases bq with | false=>rfl | true=>exact absurd (Hb rfl).2 (by decide)
    have HJ':Below wk.heap.size wk w1:=HJ;have e2:=HK 2 (by decide)
    go_simp;exact kk _ _ (by simp) HJ trivial rfl
   ·intro a w1 vs K bq Hb HJ HK HD HN kk;obtain rfl:bq=false:=by cases bq with | false=>rfl | true=>exact absurd (Hb rfl).2 (by decide)
    have HJ':Below wk.heap.size wk w1:=HJ;have e17:=hdE (HD 1 _ 17 rfl rfl rfl);have ca:w1.cell? ⟨qb,0,none⟩=some (.int .i64 al):=(HC.out w1 HJ').1;go_simp;exact kk _ _ (by simp) HJ trivial rfl
   ·intro a w1 vs K bq Hb HJ HK HD HN kk;obtain rfl:bq=false:=by cases bq with | false=>rfl | true=>exact absurd (Hb rfl).2 (by decide)
    have HJ':Below wk.heap.size wk w1:=HJ;have e3:=HK 3 (by decide)
    go_simp;exact kk _ _ (by simp) HJ trivial rfl
   ·intro a w1 vs K bq Hb HJ HK HD HN kk;obtain rfl:bq=false:=by cases bq with | false=>rfl | true=>exact absurd (Hb rfl).2 (by decide)
    have HJ':Below wk.heap.size wk w1:=HJ;have e19:=hdE (HD 3 _ 19 rfl rfl rfl);have ca:w1.cell? ⟨qb+1,0,none⟩=some (.int .i64 bl):=(HC.out w1 HJ').2.2.1;go_simp;exact kk _ _ (by simp) HJ trivial rfl
   ·intro a w1 vs K bq Hb HJ HK HD HN kk;obtain rfl:bq=false:=by cases bq with | false=>rfl | true=>exact absurd (Hb rfl).2 (by decide)
    have HJ':Below wk.heap.size wk w1:=HJ;have e16:=hdE (HD 0 _ 16 rfl rfl rfl);have e18:=hdE (HD 2 _ 18 rfl rfl rfl);have e20:=hdE (HD 4 _ 20 rfl rfl rfl);exact wpo_callV 128 (.tmp 16) _ _ rfl (by simpa [Act.eval] using e16) #[.int .i64 al,.int .i64 bl] (by simp [Act.eval,e18,e20]) (fun args w=>by kernel_rfl)
     ((HS1.out w1).mono fun e w' ⟨he,hb⟩=>⟨_,he,kk _ _ (by simp) (Below.trans HJ' (hb.mono HJ'.size)) trivial rfl⟩)
   ·intro a w1 vs K bq Hb HJ HK HD HN kk;obtain rfl:bq=false:=by cases bq with | false=>rfl | true=>exact absurd (Hb rfl).2 (by decide)
    have HJ':Below wk.heap.size wk w1:=HJ;have e7:=HK 7 (by decide)
    go_simp;exact kk _ _ (by simp) HJ trivial rfl
   ·intro a w1 vs K bq Hb HJ HK HD HN kk;obtain rfl:bq=false:=by cases bq with | false=>rfl | true=>exact absurd (Hb rfl).2 (by decide)
    have HJ':Below wk.heap.size wk w1:=HJ;have e2:=HK 2 (by decide)
    go_simp;exact kk _ _ (by simp) HJ trivial rfl
   ·intro a w1 vs K bq Hb HJ HK HD HN kk;obtain rfl:bq=false:=by cases bq with | false=>rfl | true=>exact absurd (Hb rfl).2 (by decide)
    have HJ':Below wk.heap.size wk w1:=HJ;have e23:=hdE (HD 7 _ 23 rfl rfl rfl);have ca:w1.cell? ⟨qb,1,none⟩=some (.int .i64 ah):=(HC.out w1 HJ').2.1;go_simp;exact kk _ _ (by simp) HJ trivial rfl
   ·intro a w1 vs K bq Hb HJ HK HD HN kk;obtain rfl:bq=false:=by cases bq with | false=>rfl | true=>exact absurd (Hb rfl).2 (by decide)
    have HJ':Below wk.heap.size wk w1:=HJ;have e3:=HK 3 (by decide)
    go_simp;exact kk _ _ (by simp) HJ trivial rfl
   ·intro a w1 vs K bq Hb HJ HK HD HN kk;obtain rfl:bq=false:=by cases bq with | false=>rfl | true=>exact absurd (Hb rfl).2 (by decide)
    have HJ':Below wk.heap.size wk w1:=HJ;have e25:=hdE (HD 9 _ 25 rfl rfl rfl);have ca:w1.cell? ⟨qb+1,1,none⟩=some (.int .i64 bh):=(HC.out w1 HJ').2.2.2;go_simp;exact kk _ _ (by simp) HJ trivial rfl
   ·intro a w1 vs K bq Hb HJ HK HD HN kk;obtain rfl:bq=false:=by cases bq with | false=>rfl | true=>exact absurd (Hb rfl).2 (by decide)
    have HJ':Below wk.heap.size wk w1:=HJ;have e22:=hdE (HD 6 _ 22 rfl rfl rfl);have e24:=hdE (HD 8 _ 24 rfl rfl rfl);have e26:=hdE (HD 10 _ 26 rfl rfl rfl);exact wpo_callV 128 (.tmp 22) _ _ rfl (by simpa [Act.eval] using e22) #[.int .i64 ah,.int .i64 bh] (by simp [Act.eval,e24,e26]) (fun args w=>by kernel_rfl)
     ((HS2.out w1).mono fun e w' ⟨he,hb⟩=>⟨_,he,kk _ _ (by simp) (Below.trans HJ' (hb.mono HJ'.size)) trivial rfl⟩)
   ·intro a w1 vs K bq Hb HJ HK HD HN kk;obtain rfl:bq=false:=by cases bq with | false=>rfl | true=>exact absurd (Hb rfl).2 (by decide)
    have HJ':Below wk.heap.size wk w1:=HJ;have e21:=hdE (HD 5 _ 21 rfl rfl rfl);have e27:=hdE (HD 11 _ 27 rfl rfl rfl);exact wpo_call 131 _ _ rfl #[r1,r2] (by simp [Act.eval,e21,e27]) (fun args w=>by kernel_rfl)
     ((HFT.out w1).mono fun e w' ⟨he,hb⟩=>⟨_,he,kk _ _ (by simp) (Below.trans HJ'  (hb.mono HJ'.size)) trivial rfl⟩)
   ·intro a w1 vs K bq Hb HJ HK HD HN kk;obtain rfl:bq=false:=by cases bq with | false=>rfl | true=>exact absurd (Hb rfl).2 (by decide)
    have HJ':Below wk.heap.size wk w1:=HJ;have e28:=hdE (HD 12 _ 28 rfl rfl rfl);go_simp;exact kk _ _ (by simp) HJ trivial rfl
   ·intro a w1 vs K bq Hb HJ HK HD HN kk;obtain rfl:bq=false:=by cases bq with | false=>rfl | true=>exact absurd (Hb rfl).2 (by decide)
    have HJ':Below wk.heap.size wk w1:=HJ;have e28:=hdE (HD 12 _ 28 rfl rfl rfl);go_simp;exact kk _ _ (by simp) HJ trivial rfl
   ·intro a w1 vs K bq Hb HJ HK HD HN kk;obtain rfl:bq=false:=by cases bq with | false=>rfl | true=>exact absurd rfl (Hb rfl).1
    have HJ':Below wk.heap.size wk w1:=HJ;have e4:=HK 4 (by decide)
    have e29:=hdE (HD 13 _ 29 rfl rfl rfl);exact wpo_storeS 31 (.tmp 4) (.tmp 29) rfl rfl (qb+1+1) 0 (by simpa [Act.eval] using e4) #[fl,fh] (by simpa [Act.eval] using e29) 31 #[.int .i64 0,.int .i64 0] (HR.out.below HJ' HR.out.lt) (by show 0+2≤2;omega) (one2 _ _) i_span fun w' hk ho=>kk _ _ (by simp) ⟨by rw [splA_all #[.int .i64 0,.int .i64 0] #[fl,fh] rfl] at hk;exact hk,(HBW.out.trans (HJ'.mono (Nat.le_of_lt HAW.out.lt))).trans (ho.below (by omega))⟩ trivial trivial
   ·intro a w1 vs K bq Hb HJ HK HD HN kk;have e30:=hdE (HD 14 _ 30 rfl rfl rfl);go_simp;exact kk _ _ (by simp) (by simpa using HJ) trivial rfl
  ·intro vs wf hJ hV;have e5:vs 16=.int .i64 fe:=hV 16 _ rfl;have hJ':Bk wf (qb+1+1) 31 #[fl,fh]∧Below qb w wf:=hJ;clear hV hJ;simp only [putAll,Act.put,List.setIfInBounds_toArray,List.set_cons_zero,List.set_cons_succ];rw [e5];go_wp2_with fail
   exact ret_span rfl rfl rfl hJ'.1 rfl (HFIN.out _ hJ'.2)

theorem sub_any (a b:SpanD) (ha:WdS a) (hb:WdS b) (w:World):Calls Tryz.prog 24 #[spanV a,spanV b] w (SpPost (subB a b) w.heap.size w):=by
 have HN:=hZ (fun w=>neg_any b hb w);obtain ⟨qb,hqb⟩:=eX w.heap.size;have HFIN:Hid (∀ w',Below qb w w'→SpPost (subB a b) w.heap.size w (.returned (.tuple #[.agg #[.int .i64 (subB a b).1.lo,.int .i64 (subB a b).1.hi],.int .i64 (subB a b).2])) w'):=hZ fun w' h=>⟨rfl,by rw [hqb];exact h⟩
 cases hc:chkB b with
 | false =>
  have hn:negB b=(zeroS,2):=by unfold negB;rw [hc];rfl
  have hs:subB a b=(zeroS,2):=by unfold subB;rw [hc];rfl
  rw [hn] at HN;rw [hs] at HFIN ⊢;clear hc hn hs;obtain ⟨al,ah⟩:=a;obtain ⟨bl,bh⟩:=b;unfold SpPost spanV at HN;unfold spanV;dsimp only [zeroS] at HN ⊢;obtain ⟨W0,hW0⟩:=eX (((w.alloc (.cells #[al,ah] 31)).alloc (.cells #[bl,bh] 31)).alloc (.cells #[.int .i64 0,.int .i64 0] 31));have HB0:Hid (Bk W0 (qb+1) 31 #[bl,bh]):=hZ (by rw [← hW0,← hqb];exact (Bk.newAt _ _ _ _ (by simp)).alloc _)
  have HR0:Hid (Bk W0 (qb+1+1) 31 #[.int .i64 0,.int .i64 0]):=hZ (by rw [← hW0,← hqb];exact Bk.newAt _ _ _ _ (by simp <;> omega))
  have HL0:Hid (Below qb w W0):=hZ (by rw [← hW0,← hqb];exact (((Below.refl _ w).alloc (Nat.le_refl _) _).alloc (by simp) _).alloc (by simp <;> omega) _)
  clear ha hb;go_enter Tryz.func24,Tryz.ntmps24;go_upto_region 1 with (fail);clear hW0 hqb;go_wp2_with (refine wpLoadAt rfl 31 _ rfl (qb+1) 0 rfl #[bl,bh] _ (fun j u hj=>by rw [Nat.zero_add,HB0.out.cell];exact hj) u_span rfl i_span ?_)
  refine (HN.out _).mono ?_
  rintro e w1 ⟨rfl,hw1⟩;have HR:Hid (Bk w1 (qb+1+1) 31 #[.int .i64 0,.int .i64 0]):=hZ (HR0.out.below hw1 HR0.out.lt);have HBW:Hid (Below qb w w1):=hZ (HL0.out.trans (hw1.mono (by have:=HB0.out.lt;omega)))
  clear hw1;go_upto_region 3 with (fail);obtain ⟨W2,hW2⟩:=eX (w1.alloc (.cells #[.int .i64 0,.int .i64 0] 31));have HR2:Hid (Bk W2 (qb+1+1) 31 #[.int .i64 0,.int .i64 0]):=hZ (by rw [← hW2];exact HR.out.alloc _)
  have HBW2:Hid (Below qb w W2):=hZ (by rw [← hW2];exact HBW.out.alloc (by have:=HR.out.lt;omega) _)
  rw [hW2];clear hW2;go_wp2_with (refine wpStoreAt rfl rfl 31 _ _ rfl (qb+1+1) 0 rfl #[.int .i64 0,.int .i64 0] rfl 31 _ HR2.out (by show 0+2≤2;omega) (one2 _ _) i_span ?_;intro wf hkf hof)
  rw [splA_all #[.int .i64 0,.int .i64 0] #[.int .i64 0,.int .i64 0] rfl] at hkf;exact ret_span rfl rfl rfl hkf rfl (HFIN.out _ (HBW2.out.trans (hof.below (by omega))))
 | true =>
  have hn:negB b=(negS b,0):=by unfold negB;rw [hc];rfl
  have hs:subB a b=addB a (negS b):=by unfold subB;rw [hc];rfl
  have hwn:WdS (negS b):=by
   have h3:=chk_iff.1 hc;obtain ⟨⟨b1,b2⟩,b3,b4⟩:=hb;unfold WdS negS;dsimp only;omega
  have HA:=hZ (fun w=>add_any a (negS b) ha hwn w);rw [hn] at HN;rw [hs] at HFIN ⊢;obtain ⟨nb,hnb⟩:=eX (negS b);rw [hnb] at HN HFIN HA ⊢;obtain ⟨T,hT⟩:=eX (addB a nb);rw [hT] at HFIN HA ⊢;clear hc hn hs hwn hnb hT ha hb;obtain ⟨al,ah⟩:=a;obtain ⟨bl,bh⟩:=b;obtain ⟨nl,nh⟩:=nb;obtain ⟨⟨tl,th⟩,te⟩:=T;unfold SpPost spanV at HN HA;unfold spanV;dsimp only at HN HA HFIN ⊢;obtain ⟨W0,hW0⟩:=eX (((w.alloc (.cells #[al,ah] 31)).alloc (.cells #[bl,bh] 31)).alloc (.cells #[.int .i64 0,.int .i64 0] 31));have HA0:Hid (Bk W0 qb 31 #[al,ah]):=hZ (by rw [← hW0,← hqb];exact ((Bk.new _ _ _).alloc _).alloc _)
  have HB0:Hid (Bk W0 (qb+1) 31 #[bl,bh]):=hZ (by rw [← hW0,← hqb];exact (Bk.newAt _ _ _ _ (by simp)).alloc _)
  have HR0:Hid (Bk W0 (qb+1+1) 31 #[.int .i64 0,.int .i64 0]):=hZ (by rw [← hW0,← hqb];exact Bk.newAt _ _ _ _ (by simp <;> omega))
  have HL0:Hid (Below qb w W0):=hZ (by rw [← hW0,← hqb];exact (((Below.refl _ w).alloc (Nat.le_refl _) _).alloc (by simp) _).alloc (by simp <;> omega) _)
  go_enter Tryz.func24,Tryz.ntmps24;go_upto_region 1 with (fail);clear hW0 hqb;go_wp2_with (refine wpLoadAt rfl 31 _ rfl (qb+1) 0 rfl #[bl,bh] _ (fun j u hj=>by rw [Nat.zero_add,HB0.out.cell];exact hj) u_span rfl i_span ?_)
  refine (HN.out _).mono ?_
  rintro e w1 ⟨rfl,hw1⟩;have HR:Hid (Bk w1 (qb+1+1) 31 #[.int .i64 0,.int .i64 0]):=hZ (HR0.out.below hw1 HR0.out.lt);have HA1:Hid (Bk w1 qb 31 #[al,ah]):=hZ (HA0.out.below hw1 HA0.out.lt);have HBW:Hid (Below qb w w1):=hZ (HL0.out.trans (hw1.mono (by have:=HB0.out.lt;omega)))
  clear hw1;obtain ⟨gx,hgx⟩:=eX w1.heap.size;obtain ⟨W2,hW2⟩:=eX (w1.alloc (.cells #[nl,nh] 31));have HX2:Hid (Bk W2 gx 31 #[nl,nh]):=hZ (by rw [← hW2,← hgx];exact Bk.new _ _ _)
  have HR2:Hid (Bk W2 (qb+1+1) 31 #[.int .i64 0,.int .i64 0]):=hZ (by rw [← hW2];exact HR.out.alloc _)
  have HA2:Hid (Bk W2 qb 31 #[al,ah]):=hZ (by rw [← hW2];exact HA1.out.alloc _)
  have HBW2:Hid (Below qb w W2):=hZ (by rw [← hW2];exact HBW.out.alloc (by have:=HR.out.lt;omega) _)
  go_upto_region 4 with (fail);clear hW2 hgx;go_wp2_with (first | (refine wpLoadAt rfl 31 _ rfl qb 0 rfl #[al,ah] _ (fun j u hj=>by rw [Nat.zero_add,HA2.out.cell];exact hj) u_span rfl i_span ?_) | (refine wpLoadAt rfl 31 _ rfl gx 0 rfl #[nl,nh] _ (fun j u hj=>by rw [Nat.zero_add,HX2.out.cell];exact hj) u_span rfl i_span ?_))
  refine (HA.out _).mono ?_
  rintro e w3 ⟨rfl,hw3⟩;have HR3:Hid (Bk w3 (qb+1+1) 31 #[.int .i64 0,.int .i64 0]):=hZ (HR2.out.below hw3 HR2.out.lt);have HBW3:Hid (Below qb w w3):=hZ (HBW2.out.trans (hw3.mono (Nat.le_of_lt HA2.out.lt)));clear hw3;go_wp2_with (refine wpStoreAt rfl rfl 31 _ _ rfl (qb+1+1) 0 rfl #[tl,th] rfl 31 _ HR3.out (by show 0+2≤2;omega) (one2 _ _) i_span ?_;intro wf hkf hof)
  rw [splA_all #[.int .i64 0,.int .i64 0] #[tl,th] rfl] at hkf;exact ret_span rfl rfl rfl hkf rfl (HFIN.out _ (HBW3.out.trans (hof.below (by omega))))

theorem times_ex (a b:Int) (ha:I64 a) (hb:I64 b):∃ r,IsBig r (a * b)∧∀ w,Calls Tryz.prog 138 #[.int .i64 a,.int .i64 b] w fun e w'=>e=.returned r∧Below w.heap.size w w':=by
 have H1:=hZ (fun w=>size_any a ha w);have H2:=hZ (fun w=>size_any b hb w);obtain ⟨x,hx⟩:∃ x:Nat,sizeI a=x:=⟨(sizeI a).toNat,by unfold sizeI;split <;> omega⟩
 obtain ⟨y,hy⟩:∃ y:Nat,sizeI b=y:=⟨(sizeI b).toNat,by unfold sizeI;split <;> omega⟩
 have hxl:x≤9223372036854775808:=by unfold I64 at ha;unfold sizeI at hx;split at hx <;> omega
 have hyl:y≤9223372036854775808:=by unfold I64 at hb;unfold sizeI at hy;split at hy <;> omega
 have H3:=hZ (fun w=>Tryz.bits_Mul64 x y (by omega) (by omega) w)
 rw [hx] at H1;rw [hy] at H2;obtain ⟨hi,hhi⟩:∃ z:Int,((x * y / 18446744073709551616:Nat):Int)=z:=⟨_,rfl⟩;obtain ⟨lo,hlo⟩:∃ z:Int,((x * y % 18446744073709551616:Nat):Int)=z:=⟨_,rfl⟩;rw [hhi,hlo] at H3;refine ⟨bigV (decide (a<0) != decide (b<0)) hi lo,?_,fun w=>?_⟩
 ·refine ⟨_,((x * y:Nat):Int),bigV_isN (by rw [← hhi];omega) (by rw [← hlo];omega),by omega,?_⟩
  rw [Int.natCast_mul,← hx,← hy];unfold sizeI valI;by_cases g1:a<0 <;> by_cases g2:b<0 <;> simp [g1,g2,Int.neg_mul,Int.mul_neg]
 ·clear ha hb hx hy hhi hlo hxl hyl;go_enter Tryz.func138,Tryz.ntmps138;go_wp2_with fail
  refine (H1.out _).mono ?_
  rintro e w' ⟨rfl,rfl⟩;go_wp2_with fail
  refine (H2.out _).mono ?_
  rintro e w' ⟨rfl,rfl⟩;go_wp2_with fail
  refine (H3.out _).mono ?_
  rintro e w' ⟨rfl,rfl⟩;go_wp2_with fail
  exact ret_big rfl rfl rfl (Bk.new _ _ _) ⟨rfl,(Below.refl _ w).alloc (Nat.le_refl _) _⟩

def pmin (v:Nat→Int):Nat→Nat
 | 0=>0
 | k+1=>if v (k+1)<v (pmin v k) then k+1 else pmin v k
def pmax (v:Nat→Int):Nat→Nat
 | 0=>0
 | k+1=>if v (pmax v k)<v (k+1) then k+1 else pmax v k
theorem pmin_le (v:Nat→Int):∀ k,pmin v k≤k
 | 0=>Nat.le_refl _
 | k+1=>by have:=pmin_le v k;show (if v (k+1)<v (pmin v k) then k+1 else pmin v k)≤k+1;split <;> omega
theorem pmax_le (v:Nat→Int):∀ k,pmax v k≤k
 | 0=>Nat.le_refl _
 | k+1=>by have:=pmax_le v k;show (if v (pmax v k)<v (k+1) then k+1 else pmax v k)≤k+1;split <;> omega
theorem pmin_val (v:Nat→Int):∀ k,v (pmin v k)=minK v k
 | 0=>rfl
 | k+1=>by have:=pmin_val v k;show v (if _ then _ else _)=min _ _;split <;> omega
theorem pmax_val (v:Nat→Int):∀ k,v (pmax v k)=maxK v k
 | 0=>rfl
 | k+1=>by have:=pmax_val v k;show v (if _ then _ else _)=max _ _;split <;> omega
def bc (t:Nat→Bool) (x y:Nat→Int) (i:Nat):Array Value:=#[.bool (t i),.int .u64 (x i),.int .u64 (y i)]
def BigC (w:World) (B:Nat) (A:Option Addr) (n:Nat) (t:Nat→Bool) (x y:Nat→Int):Prop:=Sl w B 3 A n fun i j=>match j with | 0=>.bool (t i) | 1=>.int .u64 (x i) | _=>.int .u64 (y i)
structure HulX (w:World) (qb:Nat) (t:Nat→Bool) (x y:Nat→Int) (p q:Nat) (wr:World):Prop where
 below:Below qb w wr
 lo:Bk wr qb 217 (bc t x y p)
 hi:Bk wr (qb+1) 217 (bc t x y q)
theorem hull_ex (w:World) (A:Option Addr) (n c:Nat) (tf:Nat→Bool) (xf yf:Nat→Int) (v:Nat→Int) (h:BigC w w.heap.size A (n+1) tf xf yf) (hV:∀ i,i<n+1→IsBig (.agg (bc tf xf yf i)) (v i)) (h1n:1≤n) (hn:n<4096) (hc:n+1≤c) (hc2:c≤9223372036854775807) :
  Calls Tryz.prog 139 #[.slice A (n+1) c] w fun e w'=>e=.returned (.tuple #[.agg (bc tf xf yf (pmin v n)),.agg (bc tf xf yf (pmax v n))])∧Below w.heap.size w w':=by
 have HV:=hZ hV;have HL:=hZ h;obtain ⟨b,off,rfl,hb,e0,e1,e2⟩:=Sl.at3 HL.out (i:=0) (by omega)
 obtain ⟨t,htt⟩:=eX (tf 0);obtain ⟨x,hxx⟩:=eX (xf 0);obtain ⟨y,hyy⟩:=eX (yf 0);try dsimp only at e0 e1 e2
 rw [htt] at e0;rw [hxx] at e1;rw [hyy] at e2;have H00:Hid (bc tf xf yf 0=#[.bool t,.int .u64 x,.int .u64 y]):=hZ (by unfold bc;rw [htt,hxx,hyy])
 rw [Nat.zero_mul,Nat.add_zero] at e0 e1 e2;obtain ⟨m,hm⟩:∃ m:Nat,n+1=m:=⟨_,rfl⟩;rw [hm];have hm2:1<m:=by omega
 have hm2':(1:Int)<(m:Int):=by omega
 have hc1:1 ≠ c:=by omega
 have hm0:0<m:=by omega
 have hm0':(0:Int)<(m:Int):=by omega
 have hm1:1≤m:=by omega
 have hm1':(1:Int)≤(m:Int):=by omega
 have hmc:m≤c:=by omega
 have hmc':(m:Int)≤(c:Int):=by omega
 have hne1:b ≠ w.heap.size:=by omega
 have hne2:b ≠ w.heap.size+1:=by omega
 clear h hV htt hxx hyy;go_enter Tryz.func139,Tryz.ntmps139;go_upto_region 1 with (fail);go_region
 obtain ⟨qb,hqb⟩:=eX w.heap.size;obtain ⟨W1,hW1⟩:=eX (((w.alloc (.cells #[.bool t,.int .u64 x,.int .u64 y] 217)).alloc (.cells #[.bool t,.int .u64 x,.int .u64 y] 217)).drew);have HKA:Hid (Bk W1 qb 217 #[.bool t,.int .u64 x,.int .u64 y]):=hZ (by rw [← hW1,← hqb];exact ((Bk.new _ _ _).alloc _).drewN 1)
 have HKB:Hid (Bk W1 (qb+1) 217 #[.bool t,.int .u64 x,.int .u64 y]):=hZ (by rw [← hW1,← hqb];exact (Bk.newAt _ _ _ _ (by simp)).drewN 1)
 have HB1:Hid (Below qb w W1):=hZ (by rw [← hW1,← hqb];exact (((Below.refl _ w).alloc (Nat.le_refl _) _).alloc (by simp) _).drew)
 rw [hW1,hqb];rw [hqb] at HL hb hne1 hne2;clear hW1;go_wp2_with fail
 rw [show m - 1=n by omega]
 have HN:Hid (m=n+1):=hZ hm.symm;obtain ⟨d,hd⟩:=eX (c - 1);rw [hd];have HCD:Hid (n≤d∧d≤9223372036854775807):=hZ (by omega)
 have HQB:=hZ hqb;clear hqb hd hm hmc hmc' hc2 hc hc1 e0 e1 e2 hm2 hm2' hm0 hm0' hm1 hm1';go_loopw [15] (fun iv wr=>∃ k:Nat,k≤n∧iv=.int .i64 k∧Hid (HulX w qb tf xf yf (pmin v k) (pmax v k) wr)) (fun iv _=>n - (intOf iv).toNat)
 case atStart=>exact ⟨0,Nat.zero_le _,rfl,hZ ⟨HB1.out,by show Bk _ _ _ (bc tf xf yf 0);rw [H00.out];exact HKA.out,by show Bk _ _ _ (bc tf xf yf 0);rw [H00.out];exact HKB.out⟩⟩
 case round =>
  obtain ⟨wo,rfl⟩:∃ wo:World,wo=wr:=⟨_,rfl⟩;obtain ⟨k,hk,rfl,hs⟩:=hrel;have HB:=hZ hs.out.below;have hk1:=hs.out.lo;have hk2:=hs.out.hi;have hv1:=HV.out (pmin v k) (by have:=pmin_le v k;omega)
  have hv2:=HV.out (pmax v k) (by have:=pmax_le v k;omega)
  obtain ⟨t1,ht1⟩:=eX (tf (pmin v k));obtain ⟨x1,hx1⟩:=eX (xf (pmin v k));obtain ⟨y1,hy1⟩:=eX (yf (pmin v k));obtain ⟨t2,ht2⟩:=eX (tf (pmax v k));obtain ⟨x2,hx2⟩:=eX (xf (pmax v k));obtain ⟨y2,hy2⟩:=eX (yf (pmax v k));have HE1:Hid (bc tf xf yf (pmin v k)=#[.bool t1,.int .u64 x1,.int .u64 y1]):=hZ (by unfold bc;rw [ht1,hx1,hy1])
  have HE2:Hid (bc tf xf yf (pmax v k)=#[.bool t2,.int .u64 x2,.int .u64 y2]):=hZ (by unfold bc;rw [ht2,hx2,hy2])
  rw [HE1.out] at hk1 hv1;rw [HE2.out] at hk2 hv2;clear ht1 hx1 hy1 ht2 hx2 hy2;have HA:=hZ hk1;have HC:=hZ hk2;clear hs hk1 hk2;have h0k:(0:Int)≤(k:Int):=by omega
  by_cases hlt:k<n
  ·have hki:(k:Int)<(n:Int):=by omega
   have hnd:n≤d:=HCD.out.1;obtain ⟨b',off',hA',_,q0,q1,q2⟩:=Sl.at3 (Sl.below HL.out HB.out) (i:=k+1) (by have:=HN.out;omega)
   have hv3:=HV.out (k+1) (by omega)
   try dsimp only at q0 q1 q2
   obtain ⟨t3,ht3⟩:=eX (tf (k+1));obtain ⟨x3,hx3⟩:=eX (xf (k+1));obtain ⟨y3,hy3⟩:=eX (yf (k+1));have HE3:Hid (bc tf xf yf (k+1)=#[.bool t3,.int .u64 x3,.int .u64 y3]):=hZ (by unfold bc;rw [ht3,hx3,hy3])
   rw [HE3.out] at hv3;rw [ht3] at q0;rw [hx3] at q1;rw [hy3] at q2;clear ht3 hx3 hy3;injection hA' with hA'
   injection hA' with hA1 hA2
   subst hA1 hA2;rw [show off+(k+1) * 3=off+3+k * 3 by omega] at q0 q1 q2
   have HLS1:=hZ (fun w=>less_any hv3 hv1 w);have HLS2:=hZ (fun w=>less_any hv2 hv3 w);obtain ⟨r1,hr1⟩:=eX (decide (v (k+1)<v (pmin v k)));obtain ⟨r2,hr2⟩:=eX (decide (v (pmax v k)<v (k+1)));rw [hr1] at HLS1;rw [hr2] at HLS2;have HD1:Hid ((r1=true∧bc tf xf yf (pmin v (k+1))=#[.bool t3,.int .u64 x3,.int .u64 y3]) ∨ (r1=false∧bc tf xf yf (pmin v (k+1))=#[.bool t1,.int .u64 x1,.int .u64 y1])):=hZ (by
    by_cases g:v (k+1)<v (pmin v k)
    ·exact Or.inl ⟨by rw [← hr1];exact decide_eq_true g,by rw [show pmin v (k+1)=k+1 from if_pos g];exact HE3.out⟩
    ·exact Or.inr ⟨by rw [← hr1];exact decide_eq_false g,by rw [show pmin v (k+1)=pmin v k from if_neg g];exact HE1.out⟩)
   have HD2:Hid ((r2=true∧bc tf xf yf (pmax v (k+1))=#[.bool t3,.int .u64 x3,.int .u64 y3]) ∨ (r2=false∧bc tf xf yf (pmax v (k+1))=#[.bool t2,.int .u64 x2,.int .u64 y2])):=hZ (by
    by_cases g:v (pmax v k)<v (k+1)
    ·exact Or.inl ⟨by rw [← hr2];exact decide_eq_true g,by rw [show pmax v (k+1)=k+1 from if_pos g];exact HE3.out⟩
    ·exact Or.inr ⟨by rw [← hr2];exact decide_eq_false g,by rw [show pmax v (k+1)=pmax v k from if_neg g];exact HE2.out⟩)
   obtain ⟨gx,hgx⟩:=eX wo.heap.size;have HGX:Hid (qb+1<gx):=hZ (by rw [← hgx];exact HC.out.lt)
   obtain ⟨W2,hW2⟩:=eX (wo.alloc (.cells #[.bool t3,.int .u64 x3,.int .u64 y3] 217));have HX0:Hid (Bk W2 gx 217 #[.bool t3,.int .u64 x3,.int .u64 y3]):=hZ (by rw [← hW2,← hgx];exact Bk.new _ _ _)
   have HA0:Hid (Bk W2 qb 217 #[.bool t1,.int .u64 x1,.int .u64 y1]):=hZ (by rw [← hW2];exact HA.out.alloc _)
   have HC0:Hid (Bk W2 (qb+1) 217 #[.bool t2,.int .u64 x2,.int .u64 y2]):=hZ (by rw [← hW2];exact HC.out.alloc _)
   have HB2:Hid (Below qb w W2):=hZ (by rw [← hW2];exact HB.out.alloc (Nat.le_of_lt HA.out.lt) _)
   clear hv1 hv2 hv3 hr1 hr2;go_upto_region 5 with (fail);clear hW2 hgx q0 q1 q2;go_wp2_with (first | (refine wpLoadAt rfl 217 _ rfl (qb) 0 rfl #[.bool t1,.int .u64 x1,.int .u64 y1] _ (fun j u hj=>by rw [Nat.zero_add,HA0.out.cell];exact hj) u_big rfl i_big ?_) | (refine wpLoadAt rfl 217 _ rfl (gx) 0 rfl #[.bool t3,.int .u64 x3,.int .u64 y3] _ (fun j u hj=>by rw [Nat.zero_add,HX0.out.cell];exact hj) u_big rfl i_big ?_) | fail)
   refine (HLS1.out _).mono ?_
   rintro e w1 ⟨rfl,hb1⟩;have HX1:Hid (Bk w1 gx 217 #[.bool t3,.int .u64 x3,.int .u64 y3]):=hZ (HX0.out.below hb1 HX0.out.lt);have HA1:Hid (Bk w1 qb 217 #[.bool t1,.int .u64 x1,.int .u64 y1]):=hZ (HA0.out.below hb1 HA0.out.lt);have HC1:Hid (Bk w1 (qb+1) 217 #[.bool t2,.int .u64 x2,.int .u64 y2]):=hZ (HC0.out.below hb1 HC0.out.lt);have HBL1:Hid (Below qb w w1):=hZ (HB2.out.trans (hb1.mono (Nat.le_of_lt HA0.out.lt)));clear hb1;rcases HD1.out with ⟨g1,hm1⟩ | ⟨g1,hm1⟩
   ·have HM1:=hZ hm1;clear hm1;rw [g1];go_upto_region 7 with (first | (refine wpLoadAt rfl 217 _ rfl (gx) 0 rfl #[.bool t3,.int .u64 x3,.int .u64 y3] _ (fun j u hj=>by rw [Nat.zero_add,HX1.out.cell];exact hj) u_big rfl i_big ?_) | (refine wpStoreAt rfl rfl 217 _ _ rfl (qb) 0 rfl #[.bool t3,.int .u64 x3,.int .u64 y3] rfl 217 _ HA1.out (by show 0+3≤3;omega) (one3 _ _ _) i_big ?_;intro wf hkwf howf))
    rw [splA_all #[.bool t1,.int .u64 x1,.int .u64 y1] #[.bool t3,.int .u64 x3,.int .u64 y3] rfl] at hkwf;have HX1:Hid (Bk wf gx 217 #[.bool t3,.int .u64 x3,.int .u64 y3]):=hZ (HX1.out.only howf (by have:=HGX.out;omega))
    have HC1:Hid (Bk wf (qb+1) 217 #[.bool t2,.int .u64 x2,.int .u64 y2]):=hZ (HC1.out.only howf (by omega))
    have HBL1:Hid (Below qb w wf):=hZ (HBL1.out.trans (howf.below (Nat.le_refl _)));have HA1:=hZ hkwf;clear hkwf howf;go_upto_region 7 with (fail);go_wp2_with (first | (refine wpLoadAt rfl 217 _ rfl (qb+1) 0 rfl #[.bool t2,.int .u64 x2,.int .u64 y2] _ (fun j u hj=>by rw [Nat.zero_add,HC1.out.cell];exact hj) u_big rfl i_big ?_) | (refine wpLoadAt rfl 217 _ rfl (gx) 0 rfl #[.bool t3,.int .u64 x3,.int .u64 y3] _ (fun j u hj=>by rw [Nat.zero_add,HX1.out.cell];exact hj) u_big rfl i_big ?_) | fail)
    refine (HLS2.out _).mono ?_
    rintro e w2 ⟨rfl,hb2⟩;have HX2:Hid (Bk w2 gx 217 #[.bool t3,.int .u64 x3,.int .u64 y3]):=hZ (HX1.out.below hb2 HX1.out.lt);have HA2:Hid (Bk w2 qb 217 #[.bool t3,.int .u64 x3,.int .u64 y3]):=hZ (HA1.out.below hb2 HA1.out.lt);have HC2:Hid (Bk w2 (qb+1) 217 #[.bool t2,.int .u64 x2,.int .u64 y2]):=hZ (HC1.out.below hb2 HC1.out.lt);have HB2:Hid (Below qb w w2):=hZ (HBL1.out.trans (hb2.mono (Nat.le_of_lt HA1.out.lt)));clear hb2;rcases HD2.out with ⟨r2,hm2⟩ | ⟨r2,hm2⟩
    ·have HM2:=hZ hm2;clear hm2;rw [r2];go_wp2_with (first | (refine wpLoadAt rfl 217 _ rfl (gx) 0 rfl #[.bool t3,.int .u64 x3,.int .u64 y3] _ (fun j u hj=>by rw [Nat.zero_add,HX2.out.cell];exact hj) u_big rfl i_big ?_) | (refine wpStoreAt rfl rfl 217 _ _ rfl (qb+1) 0 rfl #[.bool t3,.int .u64 x3,.int .u64 y3] rfl 217 _ HC2.out (by show 0+3≤3;omega) (one3 _ _ _) i_big ?_;intro wg hkwg howg))
     rw [splA_all #[.bool t2,.int .u64 x2,.int .u64 y2] #[.bool t3,.int .u64 x3,.int .u64 y3] rfl] at hkwg;go_roundw
     case rel=>exact ⟨k+1,by omega,by go_num,hZ ⟨HB2.out.trans (howg.below (by omega)),by rw [HM1.out];exact HA2.out.only howg (by omega),by rw [HM2.out];exact hkwg⟩⟩
     case measure=>simp [intOf];omega
    ·have HM2:=hZ hm2;clear hm2;rw [r2];go_wp2_with fail
     go_roundw
     case rel=>exact ⟨k+1,by omega,by go_num,hZ ⟨HB2.out,by rw [HM1.out];exact HA2.out,by rw [HM2.out];exact HC2.out⟩⟩
     case measure=>simp [intOf];omega
   ·have HM1:=hZ hm1;clear hm1;rw [g1];go_upto_region 7 with (fail);go_wp2_with (first | (refine wpLoadAt rfl 217 _ rfl (qb+1) 0 rfl #[.bool t2,.int .u64 x2,.int .u64 y2] _ (fun j u hj=>by rw [Nat.zero_add,HC1.out.cell];exact hj) u_big rfl i_big ?_) | (refine wpLoadAt rfl 217 _ rfl (gx) 0 rfl #[.bool t3,.int .u64 x3,.int .u64 y3] _ (fun j u hj=>by rw [Nat.zero_add,HX1.out.cell];exact hj) u_big rfl i_big ?_) | fail)
    refine (HLS2.out _).mono ?_
    rintro e w2 ⟨rfl,hb2⟩;have HX2:Hid (Bk w2 gx 217 #[.bool t3,.int .u64 x3,.int .u64 y3]):=hZ (HX1.out.below hb2 HX1.out.lt);have HA2:Hid (Bk w2 qb 217 #[.bool t1,.int .u64 x1,.int .u64 y1]):=hZ (HA1.out.below hb2 HA1.out.lt);have HC2:Hid (Bk w2 (qb+1) 217 #[.bool t2,.int .u64 x2,.int .u64 y2]):=hZ (HC1.out.below hb2 HC1.out.lt);have HB2:Hid (Below qb w w2):=hZ (HBL1.out.trans (hb2.mono (Nat.le_of_lt HA1.out.lt)));clear hb2;rcases HD2.out with ⟨r2,hm2⟩ | ⟨r2,hm2⟩
    ·have HM2:=hZ hm2;clear hm2;rw [r2];go_wp2_with (first | (refine wpLoadAt rfl 217 _ rfl (gx) 0 rfl #[.bool t3,.int .u64 x3,.int .u64 y3] _ (fun j u hj=>by rw [Nat.zero_add,HX2.out.cell];exact hj) u_big rfl i_big ?_) | (refine wpStoreAt rfl rfl 217 _ _ rfl (qb+1) 0 rfl #[.bool t3,.int .u64 x3,.int .u64 y3] rfl 217 _ HC2.out (by show 0+3≤3;omega) (one3 _ _ _) i_big ?_;intro wg hkwg howg))
     rw [splA_all #[.bool t2,.int .u64 x2,.int .u64 y2] #[.bool t3,.int .u64 x3,.int .u64 y3] rfl] at hkwg;go_roundw
     case rel=>exact ⟨k+1,by omega,by go_num,hZ ⟨HB2.out.trans (howg.below (by omega)),by rw [HM1.out];exact HA2.out.only howg (by omega),by rw [HM2.out];exact hkwg⟩⟩
     case measure=>simp [intOf];omega
    ·have HM2:=hZ hm2;clear hm2;rw [r2];go_wp2_with fail
     go_roundw
     case rel=>exact ⟨k+1,by omega,by go_num,hZ ⟨HB2.out,by rw [HM1.out];exact HA2.out,by rw [HM2.out];exact HC2.out⟩⟩
     case measure=>simp [intOf];omega
  ·obtain rfl:k=n:=by omega
   have hki:¬ (k:Int)<(k:Int):=by omega
   have c0:wo.cell? ⟨qb,0,none⟩=some (.bool t1):=HA.out.cell 0;have c1:wo.cell? ⟨qb,1,none⟩=some (.int .u64 x1):=HA.out.cell 1;have c2:wo.cell? ⟨qb,2,none⟩=some (.int .u64 y1):=HA.out.cell 2;have d0:wo.cell? ⟨qb+1,0,none⟩=some (.bool t2):=HC.out.cell 0;have d1:wo.cell? ⟨qb+1,1,none⟩=some (.int .u64 x2):=HC.out.cell 1;have d2:wo.cell? ⟨qb+1,2,none⟩=some (.int .u64 y2):=HC.out.cell 2;have u0:wo.frozen? ⟨qb,0,none⟩=false:=HA.out.free 0;have u1:wo.frozen? ⟨qb,1,none⟩=false:=HA.out.free 1;have u2:wo.frozen? ⟨qb,2,none⟩=false:=HA.out.free 2;have v0:wo.frozen? ⟨qb+1,0,none⟩=false:=HC.out.free 0;have v1:wo.frozen? ⟨qb+1,1,none⟩=false:=HC.out.free 1;have v2:wo.frozen? ⟨qb+1,2,none⟩=false:=HC.out.free 2;have HV1:=hZ hv1;have HV2:=hZ hv2;clear hv1 hv2;go_wp2_with fail
   go_region
   obtain ⟨W5,hW5⟩:=eX (((((((wo.setCell ⟨qb,0,none⟩ (.bool t1)).setCell ⟨qb,1,none⟩ (.int .u64 x1)).setCell ⟨qb,2,none⟩ (.int .u64 y1)).setCell ⟨qb+1,0,none⟩ (.bool t2)).setCell ⟨qb+1,1,none⟩ (.int .u64 x2)).setCell ⟨qb+1,2,none⟩ (.int .u64 y2)).drew);have HA5:Hid (Bk W5 qb 217 #[.bool t1,.int .u64 x1,.int .u64 y1]):=hZ (by
    rw [← hW5];exact (((((((HA.out.set 0 (.bool t1)).set 1 (.int .u64 x1)).set 2 (.int .u64 y1)).far (p:=⟨qb+1,0,none⟩) (by simp) _).far (p:=⟨qb+1,1,none⟩) (by simp) _).far (p:=⟨qb+1,2,none⟩) (by simp) _)).drewN 1)
   have HC5:Hid (Bk W5 (qb+1) 217 #[.bool t2,.int .u64 x2,.int .u64 y2]):=hZ (by
    rw [← hW5];exact ((((((HC.out.far (p:=⟨qb,0,none⟩) (by simp) _).far (p:=⟨qb,1,none⟩) (by simp) _).far (p:=⟨qb,2,none⟩) (by simp) _).set 0 (.bool t2)).set 1 (.int .u64 x2)).set 2 (.int .u64 y2)).drewN 1)
   have HB5:Hid (Below qb w W5):=hZ (by
    rw [← hW5];exact ((((((HB.out.setCell (p:=⟨qb,0,none⟩) (Nat.le_refl _) _).setCell (p:=⟨qb,1,none⟩) (Nat.le_refl _) _).setCell (p:=⟨qb,2,none⟩) (Nat.le_refl _) _).setCell (p:=⟨qb+1,0,none⟩) (Nat.le_succ _) _).setCell (p:=⟨qb+1,1,none⟩) (Nat.le_succ _) _).setCell (p:=⟨qb+1,2,none⟩) (Nat.le_succ _) _).drew)
   rw [hW5];clear hW5 c0 c1 c2 d0 d1 d2 u0 u1 u2 v0 v1 v2;go_wp2_with fail
   exact ret_big2 rfl rfl rfl rfl HA5.out HC5.out ⟨by rw [HE1.out,HE2.out],by rw [HQB.out];exact HB5.out⟩

theorem hullS_any (a b:SpanD) (ha:WdS a) (hb:WdS b) (w:World):Calls Tryz.prog 188 #[spanV a,spanV b] w (SpPost (hullB a b) w.heap.size w):=by
 obtain ⟨al,ah⟩:=a;obtain ⟨bl,bh⟩:=b;unfold spanV;dsimp only;have HCH:Hid ((if (allN 2 fun i=>chkB ((fun i=>match i with | 0=>(⟨al,ah⟩:SpanD) | _=>⟨bl,bh⟩) i))=true then (0:Int) else 2)=if (chkB ⟨al,ah⟩ && chkB ⟨bl,bh⟩)=true then 0 else 2):=hZ (by
  show (if (chkB ⟨al,ah⟩ && (chkB ⟨bl,bh⟩ && true))=true then (0:Int) else 2)=_
  rw [Bool.and_true])
 obtain ⟨qb,hqb⟩:=eX w.heap.size;obtain ⟨W0,hW0⟩:=eX ((((w.alloc (.cells #[al,ah] 31)).alloc (.cells #[bl,bh] 31)).alloc (.cells #[.int .i64 0,.int .i64 0] 31)).alloc (.cells #[al,ah,bl,bh] 31));have HA0:Hid (Bk W0 qb 31 #[al,ah]):=hZ (by rw [← hW0,← hqb];exact (((Bk.new _ _ _).alloc _).alloc _).alloc _)
 have HB0:Hid (Bk W0 (qb+1) 31 #[bl,bh]):=hZ (by rw [← hW0,← hqb];exact ((Bk.newAt _ _ _ _ (by simp)).alloc _).alloc _)
 have HR0:Hid (Bk W0 (qb+1+1) 31 #[.int .i64 0,.int .i64 0]):=hZ (by rw [← hW0,← hqb];exact (Bk.newAt _ _ _ _ (by simp)).alloc _)
 have HS0:Hid (Bk W0 (qb+1+1+1) 31 #[al,ah,bl,bh]):=hZ (by rw [← hW0,← hqb];exact Bk.newAt _ _ _ _ (by simp))
 have HL0:Hid (Below qb w W0):=hZ (by rw [← hW0,← hqb];exact ((((Below.refl _ w).alloc (Nat.le_refl _) _).alloc (by simp) _).alloc (by simp <;> omega) _).alloc (by simp <;> omega) _)
 have HSP:Hid (SpansAt W0 W0.heap.size (some ⟨qb+1+1+1,0,none⟩) 2 (fun i=>match i with | 0=>(⟨al,ah⟩:SpanD) | _=>⟨bl,bh⟩)):=hZ ⟨by omega,fun _=>⟨_,_,rfl,HS0.out.lt,fun i hi j hj=>by
  match i,j,hi,hj with
  | 0,0,_,_=>exact HS0.out.cell 0
  | 0,1,_,_=>exact HS0.out.cell 1
  | 1,0,_,_=>exact HS0.out.cell 2
  | 1,1,_,_=>exact HS0.out.cell 3⟩⟩
 have HFIN:Hid (∀ w',Below qb w w'→SpPost (hullB ⟨al,ah⟩ ⟨bl,bh⟩) w.heap.size w (.returned (.tuple #[.agg #[.int .i64 (hullB ⟨al,ah⟩ ⟨bl,bh⟩).1.lo,.int .i64 (hullB ⟨al,ah⟩ ⟨bl,bh⟩).1.hi],.int .i64 (hullB ⟨al,ah⟩ ⟨bl,bh⟩).2])) w'):=hZ fun w' h=>⟨rfl,by rw [hqb];exact h⟩
 have HCK:=hZ (checked_any W0 (some ⟨qb+1+1+1,0,none⟩) 2 2 _ HSP.out (by omega))
 obtain ⟨⟨a1,a2⟩,a3,a4⟩:=ha;obtain ⟨⟨b1,b2⟩,b3,b4⟩:=hb;dsimp only at a1 a2 a3 a4 b1 b2 b3 b4;rw [HCH.out] at HCK;clear HCH HSP a1 a2 a3 a4 b1 b2 b3 b4;cases hc:(chkB ⟨al,ah⟩ && chkB ⟨bl,bh⟩) with
 | false =>
  have hn:hullB ⟨al,ah⟩ ⟨bl,bh⟩=(zeroS,2):=by unfold hullB;rw [hc];rfl
  rw [hn] at HFIN ⊢;rw [hc] at HCK;clear hc hn;go_enter Tryz.func188,Tryz.ntmps188;go_wp2_with fail
  clear hW0 hqb;refine HCK.out.mono ?_
  rintro e wk ⟨rfl,hwk⟩;have HR:Hid (Bk wk (qb+1+1) 31 #[.int .i64 0,.int .i64 0]):=hZ (HR0.out.below hwk HR0.out.lt);have HBW:Hid (Below qb w wk):=hZ (HL0.out.trans (hwk.mono (Nat.le_of_lt HA0.out.lt)));clear hwk;go_wp2_with (refine wpStoreAt rfl rfl 31 _ _ rfl (qb+1+1) 0 rfl #[.int .i64 0,.int .i64 0] rfl 31 _ HR.out (by show 0+2≤2;omega) (one2 _ _) i_span ?_;intro wf hkf hof)
  rw [splA_all #[.int .i64 0,.int .i64 0] #[.int .i64 0,.int .i64 0] rfl] at hkf;exact ret_span rfl rfl rfl hkf rfl (HFIN.out _ (HBW.out.trans (hof.below (by omega))))
 | true =>
  have hn:hullB ⟨al,ah⟩ ⟨bl,bh⟩=(⟨min al bl,max ah bh⟩,0):=by unfold hullB;rw [hc];rfl
  rw [hn] at HFIN ⊢;rw [hc] at HCK;clear hc hn;go_enter Tryz.func188,Tryz.ntmps188;go_wp2_with fail
  clear hW0 hqb;refine HCK.out.mono ?_
  rintro e wk ⟨rfl,hwk⟩;have HAW:Hid (Bk wk qb 31 #[al,ah]):=hZ (HA0.out.below hwk HA0.out.lt);have HBB:Hid (Bk wk (qb+1) 31 #[bl,bh]):=hZ (HB0.out.below hwk HB0.out.lt);have HR:Hid (Bk wk (qb+1+1) 31 #[.int .i64 0,.int .i64 0]):=hZ (HR0.out.below hwk HR0.out.lt);have HBW:Hid (Below qb w wk):=hZ (HL0.out.trans (hwk.mono (Nat.le_of_lt HA0.out.lt)));clear hwk;have c0:wk.cell? ⟨qb,0,none⟩=some (.int .i64 al):=HAW.out.cell 0;have c1:wk.cell? ⟨qb,1,none⟩=some (.int .i64 ah):=HAW.out.cell 1;have d0:wk.cell? ⟨qb+1,0,none⟩=some (.int .i64 bl):=HBB.out.cell 0;have d1:wk.cell? ⟨qb+1,1,none⟩=some (.int .i64 bh):=HBB.out.cell 1;go_wp2_with (refine wpStoreAt rfl rfl 31 _ _ rfl (qb+1+1) 0 rfl #[.int .i64 (min al bl),.int .i64 (max ah bh)] rfl 31 _ HR.out (by show 0+2≤2;omega) (one2 _ _) i_span ?_;intro wf hkf hof)
  rw [splA_all #[.int .i64 0,.int .i64 0] #[.int .i64 (min al bl),.int .i64 (max ah bh)] rfl] at hkf;exact ret_span rfl rfl rfl hkf rfl (HFIN.out _ (HBW.out.trans (hof.below (by omega))))

theorem wide_any (a:SpanD) (ha:WdS a) (w:World):Calls Tryz.prog 189 #[spanV a] w fun e w'=>e=.returned (.tuple #[.int .i64 (wideB a).1,.int .i64 (wideB a).2])∧Below w.heap.size w w':=by
 obtain ⟨lo,hi⟩:=a;have H1:=hZ (fun w=>check_any ⟨lo,hi⟩ w);obtain ⟨qb,hqb⟩:=eX w.heap.size;obtain ⟨W0,hW0⟩:=eX (w.alloc (.cells #[.int .i64 lo,.int .i64 hi] 31));have HA:Hid (Bk W0 qb 31 #[.int .i64 lo,.int .i64 hi]):=hZ (by rw [← hW0,← hqb];exact Bk.new _ _ _)
 have HB:Hid (Below qb w W0):=hZ (by rw [← hW0,← hqb];exact (Below.refl _ w).alloc (Nat.le_refl _) _)
 have HQ:Hid (w.heap.size=qb):=hZ hqb;obtain ⟨⟨a1,a2⟩,a3,a4⟩:=ha;dsimp only at a1 a2 a3 a4;obtain ⟨R,hR⟩:=eX (wideB ⟨lo,hi⟩);rw [hR];unfold spanV at H1 ⊢;dsimp only at H1 ⊢;cases hc:chkB ⟨lo,hi⟩ with
 | false =>
  have he:errC ⟨lo,hi⟩=2:=by unfold errC;rw [hc];rfl
  have hn:R=(0,2):=by rw [← hR];unfold wideB;rw [hc];rfl
  subst hn;rw [he] at H1;clear hc he hR;go_enter Tryz.func189,Tryz.ntmps189;go_upto_region 1 with (fail);clear hW0 hqb;go_wp2_with (refine wpLoadAt rfl 31 _ rfl qb 0 rfl #[.int .i64 lo,.int .i64 hi] _ (fun j u hj=>by rw [Nat.zero_add,HA.out.cell];exact hj) u_span rfl i_span ?_)
  refine (H1.out _).mono ?_
  rintro e w1 ⟨rfl,hw1⟩;have HB1:Hid (Below qb w w1):=hZ (HB.out.trans (hw1.mono (Nat.le_of_lt HA.out.lt)));clear hw1;go_wp2_with fail
  go_ret2
  exact ⟨rfl,by rw [HQ.out];exact HB1.out⟩
 | true =>
  have he:errC ⟨lo,hi⟩=0:=by unfold errC;rw [hc];rfl
  have h3:=chk_iff.1 hc;dsimp only at h3;rw [he] at H1;by_cases g:lo<0
  ·have m1:IntKind.i64.wrap (9223372036854775807+lo)=9223372036854775807+lo:=IntWalk.i64_in _ (by omega)
   have m1':wrap64 (9223372036854775807+lo)=9223372036854775807+lo:=w64_in (by omega) (by omega)
   have g1:decide (lo<0)=true:=decide_eq_true g;by_cases k:9223372036854775807+lo<hi
   ·have hn:R=(0,4):=by rw [← hR];unfold wideB;rw [hc,if_pos rfl,if_pos ⟨g,k⟩]
    subst hn;have g2:decide (9223372036854775807+lo<hi)=true:=decide_eq_true k;clear hc he hR h3 g k a1 a2 a3 a4;go_enter Tryz.func189,Tryz.ntmps189;go_upto_region 1 with (fail);clear hW0 hqb;go_wp2_with (refine wpLoadAt rfl 31 _ rfl qb 0 rfl #[.int .i64 lo,.int .i64 hi] _ (fun j u hj=>by rw [Nat.zero_add,HA.out.cell];exact hj) u_span rfl i_span ?_)
    refine (H1.out _).mono ?_
    rintro e w1 ⟨rfl,hw1⟩;have HB1:Hid (Below qb w w1):=hZ (HB.out.trans (hw1.mono (Nat.le_of_lt HA.out.lt)));have c0:w1.cell? ⟨qb,0,none⟩=some (.int .i64 lo):=(HA.out.below hw1 HA.out.lt).cell 0;have c1:w1.cell? ⟨qb,1,none⟩=some (.int .i64 hi):=(HA.out.below hw1 HA.out.lt).cell 1;clear hw1;go_wp2_with fail
    go_ret2
    exact ⟨rfl,by rw [HQ.out];exact HB1.out⟩
   ·have hn:R=(hi - lo,0):=by rw [← hR];unfold wideB;rw [hc,if_pos rfl,if_neg (fun h=>k h.2)]
    subst hn;have g2:decide (9223372036854775807+lo<hi)=false:=decide_eq_false k;have m2:IntKind.i64.wrap (hi - lo)=hi - lo:=IntWalk.i64_in _ (by omega)
    have m2':wrap64 (hi - lo)=hi - lo:=w64_in (by omega) (by omega)
    clear hc he hR h3 g k a1 a2 a3 a4;go_enter Tryz.func189,Tryz.ntmps189;go_upto_region 1 with (fail);clear hW0 hqb;go_wp2_with (refine wpLoadAt rfl 31 _ rfl qb 0 rfl #[.int .i64 lo,.int .i64 hi] _ (fun j u hj=>by rw [Nat.zero_add,HA.out.cell];exact hj) u_span rfl i_span ?_)
    refine (H1.out _).mono ?_
    rintro e w1 ⟨rfl,hw1⟩;have HB1:Hid (Below qb w w1):=hZ (HB.out.trans (hw1.mono (Nat.le_of_lt HA.out.lt)));have c0:w1.cell? ⟨qb,0,none⟩=some (.int .i64 lo):=(HA.out.below hw1 HA.out.lt).cell 0;have c1:w1.cell? ⟨qb,1,none⟩=some (.int .i64 hi):=(HA.out.below hw1 HA.out.lt).cell 1;clear hw1;go_wp2_with fail
    go_ret2
    exact ⟨rfl,by rw [HQ.out];exact HB1.out⟩
  ·have hn:R=(hi - lo,0):=by rw [← hR];unfold wideB;rw [hc,if_pos rfl,if_neg (fun h=>g h.1)]
   subst hn;have g1:decide (lo<0)=false:=decide_eq_false g;have m2:IntKind.i64.wrap (hi - lo)=hi - lo:=IntWalk.i64_in _ (by omega)
   have m2':wrap64 (hi - lo)=hi - lo:=w64_in (by omega) (by omega)
   clear hc he hR h3 g a1 a2 a3 a4;go_enter Tryz.func189,Tryz.ntmps189;go_upto_region 1 with (fail);clear hW0 hqb;go_wp2_with (refine wpLoadAt rfl 31 _ rfl qb 0 rfl #[.int .i64 lo,.int .i64 hi] _ (fun j u hj=>by rw [Nat.zero_add,HA.out.cell];exact hj) u_span rfl i_span ?_)
   refine (H1.out _).mono ?_
   rintro e w1 ⟨rfl,hw1⟩;have HB1:Hid (Below qb w w1):=hZ (HB.out.trans (hw1.mono (Nat.le_of_lt HA.out.lt)));have c0:w1.cell? ⟨qb,0,none⟩=some (.int .i64 lo):=(HA.out.below hw1 HA.out.lt).cell 0;have c1:w1.cell? ⟨qb,1,none⟩=some (.int .i64 hi):=(HA.out.below hw1 HA.out.lt).cell 1;clear hw1;go_wp2_with fail
   go_ret2
   exact ⟨rfl,by rw [HQ.out];exact HB1.out⟩

def absB (a:SpanD):SpanD × Int:=if chkB a then (absS a,0) else (zeroS,2)
theorem abs_any (a:SpanD) (ha:WdS a) (w:World):Calls Tryz.prog 174 #[spanV a] w (SpPost (absB a) w.heap.size w):=by
 have HN:=hZ (fun w=>neg_any a ha w);obtain ⟨lo,hi⟩:=a;have H1:=hZ (fun w=>check_any ⟨lo,hi⟩ w);obtain ⟨qb,hqb⟩:=eX w.heap.size;obtain ⟨W0,hW0⟩:=eX ((w.alloc (.cells #[.int .i64 lo,.int .i64 hi] 31)).alloc (.cells #[.int .i64 0,.int .i64 0] 31));have HA:Hid (Bk W0 qb 31 #[.int .i64 lo,.int .i64 hi]):=hZ (by rw [← hW0,← hqb];exact (Bk.new _ _ _).alloc _)
 have HR:Hid (Bk W0 (qb+1) 31 #[.int .i64 0,.int .i64 0]):=hZ (by rw [← hW0,← hqb];exact Bk.newAt _ _ _ _ (by simp))
 have HB:Hid (Below qb w W0):=hZ (by rw [← hW0,← hqb];exact ((Below.refl _ w).alloc (Nat.le_refl _) _).alloc (by simp) _)
 have HFIN:Hid (∀ w',Below qb w w'→SpPost (absB ⟨lo,hi⟩) w.heap.size w (.returned (.tuple #[.agg #[.int .i64 (absB ⟨lo,hi⟩).1.lo,.int .i64 (absB ⟨lo,hi⟩).1.hi],.int .i64 (absB ⟨lo,hi⟩).2])) w'):=hZ fun w' h=>⟨rfl,by rw [hqb];exact h⟩
 obtain ⟨⟨a1,a2⟩,a3,a4⟩:=ha;dsimp only at a1 a2 a3 a4;unfold SpPost spanV at HN;unfold spanV at H1 ⊢;dsimp only at H1 HN ⊢;cases hc:chkB ⟨lo,hi⟩ with
 | false =>
  have he:errC ⟨lo,hi⟩=2:=by unfold errC;rw [hc];rfl
  have hn:absB ⟨lo,hi⟩=(zeroS,2):=by unfold absB;rw [hc];rfl
  rw [he] at H1;rw [hn] at HFIN ⊢;clear hc he hn a1 a2 a3 a4;go_enter Tryz.func174,Tryz.ntmps174;go_upto_region 1 with (fail);clear hW0 hqb;go_wp2_with (refine wpLoadAt rfl 31 _ rfl qb 0 rfl #[.int .i64 lo,.int .i64 hi] _ (fun j u hj=>by rw [Nat.zero_add,HA.out.cell];exact hj) u_span rfl i_span ?_)
  refine (H1.out _).mono ?_
  rintro e w1 ⟨rfl,hw1⟩;have HR1:Hid (Bk w1 (qb+1) 31 #[.int .i64 0,.int .i64 0]):=hZ (HR.out.below hw1 HR.out.lt);have HA1:Hid (Bk w1 qb 31 #[.int .i64 lo,.int .i64 hi]):=hZ (HA.out.below hw1 HA.out.lt);have HB1:Hid (Below qb w w1):=hZ (HB.out.trans (hw1.mono (Nat.le_of_lt HA.out.lt)));have c0:w1.cell? ⟨qb,0,none⟩=some (.int .i64 lo):=HA1.out.cell 0;have c1:w1.cell? ⟨qb,1,none⟩=some (.int .i64 hi):=HA1.out.cell 1;clear hw1;go_wp2_with (refine wpStoreAt rfl rfl 31 _ _ rfl (qb+1) 0 rfl #[.int .i64 (0),.int .i64 (0)] rfl 31 _ HR1.out (by show 0+2≤2;omega) (one2 _ _) i_span ?_;intro wf hkf hof)
  rw [splA_all #[.int .i64 0,.int .i64 0] #[.int .i64 (0),.int .i64 (0)] rfl] at hkf;exact ret_span rfl rfl rfl hkf rfl (HFIN.out _ (HB1.out.trans (hof.below (by omega))))
 | true =>
  have he:errC ⟨lo,hi⟩=0:=by unfold errC;rw [hc];rfl
  have h3:=chk_iff.1 hc;dsimp only at h3;have hnb:negB ⟨lo,hi⟩=(⟨-hi,-lo⟩,0):=by unfold negB;rw [hc];rfl
  rw [hnb] at HN;rw [he] at H1;dsimp only at HN;by_cases g:0≤lo
  ·have hn:absB ⟨lo,hi⟩=(⟨lo,hi⟩,0):=by unfold absB absS;rw [hc,if_pos rfl,if_pos g]
   rw [hn] at HFIN ⊢;have g1:decide (0≤lo)=true:=decide_eq_true g;clear hc he hn hnb h3 g a1 a2 a3 a4;go_enter Tryz.func174,Tryz.ntmps174;go_upto_region 1 with (fail);clear hW0 hqb;go_wp2_with (refine wpLoadAt rfl 31 _ rfl qb 0 rfl #[.int .i64 lo,.int .i64 hi] _ (fun j u hj=>by rw [Nat.zero_add,HA.out.cell];exact hj) u_span rfl i_span ?_)
   refine (H1.out _).mono ?_
   rintro e w1 ⟨rfl,hw1⟩;have HR1:Hid (Bk w1 (qb+1) 31 #[.int .i64 0,.int .i64 0]):=hZ (HR.out.below hw1 HR.out.lt);have HA1:Hid (Bk w1 qb 31 #[.int .i64 lo,.int .i64 hi]):=hZ (HA.out.below hw1 HA.out.lt);have HB1:Hid (Below qb w w1):=hZ (HB.out.trans (hw1.mono (Nat.le_of_lt HA.out.lt)));have c0:w1.cell? ⟨qb,0,none⟩=some (.int .i64 lo):=HA1.out.cell 0;have c1:w1.cell? ⟨qb,1,none⟩=some (.int .i64 hi):=HA1.out.cell 1;clear hw1;go_wp2_with (first | (refine wpLoadAt rfl 31 _ rfl qb 0 rfl #[.int .i64 lo,.int .i64 hi] _ (fun j u hj=>by rw [Nat.zero_add,HA1.out.cell];exact hj) u_span rfl i_span ?_) | (refine wpStoreAt rfl rfl 31 _ _ rfl (qb+1) 0 rfl #[.int .i64 (lo),.int .i64 (hi)] rfl 31 _ HR1.out (by show 0+2≤2;omega) (one2 _ _) i_span ?_;intro wf hkf hof))
   rw [splA_all #[.int .i64 0,.int .i64 0] #[.int .i64 (lo),.int .i64 (hi)] rfl] at hkf;exact ret_span rfl rfl rfl hkf rfl (HFIN.out _ (HB1.out.trans (hof.below (by omega))))
  ·have g1:decide (0≤lo)=false:=decide_eq_false g;by_cases k:hi≤0
   ·have hn:absB ⟨lo,hi⟩=(⟨-hi,-lo⟩,0):=by unfold absB absS negS;rw [hc,if_pos rfl,if_neg g,if_pos k]
    rw [hn] at HFIN ⊢;have g2:decide (hi≤0)=true:=decide_eq_true k;clear hc he hn hnb h3 g k a1 a2 a3 a4;go_enter Tryz.func174,Tryz.ntmps174;go_upto_region 1 with (fail);clear hW0 hqb;go_wp2_with (refine wpLoadAt rfl 31 _ rfl qb 0 rfl #[.int .i64 lo,.int .i64 hi] _ (fun j u hj=>by rw [Nat.zero_add,HA.out.cell];exact hj) u_span rfl i_span ?_)
    refine (H1.out _).mono ?_
    rintro e w1 ⟨rfl,hw1⟩;have HR1:Hid (Bk w1 (qb+1) 31 #[.int .i64 0,.int .i64 0]):=hZ (HR.out.below hw1 HR.out.lt);have HA1:Hid (Bk w1 qb 31 #[.int .i64 lo,.int .i64 hi]):=hZ (HA.out.below hw1 HA.out.lt);have HB1:Hid (Below qb w w1):=hZ (HB.out.trans (hw1.mono (Nat.le_of_lt HA.out.lt)));have c0:w1.cell? ⟨qb,0,none⟩=some (.int .i64 lo):=HA1.out.cell 0;have c1:w1.cell? ⟨qb,1,none⟩=some (.int .i64 hi):=HA1.out.cell 1;clear hw1;go_wp2_with (refine wpLoadAt rfl 31 _ rfl qb 0 rfl #[.int .i64 lo,.int .i64 hi] _ (fun j u hj=>by rw [Nat.zero_add,HA1.out.cell];exact hj) u_span rfl i_span ?_)
    refine (HN.out _).mono ?_
    rintro e w2 ⟨rfl,hw2⟩;have HR2:Hid (Bk w2 (qb+1) 31 #[.int .i64 0,.int .i64 0]):=hZ (HR1.out.below hw2 HR1.out.lt);have HB1:Hid (Below qb w w2):=hZ (HB1.out.trans (hw2.mono (Nat.le_of_lt HA1.out.lt)));clear hw2;go_wp2_with (refine wpStoreAt rfl rfl 31 _ _ rfl (qb+1) 0 rfl #[.int .i64 (-hi),.int .i64 (-lo)] rfl 31 _ HR2.out (by show 0+2≤2;omega) (one2 _ _) i_span ?_;intro wf hkf hof)
    rw [splA_all #[.int .i64 0,.int .i64 0] #[.int .i64 (-hi),.int .i64 (-lo)] rfl] at hkf;exact ret_span rfl rfl rfl hkf rfl (HFIN.out _ (HB1.out.trans (hof.below (by omega))))
   ·have hn:absB ⟨lo,hi⟩=(⟨0,max (-lo) hi⟩,0):=by unfold absB absS;rw [hc,if_pos rfl,if_neg g,if_neg k]
    rw [hn] at HFIN ⊢;have g2:decide (hi≤0)=false:=decide_eq_false k;have m2:IntKind.i64.wrap (-lo)=-lo:=IntWalk.i64_in _ (by omega)
    have m2':wrap64 (-lo)=-lo:=w64_in (by omega) (by omega)
    clear hc he hn hnb h3 g k a1 a2 a3 a4;go_enter Tryz.func174,Tryz.ntmps174;go_upto_region 1 with (fail);clear hW0 hqb;go_wp2_with (refine wpLoadAt rfl 31 _ rfl qb 0 rfl #[.int .i64 lo,.int .i64 hi] _ (fun j u hj=>by rw [Nat.zero_add,HA.out.cell];exact hj) u_span rfl i_span ?_)
    refine (H1.out _).mono ?_
    rintro e w1 ⟨rfl,hw1⟩;have HR1:Hid (Bk w1 (qb+1) 31 #[.int .i64 0,.int .i64 0]):=hZ (HR.out.below hw1 HR.out.lt);have HA1:Hid (Bk w1 qb 31 #[.int .i64 lo,.int .i64 hi]):=hZ (HA.out.below hw1 HA.out.lt);have HB1:Hid (Below qb w w1):=hZ (HB.out.trans (hw1.mono (Nat.le_of_lt HA.out.lt)));have c0:w1.cell? ⟨qb,0,none⟩=some (.int .i64 lo):=HA1.out.cell 0;have c1:w1.cell? ⟨qb,1,none⟩=some (.int .i64 hi):=HA1.out.cell 1;clear hw1;go_wp2_with (refine wpStoreAt rfl rfl 31 _ _ rfl (qb+1) 0 rfl #[.int .i64 (0),.int .i64 (max (-lo) hi)] rfl 31 _ HR1.out (by show 0+2≤2;omega) (one2 _ _) i_span ?_;intro wf hkf hof)
    rw [splA_all #[.int .i64 0,.int .i64 0] #[.int .i64 (0),.int .i64 (max (-lo) hi)] rfl] at hkf;exact ret_span rfl rfl rfl hkf rfl (HFIN.out _ (HB1.out.trans (hof.below (by omega))))

theorem within_any (a b:SpanD) (ha:WdS a) (hb:WdS b) (w:World):Calls Tryz.prog 115 #[spanV a,spanV b] w fun e w'=>e=.returned (.bool (withinB a b))∧Below w.heap.size w w':=by
 obtain ⟨al,ah⟩:=a;obtain ⟨bl,bh⟩:=b;unfold spanV;dsimp only;have HCH:Hid ((if (allN 2 fun i=>chkB ((fun i=>match i with | 0=>(⟨al,ah⟩:SpanD) | _=>⟨bl,bh⟩) i))=true then (0:Int) else 2)=if (chkB ⟨al,ah⟩ && chkB ⟨bl,bh⟩)=true then 0 else 2):=hZ (by
  show (if (chkB ⟨al,ah⟩ && (chkB ⟨bl,bh⟩ && true))=true then (0:Int) else 2)=_
  rw [Bool.and_true])
 obtain ⟨qb,hqb⟩:=eX w.heap.size;obtain ⟨W0,hW0⟩:=eX (((w.alloc (.cells #[al,ah] 31)).alloc (.cells #[bl,bh] 31)).alloc (.cells #[al,ah,bl,bh] 31));have HA0:Hid (Bk W0 qb 31 #[al,ah]):=hZ (by rw [← hW0,← hqb];exact ((Bk.new _ _ _).alloc _).alloc _)
 have HB0:Hid (Bk W0 (qb+1) 31 #[bl,bh]):=hZ (by rw [← hW0,← hqb];exact (Bk.newAt _ _ _ _ (by simp)).alloc _)
 have HS0:Hid (Bk W0 (qb+1+1) 31 #[al,ah,bl,bh]):=hZ (by rw [← hW0,← hqb];exact Bk.newAt _ _ _ _ (by simp))
 have HL0:Hid (Below qb w W0):=hZ (by rw [← hW0,← hqb];exact (((Below.refl _ w).alloc (Nat.le_refl _) _).alloc (by simp) _).alloc (by simp <;> omega) _)
 have HSP:Hid (SpansAt W0 W0.heap.size (some ⟨qb+1+1,0,none⟩) 2 (fun i=>match i with | 0=>(⟨al,ah⟩:SpanD) | _=>⟨bl,bh⟩)):=hZ ⟨by omega,fun _=>⟨_,_,rfl,HS0.out.lt,fun i hi j hj=>by
  match i,j,hi,hj with
  | 0,0,_,_=>exact HS0.out.cell 0
  | 0,1,_,_=>exact HS0.out.cell 1
  | 1,0,_,_=>exact HS0.out.cell 2
  | 1,1,_,_=>exact HS0.out.cell 3⟩⟩
 have HQ:Hid (w.heap.size=qb):=hZ hqb;obtain ⟨R,hR⟩:=eX (withinB ⟨al,ah⟩ ⟨bl,bh⟩);rw [hR];have HCK:=hZ (checked_any W0 (some ⟨qb+1+1,0,none⟩) 2 2 _ HSP.out (by omega))
 obtain ⟨⟨a1,a2⟩,a3,a4⟩:=ha;obtain ⟨⟨b1,b2⟩,b3,b4⟩:=hb;dsimp only at a1 a2 a3 a4 b1 b2 b3 b4;rw [HCH.out] at HCK;clear HCH HSP a1 a2 a3 a4 b1 b2 b3 b4;cases hc:(chkB ⟨al,ah⟩ && chkB ⟨bl,bh⟩) with
 | false =>
  have HV:Hid (R=false):=hZ (by rw [← hR];unfold withinB;rw [hc];rfl)
  rw [hc] at HCK;clear hc hR;go_enter Tryz.func115,Tryz.ntmps115;go_wp2_with fail
  clear hW0 hqb;refine HCK.out.mono ?_
  rintro e wk ⟨rfl,hwk⟩;have HBW:Hid (Below qb w wk):=hZ (HL0.out.trans (hwk.mono (Nat.le_of_lt HA0.out.lt)));have c0:wk.cell? ⟨qb,0,none⟩=some (.int .i64 al):=(HA0.out.below hwk HA0.out.lt).cell 0;have c1:wk.cell? ⟨qb,1,none⟩=some (.int .i64 ah):=(HA0.out.below hwk HA0.out.lt).cell 1;have d0:wk.cell? ⟨qb+1,0,none⟩=some (.int .i64 bl):=(HB0.out.below hwk HB0.out.lt).cell 0;have d1:wk.cell? ⟨qb+1,1,none⟩=some (.int .i64 bh):=(HB0.out.below hwk HB0.out.lt).cell 1;clear hwk;go_wp2_with fail
  go_ret
  exact ⟨ret_bool HV.out.symm,by rw [HQ.out];exact HBW.out⟩
 | true =>
  rw [hc] at HCK;by_cases g:bl≤al
  ·have g1:decide (bl≤al)=true:=decide_eq_true g;by_cases k:ah≤bh
   ·have g2:decide (ah≤bh)=true:=decide_eq_true k;have HV:Hid (R=true):=hZ (by rw [← hR];unfold withinB;rw [hc,g1,g2];rfl)
    clear hc hR g k;go_enter Tryz.func115,Tryz.ntmps115;go_wp2_with fail
    clear hW0 hqb;refine HCK.out.mono ?_
    rintro e wk ⟨rfl,hwk⟩;have HBW:Hid (Below qb w wk):=hZ (HL0.out.trans (hwk.mono (Nat.le_of_lt HA0.out.lt)));have c0:wk.cell? ⟨qb,0,none⟩=some (.int .i64 al):=(HA0.out.below hwk HA0.out.lt).cell 0;have c1:wk.cell? ⟨qb,1,none⟩=some (.int .i64 ah):=(HA0.out.below hwk HA0.out.lt).cell 1;have d0:wk.cell? ⟨qb+1,0,none⟩=some (.int .i64 bl):=(HB0.out.below hwk HB0.out.lt).cell 0;have d1:wk.cell? ⟨qb+1,1,none⟩=some (.int .i64 bh):=(HB0.out.below hwk HB0.out.lt).cell 1;clear hwk;go_wp2_with fail
    go_ret
    exact ⟨ret_bool HV.out.symm,by rw [HQ.out];exact HBW.out⟩
   ·have g2:decide (ah≤bh)=false:=decide_eq_false k;have HV:Hid (R=false):=hZ (by rw [← hR];unfold withinB;rw [hc,g1,g2];rfl)
    clear hc hR g k;go_enter Tryz.func115,Tryz.ntmps115;go_wp2_with fail
    clear hW0 hqb;refine HCK.out.mono ?_
    rintro e wk ⟨rfl,hwk⟩;have HBW:Hid (Below qb w wk):=hZ (HL0.out.trans (hwk.mono (Nat.le_of_lt HA0.out.lt)));have c0:wk.cell? ⟨qb,0,none⟩=some (.int .i64 al):=(HA0.out.below hwk HA0.out.lt).cell 0;have c1:wk.cell? ⟨qb,1,none⟩=some (.int .i64 ah):=(HA0.out.below hwk HA0.out.lt).cell 1;have d0:wk.cell? ⟨qb+1,0,none⟩=some (.int .i64 bl):=(HB0.out.below hwk HB0.out.lt).cell 0;have d1:wk.cell? ⟨qb+1,1,none⟩=some (.int .i64 bh):=(HB0.out.below hwk HB0.out.lt).cell 1;clear hwk;go_wp2_with fail
    go_ret
    exact ⟨ret_bool HV.out.symm,by rw [HQ.out];exact HBW.out⟩
  ·have g1:decide (bl≤al)=false:=decide_eq_false g;have HV:Hid (R=false):=hZ (by rw [← hR];unfold withinB;rw [hc,g1];rfl)
   clear hc hR g;go_enter Tryz.func115,Tryz.ntmps115;go_wp2_with fail
   clear hW0 hqb;refine HCK.out.mono ?_
   rintro e wk ⟨rfl,hwk⟩;have HBW:Hid (Below qb w wk):=hZ (HL0.out.trans (hwk.mono (Nat.le_of_lt HA0.out.lt)));have c0:wk.cell? ⟨qb,0,none⟩=some (.int .i64 al):=(HA0.out.below hwk HA0.out.lt).cell 0;have c1:wk.cell? ⟨qb,1,none⟩=some (.int .i64 ah):=(HA0.out.below hwk HA0.out.lt).cell 1;have d0:wk.cell? ⟨qb+1,0,none⟩=some (.int .i64 bl):=(HB0.out.below hwk HB0.out.lt).cell 0;have d1:wk.cell? ⟨qb+1,1,none⟩=some (.int .i64 bh):=(HB0.out.below hwk HB0.out.lt).cell 1;clear hwk;go_wp2_with fail
   go_ret
   exact ⟨ret_bool HV.out.symm,by rw [HQ.out];exact HBW.out⟩

/-- Cells that are numbers. -/
def iC (l:List Int):Array Value:=(l.map (Value.int .i64)).toArray
theorem dep {a b c:Value} (h:a=b∧b=c):a=c:=h.1.trans h.2
/-- A block: its number, type and cells. -/
abbrev Ent:=Nat × TypeId × Array Value
/-- w is W, but that the old blocks O have turned, and the new blocks N are there (and others). -/
structure Fr (W:World) (O N:List Ent) (w:World):Prop where
 os:w.os=W.os
 tape:w.tape=W.tape
 output:w.output=W.output
 size:W.heap.size≤w.heap.size
 far:∀ b,b<W.heap.size→b ∉ O.map (·.1)→w.heap[b]?=W.heap[b]?
 old:∀ x ∈ O,x.1<W.heap.size∧Bk w x.1 x.2.1 x.2.2
 new:∀ x ∈ N,W.heap.size≤x.1∧Bk w x.1 x.2.1 x.2.2
 ndO:(O.map (·.1)).Nodup
 ndN:(N.map (·.1)).Nodup

theorem Fr.start (W:World):Fr W [] [] W :=
 ⟨rfl,rfl,rfl,Nat.le_refl _,fun _ _ _=>rfl,fun _ h=>(List.not_mem_nil h).elim,fun _ h=>(List.not_mem_nil h).elim,List.nodup_nil,List.nodup_nil⟩
theorem Fr.start1 {W:World} {b:Nat} {t:TypeId} {cs:Array Value} (h:Bk W b t cs):Fr W [(b,t,cs)] [] W :=
 ⟨rfl,rfl,rfl,Nat.le_refl _,fun _ _ _=>rfl,fun x hx=>by obtain rfl:=List.mem_singleton.1 hx;exact ⟨h.lt,h⟩,fun _ h=>(List.not_mem_nil h).elim,by simp,List.nodup_nil⟩
section
variable {W w w':World} {O N X:List Ent} {b:Nat} {t t':TypeId} {cs cs':Array Value}
theorem Fr.below (h:Fr W O N w) (k:Below w.heap.size w w'):Fr W O N w' :=
 ⟨k.os.trans h.os,k.tape.trans h.tape,k.output.trans h.output,Nat.le_trans h.size k.size,fun i hi hx=>(k.block i (Nat.lt_of_lt_of_le hi h.size)).trans (h.far i hi hx),
  fun x hx=>⟨(h.old x hx).1,(h.old x hx).2.below k (h.old x hx).2.lt⟩,fun x hx=>⟨(h.new x hx).1,(h.new x hx).2.below k (h.new x hx).2.lt⟩,h.ndO,h.ndN⟩
theorem Fr.drewN (h:Fr W O N w) (n:Nat):Fr W O N (w.drewN n):=h.below (below_drewN (Below.refl _ _) n)
theorem Fr.drew (h:Fr W O N w):Fr W O N w.drew:=h.below (Below.refl _ _).drew
theorem Fr.getO (h:Fr W O N w) (i:Nat) (hi:O[i]?=some (b,t,cs)):Bk w b t cs:=(h.old _ (List.mem_of_getElem? hi)).2
theorem Fr.get (h:Fr W O N w) (i:Nat) (hi:N[i]?=some (b,t,cs)):Bk w b t cs:=(h.new _ (List.mem_of_getElem? hi)).2
theorem Fr.ge (h:Fr W O N w) (i:Nat) (hi:N[i]?=some (b,t,cs)):W.heap.size≤b:=(h.new _ (List.mem_of_getElem? hi)).1
theorem Fr.alloc (h:Fr W O N w) {g:Nat} (hg:g=w.heap.size) (t:TypeId) (cs:Array Value):Fr W O (N ++ [(g,t,cs)]) (w.alloc (.cells cs t)):=by
 subst hg
 have hb:Below w.heap.size w (w.alloc (.cells cs t)):=(Below.refl _ _).alloc (Nat.le_refl _) _
 have h2:=h.below hb
 refine ⟨h2.os,h2.tape,h2.output,h2.size,h2.far,h2.old,fun x hx=>?_,h.ndO,?_⟩
 ·rcases List.mem_append.1 hx with hx | hx
  ·exact h2.new x hx
  ·obtain rfl:=List.mem_singleton.1 hx;exact ⟨h.size,Bk.new _ _ _⟩
 ·rw [List.map_append,List.nodup_append]
  refine ⟨h.ndN,by simp,fun a ha c hc=>?_⟩
  obtain ⟨x,hx,rfl⟩:=List.mem_map.1 ha
  simp at hc
  have:=(h.new x hx).2.lt
  omega
theorem map_set_fst {α β:Type} {L:List (α × β)} {i:Nat} {x:α × β} (hi:L[i]?=some x) (y:β):(L.set i (x.1,y)).map (·.1)=L.map (·.1):=by
 rw [List.map_set]
 apply List.ext_getElem?
 intro j
 rw [List.getElem?_set]
 by_cases e:i=j
 ·subst e
  have hl:=(List.getElem?_eq_some_iff.1 hi).1
  rw [if_pos rfl,if_pos (by simpa using hl),List.getElem?_map,hi];rfl
 ·rw [if_neg e]
theorem mem_set_ne {α β:Type} {L:List (α × β)} {i:Nat} {a:α} {y z:β} (hn:(L.map (·.1)).Nodup) (hi:L[i]?=some (a,y)) {x:α × β} (hx:x ∈ L.set i (a,z)):x=(a,z) ∨ x ∈ L∧x.1 ≠ a:=by
 obtain ⟨j,hj⟩:=List.getElem?_of_mem hx
 rw [List.getElem?_set] at hj
 by_cases e:i=j
 ·rw [if_pos e] at hj
  split at hj
  ·left;exact (Option.some.inj hj).symm
  ·cases hj
 ·rw [if_neg e] at hj
  refine Or.inr ⟨List.mem_of_getElem? hj,fun hxa=>e ?_⟩
  have h1:=(List.getElem?_eq_some_iff.1 hi).1
  have h2:=(List.getElem?_eq_some_iff.1 hj).1
  have hp:=List.pairwise_iff_getElem.1 hn
  have e1:(L.map (·.1))[i]'(by simpa using h1)=a:=by rw [List.getElem_map,(List.getElem?_eq_some_iff.1 hi).2]
  have e2:(L.map (·.1))[j]'(by simpa using h2)=a:=by rw [List.getElem_map,(List.getElem?_eq_some_iff.1 hj).2];exact hxa
  rcases Nat.lt_trichotomy i j with g | g | g
  ·exact absurd (e1.trans e2.symm) (hp i j (by simpa using h1) (by simpa using h2) g)
  ·exact g
  ·exact absurd (e2.trans e1.symm) (hp j i (by simpa using h2) (by simpa using h1) g)
/-- A call that has turned one block: of the new ones. -/
theorem Fr.turn (h:Fr W O N w) (i:Nat) (hi:N[i]?=some (b,t,cs)) (k:Fr w [(b,t',cs')] [] w'):Fr W O (N.set i (b,t',cs')) w':=by
 have hbw:=(h.new _ (List.mem_of_getElem? hi)).1
 have far:∀ c,c<w.heap.size→c ≠ b→w'.heap[c]?=w.heap[c]?:=fun c hc hcb=>k.far c hc (by simpa using hcb)
 refine ⟨k.os.trans h.os,k.tape.trans h.tape,k.output.trans h.output,Nat.le_trans h.size k.size,fun c hc hx=>(far c (Nat.lt_of_lt_of_le hc h.size) (by have:W.heap.size≤b:=hbw;omega)).trans (h.far c hc hx),
  fun x hx=>⟨(h.old x hx).1,?_⟩,fun x hx=>?_,h.ndO,by rw [map_set_fst (x:=(b,t,cs)) hi];exact h.ndN⟩
 ·have h1:=(h.old x hx).1
  exact (far x.1 (h.old x hx).2.lt (by have:W.heap.size≤b:=hbw;omega)).trans (h.old x hx).2
 ·rcases mem_set_ne h.ndN hi hx with rfl | ⟨h1,h2⟩
  ·exact ⟨hbw,(k.old _ (List.mem_singleton.2 rfl)).2⟩
  ·exact ⟨(h.new x h1).1,(far x.1 (h.new x h1).2.lt h2).trans (h.new x h1).2⟩
/-- A call that has turned one block: of the old ones. -/
theorem Fr.turnO (h:Fr W O N w) (i:Nat) (hi:O[i]?=some (b,t,cs)) (k:Fr w [(b,t',cs')] [] w'):Fr W (O.set i (b,t',cs')) N w':=by
 have hbw:=(h.old _ (List.mem_of_getElem? hi)).1
 have far:∀ c,c<w.heap.size→c ≠ b→w'.heap[c]?=w.heap[c]?:=fun c hc hcb=>k.far c hc (by simpa using hcb)
 have hmem:b ∈ O.map (·.1):=List.mem_map.2 ⟨_,List.mem_of_getElem? hi,rfl⟩
 refine ⟨k.os.trans h.os,k.tape.trans h.tape,k.output.trans h.output,Nat.le_trans h.size k.size,fun c hc hx=>?_,
  fun x hx=>?_,fun x hx=>⟨(h.new x hx).1,?_⟩,by rw [map_set_fst (x:=(b,t,cs)) hi];exact h.ndO,h.ndN⟩
 ·rw [map_set_fst (x:=(b,t,cs)) hi] at hx
  exact (far c (Nat.lt_of_lt_of_le hc h.size) (fun e=>hx (e ▸ hmem))).trans (h.far c hc hx)
 ·rcases mem_set_ne h.ndO hi hx with rfl | ⟨h1,h2⟩
  ·exact ⟨hbw,(k.old _ (List.mem_singleton.2 rfl)).2⟩
  ·exact ⟨(h.old x h1).1,(far x.1 (h.old x h1).2.lt h2).trans (h.old x h1).2⟩
 ·have h1:=(h.new x hx).1
  exact (far x.1 (h.new x hx).2.lt (by have:b<W.heap.size:=hbw;omega)).trans (h.new x hx).2
theorem Fr.ofOnly (hb:b<w.heap.size) (k:Only b w w') (hk:Bk w' b t' cs'):Fr w [(b,t',cs')] [] w' :=
 ⟨k.os,k.tape,k.output,by rw [k.size];exact Nat.le_refl _,fun c _ hx=>k.block c (by simpa using hx),fun x hx=>by obtain rfl:=List.mem_singleton.1 hx;exact ⟨hb,hk⟩,fun _ h=>(List.not_mem_nil h).elim,by simp,List.nodup_nil⟩
theorem Fr.only (h:Fr W O N w) (i:Nat) (hi:N[i]?=some (b,t,cs)) (k:Only b w w') (hk:Bk w' b t' cs'):Fr W O (N.set i (b,t',cs')) w' :=
 h.turn i hi (Fr.ofOnly (h.get i hi).lt k hk)
theorem Fr.onlyO (h:Fr W O N w) (i:Nat) (hi:O[i]?=some (b,t,cs)) (k:Only b w w') (hk:Bk w' b t' cs'):Fr W (O.set i (b,t',cs')) N w' :=
 h.turnO i hi (Fr.ofOnly (h.getO i hi).lt k hk)
theorem Fr.drop (h:Fr W O N w):Fr W O [] w:=⟨h.os,h.tape,h.output,h.size,h.far,h.old,fun _ h=>(List.not_mem_nil h).elim,h.ndO,List.nodup_nil⟩
theorem Fr.sub (h:Fr W O N w) (hX:X.Sublist N):Fr W O X w:=⟨h.os,h.tape,h.output,h.size,h.far,h.old,fun x hx=>h.new x (hX.subset hx),h.ndO,h.ndN.sublist (hX.map _)⟩
theorem Fr.left (h:Fr W O (N ++ X) w):Fr W O N w:=h.sub (List.sublist_append_left _ _)
theorem Fr.toBelow (h:Fr W [] N w):Below W.heap.size W w:=⟨h.os,h.tape,h.output,h.size,fun c hc=>h.far c hc (by simp)⟩
theorem Fr.belowAt {B:Nat} (h:Fr W O N w) (hO:∀ x ∈ O,B≤x.1) (hB:B≤W.heap.size):Below B W w :=
 ⟨h.os,h.tape,h.output,h.size,fun c hc=>h.far c (by omega) (fun hm=>by obtain ⟨x,hx,rfl⟩:=List.mem_map.1 hm;have:=hO x hx;omega)⟩
theorem Fr.ofBelow (h:Below W.heap.size W w):Fr W [] [] w:=(Fr.start W).below h
end

/-- The block of a pointer, of a slice. -/
def gOf:Value→Nat
 | .pointer (some p)=>p.block
 | .slice (some p) _ _=>p.block
 | _=>0
/-- An operation of a region that makes a block: its place, the block's type, its cells at each stage. -/
abbrev AEnt:=Nat × TypeId × (Nat→Array Value)
def aTab (A:List AEnt) (dn:Nat→Bool) (vs:Nat→Value) (k:Nat):List Ent:=(A.filter fun x=>dn x.1).map fun x=>(gOf (vs x.1),x.2.1,x.2.2 k)
def aAll (A:List AEnt) (vs:Nat→Value) (k:Nat):List Ent:=A.map fun x=>(gOf (vs x.1),x.2.1,x.2.2 k)
inductive Kind where
 | p
 | a (j:Nat)
 | c (s:Nat)
/-- Each operation is of its kind: it makes block j of A; it is stage s of the chain C, each of which waits for the one before; or neither. -/
def kindOk (l:List Oper) (C:List Nat) (A:List Nat):List Kind→Nat→Bool
 | [],i=>i == l.length
 | .p :: ks,i=>!C.contains i && !A.contains i && kindOk l C A ks (i+1)
 | .a j :: ks,i=>(A[j]? == some i) && !C.contains i && kindOk l C A ks (i+1)
 | .c s :: ks,i=>(C[s]? == some i) && !A.contains i && (s == 0 || (match C[s - 1]? with | some m=>afterI l i m | none=>false)) && kindOk l C A ks (i+1)
def chainOk (l:List Oper) (C:List Nat):Bool:=(List.range C.length).all fun s=>match C[s]? with | some i=>decide (i<l.length) && (List.range C.length).all fun s'=>s == s' || !(C[s']? == some i) | none=>false

section
variable (P:Program) (l:List Oper) (Q:Exit→Act→World→Prop) (a0:Act) (W:World) (O N:Nat→List Ent) (A:List AEnt) (C:List Nat) (R:Nat→Value→(Nat→Value)→Prop)
/-- What is known when operation i comes up, at stage k. -/
structure RS (i:Nat) (dn:Nat→Bool) (vs:Nat→Value) (k:Nat) (w:World):Prop where
 fr:Fr W (O k) (N k ++ aTab A dn vs k) w
 kle:k≤C.length
 hi:∀ p m,C[p]?=some m→(m == i || afterI l m i)=true→k≤p
 lo:∀ p m,C[p]?=some m→afterI l i m=true→p<k
 done:∀ j,afterI l i j=true→dn j=true
def StepF (i:Nat) (o:Oper) (pre:Nat→Prop) (post:(Nat→Bool)→(Nat→Value)→Nat→Value→World→World→Prop):Prop :=
 ∀ (a:Act) (w:World) (vs:Nat→Value) (dn:Nat→Bool) (k:Nat) (K:Act→World→Prop),RS l W O N A C i dn vs k w→pre k →
  (∀ t,keepB l i t=true→a.tmps[t]?.getD undef=a0.tmps[t]?.getD undef) →
  (∀ j oj d,l[j]?=some oj→oj.dst=some d→afterB o j=true→a.tmps[d]?.getD undef=vs j∧R j (vs j) (maskV oj vs)) →
  (∀ v w',(o.dst=none→v=undef)→post dn vs k v w w'→R i v (maskV o vs)→K (a.put o.dst v) w') →
  if Region.wanted o (yielded l.toArray a.tmps) then o.wp P a w K Q else K (a.put o.dst undef) w
def StepsF:List Kind→List Oper→Nat→Prop
 | .p :: ks,o :: r,i=>StepF P l Q a0 W O N A C R i o (fun _=>True) (fun _ _ _ _ w w'=>Below w.heap.size w w')∧StepsF ks r (i+1)
 | .a j :: ks,o :: r,i=>StepF P l Q a0 W O N A C R i o (fun _=>True) (fun dn vs k v _ w'=>match A[j]? with | some x=>Fr W (O k) ((N k ++ aTab A dn vs k) ++ [(gOf v,x.2.1,x.2.2 k)]) w' | none=>False)∧StepsF ks r (i+1)
 | .c s :: ks,o :: r,i=>StepF P l Q a0 W O N A C R i o (fun k=>k=s) (fun dn vs _ _ _ w'=>Fr W (O (s+1)) (N (s+1) ++ aTab A dn vs (s+1)) w')∧StepsF ks r (i+1)
 | [],[],_=>True
 | _,_,_=>False
end
theorem frE {W w u:World} {O N:List Ent} (e:w=u) (h:Fr W O N w):Fr W O N u:=e ▸ h
theorem bR {w:World}:Below w.heap.size w w:=Below.refl _ _
theorem Fr.perm {W w:World} {O N N':List Ent} (h:Fr W O N w) (hp:N.Perm N'):Fr W O N' w :=
 ⟨h.os,h.tape,h.output,h.size,h.far,h.old,fun x hx=>h.new x (hp.mem_iff.2 hx),h.ndO,(hp.map _).nodup_iff.1 h.ndN⟩
theorem aTab_same {A:List AEnt} {dn:Nat→Bool} {vs:Nat→Value} {k i:Nat} {v:Value} (hi:∀ x ∈ A,x.1 ≠ i):aTab A (updB dn i) (updV vs i v) k=aTab A dn vs k:=by
 unfold aTab
 have e1:(A.filter fun x=>updB dn i x.1)=A.filter fun x=>dn x.1:=List.filter_congr fun x hx=>by unfold updB;rw [if_neg (hi x hx)]
 rw [e1]
 refine List.map_congr_left fun x hx=>?_
 unfold updV;rw [if_neg (hi x (List.mem_filter.1 hx).1)]
theorem aTab_more {dn:Nat→Bool} {vs:Nat→Value} {k i:Nat} {v:Value} (hdn:dn i=false):∀ {A:List AEnt} {j:Nat} {x:AEnt},(A.map (·.1)).Nodup→A[j]?=some x→x.1=i →
  (aTab A dn vs k ++ [(gOf v,x.2.1,x.2.2 k)]).Perm (aTab A (updB dn i) (updV vs i v) k)
 | [],j,x,_,h,_=>by simp at h
 | y :: A,0,x,hn,h,hx=>by
  simp at h
  subst h
  rw [List.map_cons,List.nodup_cons] at hn
  have hne:∀ z ∈ A,z.1 ≠ i:=fun z hz e=>hn.1 (List.mem_map.2 ⟨z,hz,e.trans hx.symm⟩)
  have e1:aTab (y :: A) dn vs k=aTab A dn vs k:=by unfold aTab;rw [List.filter_cons_of_neg (by rw [hx];simp [hdn])]
  have e2:aTab (y :: A) (updB dn i) (updV vs i v) k=(gOf v,y.2.1,y.2.2 k) :: aTab A dn vs k:=by
   rw [← aTab_same (dn:=dn) (vs:=vs) (v:=v) (k:=k) hne]
   unfold aTab
   rw [List.filter_cons_of_pos (by unfold updB;rw [hx];simp),List.map_cons]
   congr 1
   unfold updV;rw [if_pos hx]
  rw [e1,e2]
  exact List.perm_append_comm
 | y :: A,j+1,x,hn,h,hx=>by
  rw [List.map_cons,List.nodup_cons] at hn
  have hxm:x ∈ A:=List.mem_of_getElem? (by simpa using h)
  have hyi:y.1 ≠ i:=fun e=>hn.1 (List.mem_map.2 ⟨x,hxm,hx.trans e.symm⟩)
  have ih:=aTab_more (k:=k) (v:=v) (vs:=vs) hdn hn.2 (by simpa using h) hx
  unfold aTab at ih ⊢
  by_cases hd:dn y.1=true
  ·rw [List.filter_cons_of_pos (by simpa using hd),List.filter_cons_of_pos (by unfold updB;rw [if_neg hyi];simpa using hd),List.map_cons,List.map_cons,List.cons_append]
   rw [show updV vs i v y.1=vs y.1 from by unfold updV;rw [if_neg hyi]]
   exact ih.cons _
  ·rw [List.filter_cons_of_neg (by simpa using hd),List.filter_cons_of_neg (by unfold updB;rw [if_neg hyi];simpa using hd)]
   exact ih
section
variable {P:Program} {l:List Oper} {Q:Exit→Act→World→Prop} {a0:Act} {W:World} {O N:Nat→List Ent} {A:List AEnt} {C:List Nat} {R:Nat→Value→(Nat→Value)→Prop}
theorem StepsOkJ.of {J:(Nat→Bool)→(Nat→Value)→World→Prop} {E:Nat→World→World→Prop} {R:Nat→Value→(Nat→Value)→World→Prop}:∀ (r:List Oper) (k:Nat),(∀ i o,r[i]?=some o→StepOkJ P l Q a0 J E R (k+i) o)→StepsOkJ P l Q a0 J E R r k
 | [],_,_=>trivial
 | o :: r,k,h=>⟨h 0 o rfl,StepsOkJ.of r (k+1) fun i x hx=>by have:=h (i+1) x (by simpa using hx);rwa [show k+(i+1)=k+1+i from by omega] at this⟩
theorem afterI_anc {m i:Nat} (_:m<l.length) (hi:i<l.length) (h:afterI l m i=true):ancB l l.length m i=true:=by
 obtain ⟨n,hn⟩:∃ n,l.length=n+1:=⟨l.length - 1,by omega⟩
 rw [hn,ancB,List.any_eq_true]
 exact ⟨i,List.mem_range.2 hi,by simp [h]⟩
theorem afterI_lt {m i:Nat} (h:afterI l m i=true):m<l.length:=by
 unfold afterI at h
 cases e:l[m]? with
 | none=>rw [e] at h;cases h
 | some o=>exact (List.getElem?_eq_some_iff.1 e).1
theorem rs_of {i:Nat} {o:Oper} (hio:l[i]?=some o) {dn:Nat→Bool} {vs:Nat→Value} {k:Nat} {w:World} (hb:∀ m,dn m=true→i ≠ m∧ancB l l.length m i=false) (hb2:∀ j,afterB o j=true→dn j=true)
  (hk:k≤C.length) (hc:∀ p m,C[p]?=some m→dn m=decide (p<k)) (hf:Fr W (O k) (N k ++ aTab A dn vs k) w):RS l W O N A C i dn vs k w:=by
 have hil:=(List.getElem?_eq_some_iff.1 hio).1
 have hai:∀ j,afterI l i j=true→afterB o j=true:=fun j hj=>by unfold afterI at hj;rw [hio] at hj;exact hj
 refine ⟨hf,hk,fun p m hm h=>?_,fun p m hm h=>?_,fun j hj=>hb2 j (hai j hj)⟩
 ·rcases Nat.lt_or_ge p k with g | g
  ·exfalso
   have hd:dn m=true:=by rw [hc p m hm];simpa using g
   obtain ⟨h1,h2⟩:=hb m hd
   rw [Bool.or_eq_true] at h
   rcases h with h | h
   ·exact h1 (by simpa using h:m=i).symm
   ·rw [afterI_anc (afterI_lt h) hil h] at h2;cases h2
  ·exact g
 ·have:=hb2 m (hai m h)
  rw [hc p m hm] at this
  simpa using this
theorem aTab_all {dn:Nat→Bool} {vs:Nat→Value} {k:Nat} (h:∀ x ∈ A,dn x.1=true):aTab A dn vs k=aAll A vs k:=by
 unfold aTab aAll
 rw [List.filter_eq_self.2 h]
theorem StepsF.ok (hch:chainOk l C=true) (hAn:(A.map (·.1)).Nodup):∀ (ks:List Kind) (r:List Oper) (i:Nat),(∀ j o,r[j]?=some o→l[i+j]?=some o)→kindOk l C (A.map (·.1)) ks i=true→StepsF P l Q a0 W O N A C R ks r i →
  ∀ j o,r[j]?=some o→StepOkJ P l Q a0 (fun dn vs w=>∃ k,k≤C.length∧(∀ p m,C[p]?=some m→dn m=decide (p<k))∧Fr W (O k) (N k ++ aTab A dn vs k) w) (fun _ _ _=>True) (fun i v d _=>R i v d) (i+j) o
 | ks,[],i,_,_,_,j,o,ho=>by simp at ho
 | [],o :: r,i,_,_,hs,_,_,_=>by simp [StepsF] at hs
 | kd :: ks,o :: r,i,hl,hk,hs,j+1,x,hx=>by
  rw [show i+(j+1)=i+1+j from by omega]
  have hl':∀ j o,r[j]?=some o→l[i+1+j]?=some o:=fun j o' h=>by have:=hl (j+1) o' (by simpa using h);rwa [show i+(j+1)=i+1+j from by omega] at this
  cases kd with
  | p=>unfold kindOk at hk;unfold StepsF at hs;rw [Bool.and_eq_true] at hk;exact StepsF.ok hch hAn ks r (i+1) hl' hk.2 hs.2 j x (by simpa using hx)
  | a q=>unfold kindOk at hk;unfold StepsF at hs;rw [Bool.and_eq_true] at hk;exact StepsF.ok hch hAn ks r (i+1) hl' hk.2 hs.2 j x (by simpa using hx)
  | c q=>unfold kindOk at hk;unfold StepsF at hs;rw [Bool.and_eq_true] at hk;exact StepsF.ok hch hAn ks r (i+1) hl' hk.2 hs.2 j x (by simpa using hx)
 | kd :: ks,o :: r,i,hl,hk,hs,0,x,hx=>by
  simp at hx
  subst hx
  have hio:l[i]?=some o:=hl 0 o rfl
  rw [Nat.add_zero]
  intro a w vs K dn hb hb2 hJ hkp hd _ hK
  obtain ⟨k,hkl,hc,hf⟩:=hJ
  have hrs:=rs_of hio hb hb2 hkl hc hf
  have hdi:dn i=false:=by
   cases e:dn i with
   | false=>rfl
   | true=>exact absurd rfl (hb i e).1
  cases kd with
  | p =>
   unfold kindOk at hk;unfold StepsF at hs
   simp only [Bool.and_eq_true,Bool.not_eq_true',List.contains_eq_mem,decide_eq_false_iff_not] at hk
   refine hs.1 a w vs dn k K hrs trivial hkp hd fun v w' h1 h2 h3=>hK v w' h1 ⟨k,hkl,fun p m hm=>?_,?_⟩ trivial h3
   ·unfold updB
    rw [if_neg (fun e:m=i=>hk.1.1 (by rw [← e];exact List.mem_of_getElem? hm)),hc p m hm]
   ·rw [aTab_same (fun x hx e=>hk.1.2 (List.mem_map.2 ⟨x,hx,e⟩))]
    exact hf.below h2
  | a q =>
   unfold kindOk at hk;unfold StepsF at hs
   simp only [Bool.and_eq_true,Bool.not_eq_true',List.contains_eq_mem,decide_eq_false_iff_not,beq_iff_eq] at hk
   refine hs.1 a w vs dn k K hrs trivial hkp hd fun v w' h1 h2 h3=>hK v w' h1 ⟨k,hkl,fun p m hm=>?_,?_⟩ trivial h3
   ·unfold updB
    rw [if_neg (fun e:m=i=>hk.1.2 (by rw [← e];exact List.mem_of_getElem? hm)),hc p m hm]
   ·rw [List.getElem?_map,Option.map_eq_some_iff] at hk
    obtain ⟨y,hy,hyi⟩:=hk.1.1
    rw [hy] at h2
    refine h2.perm ?_
    rw [List.append_assoc]
    exact (aTab_more hdi hAn hy hyi).append_left _
  | c s =>
   unfold kindOk at hk;unfold StepsF at hs
   simp only [Bool.and_eq_true,Bool.not_eq_true',List.contains_eq_mem,decide_eq_false_iff_not,beq_iff_eq,Bool.or_eq_true] at hk
   obtain ⟨⟨⟨hcs,hna⟩,hprev⟩,_⟩:=hk
   have hks:k=s:=by
    have h1:=hrs.hi s i hcs (by simp)
    rcases hprev with h | h
    ·omega
    ·cases e:C[s - 1]? with
     | none=>rw [e] at h;cases h
     | some m=>rw [e] at h;have:=hrs.lo (s - 1) m e h;omega
   subst hks
   refine hs.1 a w vs dn k K hrs rfl hkp hd fun v w' h1 h2 h3=>hK v w' h1 ⟨k+1,(List.getElem?_eq_some_iff.1 hcs).1,fun p m hm=>?_,?_⟩ trivial h3
   ·unfold updB
    by_cases hmi:m=i
    ·rw [if_pos hmi]
     have:p=k:=by
      unfold chainOk at hch
      rw [List.all_eq_true] at hch
      have hpl:=(List.getElem?_eq_some_iff.1 hm).1
      have h4:=hch k (List.mem_range.2 (List.getElem?_eq_some_iff.1 hcs).1)
      rw [hcs] at h4
      simp only [Bool.and_eq_true,List.all_eq_true] at h4
      have h5:=h4.2 p (List.mem_range.2 hpl)
      rw [hm,hmi] at h5
      simp at h5
      exact h5.symm
     subst this;simp
    ·rw [if_neg hmi,hc p m hm]
     have:p ≠ k:=fun e=>hmi (by subst e;rw [hcs] at hm;exact (Option.some.inj hm).symm)
     by_cases g:p<k
     ·rw [decide_eq_true g,decide_eq_true (by omega)]
     ·rw [decide_eq_false g,decide_eq_false (by omega)]
   ·rw [aTab_same (fun x hx e=>hna (List.mem_map.2 ⟨x,hx,e⟩))]
    exact h2
/-- **A REGION WHOSE ORDER IS DRAWN, with a table of blocks at each stage of a chain of operations that turn memory.** -/
theorem any_fr {w0:World} (ks:List Kind) (C:List Nat) (A:List AEnt) (W:World) (O N:Nat→List Ent) (R:Nat→Value→(Nat→Value)→Prop) (hB:regB l a0.tmps.size=true) (hch:chainOk l C=true) (AL:List Nat) (hAL:A.map (·.1)=AL) (hAn:AL.Nodup) (hAr:(AL.all fun i=>decide (i<l.length))=true)
  (hk:kindOk l C AL ks 0=true) (h0:Fr W (O 0) (N 0) w0) (hs:StepsF P l Q a0 W O N A C R ks l 0)
  (hend:∀ (vs:Nat→Value) (w:World),Fr W (O C.length) (N C.length ++ aAll A vs C.length) w→(∀ i o,l[i]?=some o→R i (vs i) (maskV o vs))→Q .normal (putAll l vs 0 a0) w) :
  anyW P l.toArray Q l.toArray.size (Array.replicate l.toArray.size false) a0 w0.drew:=by
 subst hAL
 refine any_stepsJ hB (fun dn vs w=>∃ k,k≤C.length∧(∀ p m,C[p]?=some m→dn m=decide (p<k))∧Fr W (O k) (N k ++ aTab A dn vs k) w) (fun _ _ _=>True) (fun i v d _=>R i v d) ?_ (fun _ _ _ _ _ _ _ _ h _=>h)
  (StepsOkJ.of l 0 fun i o hi=>?_) ?_
 ·intro vs
  refine ⟨0,Nat.zero_le _,fun p m _=>by simp,?_⟩
  have e:aTab A (fun _=>false) vs 0=[]:=by unfold aTab;rw [List.filter_eq_nil_iff.2 (fun _ _=>by simp)];rfl
  rw [e,List.append_nil];exact h0.drew
 ·exact StepsF.ok hch hAn ks l 0 (fun j o h=>by rw [Nat.zero_add];exact h) hk hs i o hi
 ·intro vs dn w hall ⟨k,hkl,hc,hf⟩ hr
  have hkC:k=C.length:=by
   rcases Nat.lt_or_ge k C.length with g | g
   ·exfalso
    have hm:=List.getElem?_eq_getElem g
    have h1:=hc k _ hm
    unfold chainOk at hch
    rw [List.all_eq_true] at hch
    have h4:=hch k (List.mem_range.2 g)
    rw [hm] at h4
    simp only [Bool.and_eq_true,decide_eq_true_eq] at h4
    rw [hall _ h4.1] at h1
    simp at h1
   ·omega
  subst hkC
  have e:aTab A dn vs C.length=aAll A vs C.length:=by
   refine aTab_all fun x hx=>hall _ ?_
   rw [List.all_eq_true] at hAr
   have:=hAr x.1 (List.mem_map.2 ⟨x,hx,rfl⟩)
   simpa using this
  rw [e] at hf
  exact hend vs w hf hr
theorem wp_region_fr {id:Nat} {w0:World} (ks:List Kind) (C:List Nat) (A:List AEnt) (W:World) (O N:Nat→List Ent) (R:Nat→Value→(Nat→Value)→Prop) (hm:P.follows .mixedOrders=true) (hB:regB l a0.tmps.size=true) (hch:chainOk l C=true) (AL:List Nat) (hAL:A.map (·.1)=AL) (hAn:AL.Nodup) (hAr:(AL.all fun i=>decide (i<l.length))=true)
  (hk:kindOk l C AL ks 0=true) (h0:Fr W (O 0) (N 0) w0) (hs:StepsF P l Q a0 W O N A C R ks l 0)
  (hend:∀ (vs:Nat→Value) (w:World),Fr W (O C.length) (N C.length ++ aAll A vs C.length) w→(∀ i o,l[i]?=some o→R i (vs i) (maskV o vs))→Q .normal (putAll l vs 0 a0) w) :
  (Code.region id l.toArray true).wp P Q a0 w0 :=
 wp_region_any hm (any_fr ks C A W O N R hB hch AL hAL hAn hAr hk h0 hs hend).any
theorem RS.at {i:Nat} {dn:Nat→Bool} {vs:Nat→Value} {k:Nat} {w:World} (h:RS l W O N A C i dn vs k w) (j:Nat) {x:AEnt} (hj:A[j]?=some x) (hd:dn x.1=true):Bk w (gOf (vs x.1)) x.2.1 (x.2.2 k):=by
 refine (h.fr.new (gOf (vs x.1),x.2.1,x.2.2 k) (List.mem_append_right _ ?_)).2
 unfold aTab
 exact List.mem_map.2 ⟨x,List.mem_filter.2 ⟨List.mem_of_getElem? hj,hd⟩,rfl⟩
end
def AllSt:List AEnt→Nat→Prop
 | [],_=>True
 | x :: A,s=>x.2.2 (s+1)=x.2.2 s∧AllSt A s
def AllDn:List AEnt→(Nat→Bool)→Prop
 | [],_=>True
 | x :: A,dn=>dn x.1=true∧AllDn A dn
theorem AllSt.mem:∀ {A:List AEnt} {s:Nat},AllSt A s→∀ x ∈ A,x.2.2 (s+1)=x.2.2 s
 | [],_,_,x,hx=>(List.not_mem_nil hx).elim
 | y :: A,s,h,x,hx=>by
  rcases List.mem_cons.1 hx with rfl | hx
  ·exact h.1
  ·exact AllSt.mem h.2 x hx
theorem AllDn.mem:∀ {A:List AEnt} {dn:Nat→Bool},AllDn A dn→∀ x ∈ A,dn x.1=true
 | [],_,_,x,hx=>(List.not_mem_nil hx).elim
 | y :: A,s,h,x,hx=>by
  rcases List.mem_cons.1 hx with rfl | hx
  ·exact h.1
  ·exact AllDn.mem h.2 x hx
theorem aTab_stage {A:List AEnt} {dn:Nat→Bool} {vs:Nat→Value} {s:Nat} (h:AllSt A s):aTab A dn vs (s+1)=aTab A dn vs s:=by
 unfold aTab
 exact List.map_congr_left fun x hx=>by rw [h.mem x (List.mem_filter.1 hx).1]
theorem aTab_done {A:List AEnt} {dn:Nat→Bool} {vs:Nat→Value} {k:Nat} (h:AllDn A dn):aTab A dn vs k=aAll A vs k:=aTab_all h.mem
theorem Fr.stage {W w:World} {O N:List Ent} {A:List AEnt} {dn:Nat→Bool} {vs:Nat→Value} {s:Nat} (h:Fr W O (N ++ aTab A dn vs s) w) (hA:AllSt A s):Fr W O (N ++ aTab A dn vs (s+1)) w:=by rw [aTab_stage hA];exact h
theorem Fr.done {W w:World} {O N:List Ent} {A:List AEnt} {dn:Nat→Bool} {vs:Nat→Value} {s:Nat} (h:Fr W O (N ++ aTab A dn vs s) w) (hA:AllDn A dn):Fr W O (N ++ aAll A vs s) w:=by rw [← aTab_done hA];exact h
theorem Fr.undone {W w:World} {O N:List Ent} {A:List AEnt} {dn:Nat→Bool} {vs:Nat→Value} {s:Nat} (h:Fr W O (N ++ aAll A vs s) w) (hA:AllDn A dn):Fr W O (N ++ aTab A dn vs s) w:=by rw [aTab_done hA];exact h

theorem one_all {L:List Value} (h:(L.all fun u=>u.oneCell')=true):∀ u ∈ L,u.oneCell'=true:=by rw [List.all_eq_true] at h;exact h
section
variable {P:Program}
theorem seg_at {w:World} {g:Nat} {t:TypeId} {cs:Array Value} (h:Bk w g t cs) (off:Nat) {S:Array Value} (hs:(cs.toList.drop off).take S.size=S.toList):∀ j u,S[j]?=some u→w.cell? ⟨g,off+j,none⟩=some u:=by
 intro j u hj;have hjl:j<S.size:=by
  rcases Nat.lt_or_ge j S.size with h | h
  ·exact h
  ·rw [Array.getElem?_eq_none h] at hj;cases hj
 rw [h.cell,← Array.getElem?_toList];rw [← Array.getElem?_toList,← hs,List.getElem?_take,if_pos hjl,List.getElem?_drop] at hj;exact hj
theorem wpLoadF {ops:Array Oper} {rest:List Oper} {o:Oper} {a:Act} {w:World} {Q:Exit→Act→World→Prop} (hgd:o.guard=none) (ty:TypeId) (x:Operand) (ho:o.op=.load ty x)
  (g off:Nat) (hx:a.eval x=.pointer (some ⟨g,off,none⟩)) (t:TypeId) (cs:Array Value) (hk:Bk w g t cs) (S:Array Value) (hs:(cs.toList.drop off).take S.size=S.toList) (d:TypeDesc)
  (hu:P.underlying ty=some d) (hd:(match d with | .struct _ | .array _ _=>true | _=>false)=true) (hi:(P.info? ty).map (·.size)=some S.size)
  (h:wpList P ops Q rest (a.put o.dst (.agg S)) w):wpList P ops Q (o :: rest) a w :=
 wpLoadAt hgd ty x ho g off hx S d (seg_at hk off hs) hu hd hi h
theorem wpo_loadF {o:Oper} {a:Act} {w:World} {K:Act→World→Prop} {Q:Exit→Act→World→Prop} (ty:TypeId) (x:Operand) (ho:o.op=.load ty x)
  (g off:Nat) (hx:a.eval x=.pointer (some ⟨g,off,none⟩)) (t:TypeId) (cs:Array Value) (hk:Bk w g t cs) (S:Array Value) (hs:(cs.toList.drop off).take S.size=S.toList) (d:TypeDesc)
  (hu:P.underlying ty=some d) (hd:(match d with | .struct _ | .array _ _=>true | _=>false)=true) (hi:(P.info? ty).map (·.size)=some S.size)
  (h:K (a.put o.dst (.agg S)) w):o.wp P a w K Q :=
 wpo_loadS ty x ho g off hx S d (seg_at hk off hs) hu hd hi h
theorem wpLoadFG {ops:Array Oper} {rest:List Oper} {o:Oper} {a:Act} {w:World} {Q:Exit→Act→World→Prop} (hgd:Region.wanted o (yielded ops a.tmps)=true) (ty:TypeId) (x:Operand) (ho:o.op=.load ty x)
  (g off:Nat) (hx:a.eval x=.pointer (some ⟨g,off,none⟩)) (t:TypeId) (cs:Array Value) (hk:Bk w g t cs) (S:Array Value) (hs:(cs.toList.drop off).take S.size=S.toList) (d:TypeDesc)
  (hu:P.underlying ty=some d) (hd:(match d with | .struct _ | .array _ _=>true | _=>false)=true) (hi:(P.info? ty).map (·.size)=some S.size)
  (h:wpList P ops Q rest (a.put o.dst (.agg S)) w):wpList P ops Q (o :: rest) a w:=by
 rw [wpList,if_pos hgd];exact .inl (wpo_loadF ty x ho g off hx t cs hk S hs d hu hd hi h)
theorem run_storeVar_cell (w:World) (g off:Nat) (t ty:TypeId) (cs:Array Value) (u:Value) (h:Bk w g t cs) (hl:off<cs.size) (h1:u.oneCell'=true) (hi:(P.info? ty).map (·.size)=some 1) :
  ∃ w',(storeVar ty ⟨g,off,none⟩ u).run P w=.ok () w'∧Bk w' g t (cs.setIfInBounds off u)∧Only g w w':=by
 obtain ⟨w',r1,r2,r3⟩:=run_storeCells_row (P:=P) t g [u] w cs off 0 h (by show off+0+1≤cs.size;omega) (by simpa using h1)
 refine ⟨w',?_,by simpa [splA] using r2,r3⟩
 have hc:u.cells=#[u]:=by cases u <;> simp_all [Value.cells,Value.oneCell']
 cases hq:P.info? ty with
 | none=>simp [hq] at hi
 | some i =>
  have hs:i.size=1:=by simpa [hq] using hi
  simp [storeVar,Sem.run_bind,hc,sizeOf,typeInfo,hq,hs,r1]
theorem wpStoreCell {ops:Array Oper} {rest:List Oper} {o:Oper} {a:Act} {w:World} {Q:Exit→Act→World→Prop} (hgd:o.guard=none) (hdst:o.dst=none) (ty:TypeId) (x y:Operand) (ho:o.op=.store ty x y)
  (g off:Nat) (hx:a.eval x=.pointer (some ⟨g,off,none⟩)) (u:Value) (hy:a.eval y=u) (t:TypeId) (cs:Array Value) (hb:Bk w g t cs)
  (hl:off<cs.size) (h1:u.oneCell'=true) (hi:(P.info? ty).map (·.size)=some 1)
  (h:∀ w',Bk w' g t (cs.setIfInBounds off u)→Only g w w'→wpList P ops Q rest a w'):wpList P ops Q (o :: rest) a w :=
 wpList_plain hgd fun _ hK=>by
  obtain ⟨w',r1,r2,r3⟩:=run_storeVar_cell (P:=P) w g off t ty cs u hb hl h1 hi;unfold Oper.wp execOp;simp only [ho,hx,hy,Instr.storeAt,Instr.sureAddr,Sem.run_bind,Sem.run_pure,Result.andThen_ok,r1];have:=hK _ _ (h w' r2 r3)
  simpa [Oper.upon,hdst,Act.put] using this
theorem wpo_storeCell {o:Oper} {a:Act} {w:World} {K:Act→World→Prop} {Q:Exit→Act→World→Prop} (ty:TypeId) (x y:Operand) (ho:o.op=.store ty x y) (hdst:o.dst=none)
  (g off:Nat) (hx:a.eval x=.pointer (some ⟨g,off,none⟩)) (u:Value) (hy:a.eval y=u) (t:TypeId) (cs:Array Value) (hb:Bk w g t cs)
  (hl:off<cs.size) (h1:u.oneCell'=true) (hi:(P.info? ty).map (·.size)=some 1)
  (h:∀ w',Bk w' g t (cs.setIfInBounds off u)→Only g w w'→K (a.put o.dst undef) w'):o.wp P a w K Q:=by
 obtain ⟨w',r1,r2,r3⟩:=run_storeVar_cell (P:=P) w g off t ty cs u hb hl h1 hi;unfold Oper.wp execOp;simp only [ho,hx,hy,Instr.storeAt,Instr.sureAddr,Sem.run_bind,Sem.run_pure,Result.andThen_ok,r1];have:=h w' r2 r3
 simpa [Oper.upon,hdst,Act.put] using this
theorem lit_get (L S:List Value) (off i:Nat) (h:off+S.length≤L.length):(L.take off ++ S ++ L.drop (off+S.length))[i]?=if off≤i∧i<off+S.length then S[i - off]? else L[i]?:=by
 have hlen:(L.take off).length=off:=by rw [List.length_take];omega
 by_cases h1:i<off
 ·rw [if_neg (by omega),List.append_assoc,List.getElem?_append_left (by omega),List.getElem?_take,if_pos h1]
 ·by_cases h2:i<off+S.length
  ·rw [if_pos (by omega),List.append_assoc,List.getElem?_append_right (by omega),hlen,List.getElem?_append_left (by omega)]
  ·rw [if_neg (by omega),List.getElem?_append_right (by simp [hlen];omega),List.length_append,hlen,List.getElem?_drop,show off+S.length+(i - (off+S.length))=i by omega]
theorem splA_lit (cs:Array Value) (off:Nat) (S:List Value) (h:off+S.length≤cs.size):splA cs off S=(cs.toList.take off ++ S ++ cs.toList.drop (off+S.length)).toArray:=by
 apply Array.ext_getElem?
 intro i;rw [splA_get S cs off i h];have h2:=lit_get cs.toList S off i (by simpa using h)
 rw [Array.getElem?_toList (xs:=cs)] at h2;rw [← h2];exact (List.getElem?_toArray ..).symm
theorem Bk.spl {w:World} {g:Nat} {t:TypeId} {cs S R:Array Value} {off:Nat} (h:Bk w g t (splA cs off S.toList)) (hl:off+S.size≤cs.size) (hR:cs.toList.take off ++ S.toList ++ cs.toList.drop (off+S.size)=R.toList):Bk w g t R:=by
 rw [splA_lit cs off S.toList (by simpa using hl),Array.length_toList,hR,Array.toArray_toList] at h
 exact h
theorem wpStoreF {ops:Array Oper} {rest:List Oper} {o:Oper} {a:Act} {w:World} {Q:Exit→Act→World→Prop} (hgd:o.guard=none) (hdst:o.dst=none) (ty:TypeId) (x y:Operand) (ho:o.op=.store ty x y)
  (g off:Nat) (hx:a.eval x=.pointer (some ⟨g,off,none⟩)) (S:Array Value) (hy:a.eval y=.agg S) (t:TypeId) (cs R:Array Value) (hb:Bk w g t cs) (hR:cs.toList.take off ++ S.toList ++ cs.toList.drop (off+S.size)=R.toList)
  (hl:off+S.size≤cs.size) (h1:∀ u ∈ S.toList,u.oneCell'=true) (hi:(P.info? ty).map (·.size)=some S.size)
  (h:∀ w',Bk w' g t R→Only g w w'→wpList P ops Q rest a w'):wpList P ops Q (o :: rest) a w :=
 wpStoreAt hgd hdst ty x y ho g off hx S hy t cs hb hl h1 hi fun w' hk ho=>h w' (hk.spl hl hR) ho
theorem wpo_storeF {o:Oper} {a:Act} {w:World} {K:Act→World→Prop} {Q:Exit→Act→World→Prop} (ty:TypeId) (x y:Operand) (ho:o.op=.store ty x y) (hdst:o.dst=none)
  (g off:Nat) (hx:a.eval x=.pointer (some ⟨g,off,none⟩)) (S:Array Value) (hy:a.eval y=.agg S) (t:TypeId) (cs R:Array Value) (hb:Bk w g t cs) (hR:cs.toList.take off ++ S.toList ++ cs.toList.drop (off+S.size)=R.toList)
  (hl:off+S.size≤cs.size) (h1:∀ u ∈ S.toList,u.oneCell'=true) (hi:(P.info? ty).map (·.size)=some S.size)
  (h:∀ w',Bk w' g t R→Only g w w'→K (a.put o.dst undef) w'):o.wp P a w K Q :=
 wpo_storeS ty x y ho hdst g off hx S hy t cs hb hl h1 hi fun w' hk ho=>h w' (hk.spl hl hR) ho
theorem wpCallV {ops:Array Oper} {rest:List Oper} {o:Oper} {a:Act} {w:World} {Q:Exit→Act→World→Prop} (hgd:o.guard=none) (f:Nat) (x:Operand) (xs:Array Operand) (ts:Array TypeId) (ho:o.op=.call { callee:=.value x,args:=xs,argTypes:=ts })
  (hv:a.eval x=.func (.func f) #[] #[]) (vs:Array Value) (hx:xs.map a.eval=vs) (eg:∀ args w,(callFunc f args).run P w=.ok (.enter f args) w)
  (h:Calls P f vs w fun e w'=>∃ v,e=.returned v∧wpList P ops Q rest (a.put o.dst v) w'):wpList P ops Q (o :: rest) a w :=
 wpList_plain hgd fun _ hK=>wpo_callV f x xs ts ho hv vs hx eg (h.mono fun _ _ ⟨v,he,hk⟩=>⟨v,he,hK _ _ hk⟩)
theorem ret_agg {fn:Func} {p:Tmp} {ty:TypeId} (h:fn.results=#[.cell p ty]) {a:Act} (ha:a.defers=[]) {w:World} {g:Nat} {t:TypeId} {cs:Array Value} {d:TypeDesc} {Q:Ending→World→Prop}
  (hp:a.tmps.getD p undef=.pointer (some ⟨g,0,none⟩)) (hk:Bk w g t cs) (hu:P.underlying ty=some d) (hd:(match d with | .struct _ | .array _ _=>true | _=>false)=true) (hi:(P.info? ty).map (·.size)=some cs.size)
  (hQ:Q (.returned (.agg cs)) w):bodyPost P fn Q .ret a w :=
 bodyPost_ret (v:=.agg cs) (results_cellS h _ _ g t cs d hp hk hu hd hi) ha hQ
theorem ret_agg2 {fn:Func} {p u:Tmp} {ty:TypeId} (h:fn.results=#[.cell p ty,.tmp u]) {a:Act} (ha:a.defers=[]) {w:World} {g:Nat} {t:TypeId} {cs:Array Value} {d:TypeDesc} {v:Value} {Q:Ending→World→Prop}
  (hp:a.tmps.getD p undef=.pointer (some ⟨g,0,none⟩)) (hk:Bk w g t cs) (hv:a.tmps.getD u undef=v) (hu:P.underlying ty=some d) (hd:(match d with | .struct _ | .array _ _=>true | _=>false)=true) (hi:(P.info? ty).map (·.size)=some cs.size)
  (hQ:Q (.returned (.tuple #[.agg cs,v])) w):bodyPost P fn Q .ret a w :=
 bodyPost_ret (v:=.tuple #[.agg cs,v]) (by subst hv;exact results_cellS_tmp h _ _ g t cs d hp hk hu hd hi) ha hQ
end
/-! What an operation yields is of 64 bits. -/
theorem wd_zero:WdS zeroS:=by unfold WdS zeroS;decide
theorem wd_fit (lo hi:Int):WdS (fitB lo hi).1:=by
 unfold fitB;split
 ·rename_i h
  rw [Bool.and_eq_true] at h;have h1:=big_iff.1 h.1;have h2:=big_iff.1 h.2;unfold WdS;dsimp only;omega
 ·exact wd_zero
theorem wd_add (a b:SpanD):WdS (addB a b).1:=by unfold addB;split;exact wd_fit _ _;exact wd_zero
theorem wd_sub (a b:SpanD):WdS (subB a b).1:=by unfold subB;split;exact wd_add _ _;exact wd_zero
theorem wd_mul (a b:SpanD):WdS (mulB a b).1:=by unfold mulB;split;exact wd_fit _ _;exact wd_zero
theorem wd_scale (a:SpanD) (n:Int):WdS (scaleB a n).1:=by unfold scaleB;split;exact wd_fit _ _;exact wd_zero
theorem wd_div (a b:SpanD):WdS (divB a b).1:=by
 unfold divB;split
 ·split
  ·exact wd_zero
  ·exact wd_fit _ _
 ·exact wd_zero
theorem wd_square (a:SpanD):WdS (squareB a).1:=by unfold squareB;split;exact wd_mul _ _;exact wd_zero
theorem wd_pt {n:Int} (h:I64 n):WdS (ptS n):=⟨h,h⟩
theorem wd_hull {a b:SpanD} (ha:WdS a) (hb:WdS b):WdS (hullB a b).1:=by
 unfold hullB;split
 ·unfold WdS hullS at *;dsimp only;omega
 ·exact wd_zero

theorem pQ {P:Program} {f:Nat} {xs:Array Value} {w:World} {R:Ending→World→Prop} (h:∀ Q,R=Q→Calls P f xs w Q):Calls P f xs w R:=h R rfl
theorem eT {a:Act} {t:Nat} {v:Value} (h:a.tmps[t]?.getD undef=v):a.eval (.tmp t)=v:=by simpa [Act.eval] using h
section
variable {W w u:World} {O N O' N':List Ent}
theorem fN (h:Fr W O N w) (hO:O=O':=by (try simp only [List.nil_append,List.cons_append,List.set_cons_succ,List.set_cons_zero]);exact rfl) (hN:N=N':=by (try simp only [List.nil_append,List.cons_append,List.set_cons_succ,List.set_cons_zero]);exact rfl):Hid (Fr W O' N' w):=by subst hO hN;exact Lib.hid h
theorem fE (e:w=u) (h:Fr W O N w) (hN:N=N':=by (try simp only [List.nil_append,List.cons_append,List.set_cons_succ,List.set_cons_zero]);exact rfl):Hid (Fr W O N' u):=by subst hN e;exact Lib.hid h
theorem fA {M:Nat→List Ent} (h:Fr W O N w) (cs:Array Value) (t:TypeId) (hN:∀ g,N ++ [(g,t,cs)]=M g:=by intro g;(try simp only [List.nil_append,List.cons_append]);exact rfl):∃ g u,w.heap.size=g∧w.alloc (.cells cs t)=u∧Hid (Fr W O (M g) u):=⟨_,_,rfl,rfl,Lib.hid (hN _ ▸ h.alloc rfl t cs)⟩
end
theorem cA {w:World} {g t:Nat} {cs:Array Value} {v:Value} (h:Bk w g t cs) (i:Nat) (hv:cs[i]?=some v:=by (try simp only [iC,List.map_cons,List.map_nil]);exact rfl):w.cell? ⟨g,i,none⟩=some v:=(h.cell i).trans hv
theorem mB {P:Program} {f:Nat} {xs:Array Value} {W w:World} {O N:List Ent} {G:Ending→World→Prop} {v:Value} (hf:Fr W O N w) (hc:Calls P f xs w fun e w'=>e=.returned v∧Below w.heap.size w w') (h:∀ w',Hid (Fr W O N w')→G (.returned v) w'):Calls P f xs w G :=
 hc.mono fun e w' ⟨he,hb⟩=>by subst he;exact h w' (Lib.hid (hf.below hb))
theorem gN {W w:World} {O N:List Ent} {b t:Nat} {cs:Array Value} (h:Hid (Fr W O N w)) (i:Nat) (hi:N[i]?=some (b,t,cs):=by exact rfl):Bk w b t cs:=h.out.get i hi
def alN:World→List (Array Value × TypeId)→World
 | w,[]=>w
 | w,x :: L=>alN (w.alloc (.cells x.1 x.2)) L
def tabN:Nat→List (Array Value × TypeId)→List Ent
 | _,[]=>[]
 | g,x :: L=>(g,x.2,x.1) :: tabN (g+1) L
theorem fM0 {W:World} {O:List Ent}:∀ (L:List (Array Value × TypeId)) {w:World} {N:List Ent},Fr W O N w→Fr W O (N ++ tabN w.heap.size L) (alN w L)
 | [],_,_,h=>by rw [tabN,List.append_nil];exact h
 | x :: L,w,N,h=>by
  have h1:=fM0 L (h.alloc rfl x.2 x.1)
  rw [World.size_alloc,List.append_assoc] at h1
  exact h1
theorem fM {W w X:World} {O N:List Ent} {M:Nat→List Ent} (h:Fr W O N w) (L:List (Array Value × TypeId)) (hX:alN w L=X:=by simp only [alN];exact rfl) (hM:∀ g,N ++ tabN g L=M g:=by intro g;simp only [tabN,List.nil_append,List.cons_append];exact rfl) :
  ∃ g u,w.heap.size=g∧X=u∧Hid (Fr W O (M g) u):=⟨_,_,rfl,rfl,Lib.hid (by rw [← hM,← hX];exact fM0 L h)⟩
section
variable {W w:World} {O A T M:List Ent}
theorem fNT {i:Nat} {x:Ent} (h:Fr W O ((A ++ T).set i x) w) (hi:i<A.length:=by exact of_decide_eq_true rfl) (hM:A.set i x=M:=by (try simp only [List.set_cons_succ,List.set_cons_zero]);exact rfl):Hid (Fr W O (M ++ T) w):=by
 rw [List.set_append_left _ _ hi,hM] at h;exact Lib.hid h
theorem fAT {M:Nat→List Ent} (h:Fr W O (A ++ T) w) (cs:Array Value) (t:TypeId) (hN:∀ g,A ++ [(g,t,cs)]=M g:=by intro g;(try simp only [List.nil_append,List.cons_append]);exact rfl):∃ g u,w.heap.size=g∧w.alloc (.cells cs t)=u∧Hid (Fr W O (M g ++ T) u) :=
 ⟨_,_,rfl,rfl,Lib.hid (by
  rw [← hN]
  refine (h.alloc rfl t cs).perm ?_
  rw [List.append_assoc,List.append_assoc]
  exact List.perm_append_comm.append_left _)⟩
end
section
variable {P:Program} {l:List Oper} {Q:Exit→Act→World→Prop} {a0:Act} {W:World}
def StepG (O N:Nat→List Ent) (A:List AEnt) (C:List Nat) (R:Nat→Value→(Nat→Value)→Prop) (P:Program) (l:List Oper) (Q:Exit→Act→World→Prop) (a0:Act) (W:World) (i:Nat) (o:Oper) (pre:Nat→Prop) (post:(Nat→Bool)→(Nat→Value)→Nat→Value→World→World→Prop):Prop :=
 ∀ (a:Act) (w:World) (vs:Nat→Value) (dn:Nat→Bool) (k:Nat) (K:Act→World→Prop),RS l W O N A C i dn vs k w→pre k →
  (∀ (t:Nat) (_:keepB l i t=true:=by decide),a.tmps[t]?.getD undef=a0.tmps[t]?.getD undef) →
  (∀ (j d:Nat) {oj:Oper} (_:l[j]?=some oj:=by exact rfl) (_:oj.dst=some d:=by exact rfl) (_:afterB o j=true:=by exact rfl),a.tmps[d]?.getD undef=vs j∧R j (vs j) (maskV oj vs)) →
  (∀ v w' (_:o.dst=none→v=undef:=by first | exact (by simp) | exact fun _=>rfl) (_:post dn vs k v w w':=by exact bR) (_:R i v (maskV o vs):=by first | exact rfl | exact trivial),K (a.put o.dst v) w') →
  if Region.wanted o (yielded l.toArray a.tmps) then o.wp P a w K Q else K (a.put o.dst undef) w
def StepsG (O N:Nat→List Ent) (A:List AEnt) (C:List Nat) (R:Nat→Value→(Nat→Value)→Prop) (P:Program) (l:List Oper) (Q:Exit→Act→World→Prop) (a0:Act) (W:World):List Kind→List Oper→Nat→Prop
 | .p :: ks,o :: r,i=>StepG O N A C R P l Q a0 W i o (fun _=>True) (fun _ _ _ _ w w'=>Below w.heap.size w w')∧StepsG O N A C R P l Q a0 W ks r (i+1)
 | .a j :: ks,o :: r,i=>StepG O N A C R P l Q a0 W i o (fun _=>True) (fun dn vs k v _ w'=>match A[j]? with | some x=>Fr W (O k) ((N k ++ aTab A dn vs k) ++ [(gOf v,x.2.1,x.2.2 k)]) w' | none=>False)∧StepsG O N A C R P l Q a0 W ks r (i+1)
 | .c s :: ks,o :: r,i=>StepG O N A C R P l Q a0 W i o (fun k=>k=s) (fun dn vs _ _ _ w'=>Fr W (O (s+1)) (N (s+1) ++ aTab A dn vs (s+1)) w')∧StepsG O N A C R P l Q a0 W ks r (i+1)
 | [],[],_=>True
 | _,_,_=>False
theorem StepsG.f {O N:Nat→List Ent} {A:List AEnt} {C:List Nat} {R:Nat→Value→(Nat→Value)→Prop}:∀ (ks:List Kind) (r:List Oper) (i:Nat),StepsG O N A C R P l Q a0 W ks r i→StepsF P l Q a0 W O N A C R ks r i
 | .p :: ks,_ :: r,i,h=>⟨fun a w vs dn k K h1 h2 h3 h4 h5=>h.1 a w vs dn k K h1 h2 (fun t q=>h3 t q) (fun j d oj q1 q2 q3=>h4 j oj d q1 q2 q3) (fun v w' q1 q2 q3=>h5 v w' q1 q2 q3),StepsG.f ks r (i+1) h.2⟩
 | .a _ :: ks,_ :: r,i,h=>⟨fun a w vs dn k K h1 h2 h3 h4 h5=>h.1 a w vs dn k K h1 h2 (fun t q=>h3 t q) (fun j d oj q1 q2 q3=>h4 j oj d q1 q2 q3) (fun v w' q1 q2 q3=>h5 v w' q1 q2 q3),StepsG.f ks r (i+1) h.2⟩
 | .c _ :: ks,_ :: r,i,h=>⟨fun a w vs dn k K h1 h2 h3 h4 h5=>h.1 a w vs dn k K h1 h2 (fun t q=>h3 t q) (fun j d oj q1 q2 q3=>h4 j oj d q1 q2 q3) (fun v w' q1 q2 q3=>h5 v w' q1 q2 q3),StepsG.f ks r (i+1) h.2⟩
 | [],[],_,_=>trivial
 | [],_ :: _,_,h=>h.elim
 | .p :: _,[],_,h=>h.elim
 | .a _ :: _,[],_,h=>h.elim
 | .c _ :: _,[],_,h=>h.elim
/-- A drawn region, its stages given. -/
theorem wrf {id:Nat} {w0:World} (ks:List Kind) (C:List Nat) (A:List AEnt) (O N:Nat→List Ent) (R:Nat→Value→(Nat→Value)→Prop) (AL:List Nat) (h0:Fr W (O 0) (N 0) w0) (hs:StepsG O N A C R P l Q a0 W ks l 0)
  (hend:∀ (vs:Nat→Value) (w:World),Fr W (O C.length) (N C.length ++ aAll A vs C.length) w→(∀ i o,l[i]?=some o→R i (vs i) (maskV o vs))→Q .normal (putAll l vs 0 a0) w)
  (hm:P.follows .mixedOrders=true:=by kernel_rfl) (hB:regB l a0.tmps.size=true:=by kernel_rfl) (hch:chainOk l C=true:=by kernel_rfl) (hAL:A.map (·.1)=AL:=by exact rfl) (hAn:AL.Nodup:=by decide) (hAr:(AL.all fun i=>decide (i<l.length))=true:=by kernel_rfl)
  (hk:kindOk l C AL ks 0=true:=by kernel_rfl):(Code.region id l.toArray true).wp P Q a0 w0 :=
 wp_region_fr ks C A W O N R hm hB hch AL hAL hAn hAr hk h0 (StepsG.f ks l 0 hs) hend
/-- A drawn region that reads. -/
theorem wr0 {id:Nat} {w0:World} {O N:List Ent} (R:Nat→Value→(Nat→Value)→Prop) (h0:Fr W O N w0) (hs:StepsG (fun _=>O) (fun _=>N) [] [] R P l Q a0 W (l.map fun _=>.p) l 0)
  (hend:∀ (vs:Nat→Value) (w:World),Fr W O N w→(∀ i o,l[i]?=some o→R i (vs i) (maskV o vs))→Q .normal (putAll l vs 0 a0) w)
  (hm:P.follows .mixedOrders=true:=by kernel_rfl) (hB:regB l a0.tmps.size=true:=by kernel_rfl) (hch:chainOk l []=true:=by kernel_rfl) (hk:kindOk l [] [] (l.map fun _=>.p) 0=true:=by kernel_rfl):(Code.region id l.toArray true).wp P Q a0 w0 :=
 wp_region_fr (l.map fun _=>.p) [] [] W (fun _=>O) (fun _=>N) R hm hB hch [] rfl List.nodup_nil (by simp) hk h0 (StepsG.f _ l 0 hs) fun vs w h hr=>hend vs w (by simpa [aAll] using h) hr
theorem fW {w:World} {O N O' N':List Ent} {vs:Nat→Value} {m:Nat} (h:Fr W O (N ++ aAll [] vs m) w) (hO:O=O':=by (try simp only [List.length_cons,List.length_nil,Nat.reduceAdd,Nat.reduceLeDiff,↓reduceIte]);exact rfl) (hN:N=N':=by (try simp only [List.length_cons,List.length_nil,Nat.reduceAdd,Nat.reduceLeDiff,↓reduceIte]);exact rfl):Hid (Fr W O' N' w):=by
 subst hO hN;exact Lib.hid (by simpa [aAll] using h)
theorem fX {w:World} {O N O' M:List Ent} {A:List AEnt} {vs:Nat→Value} {m:Nat} (h:Fr W O (N ++ aAll A vs m) w) (hO:O=O':=by (try simp only [List.length_cons,List.length_nil,Nat.reduceAdd,Nat.reduceLeDiff,↓reduceIte]);exact rfl) (hN:N ++ aAll A vs m=M:=by (try simp only [aAll,List.map_cons,List.map_nil,List.nil_append,List.cons_append,List.length_cons,List.length_nil,Nat.reduceAdd,Nat.reduceLeDiff,↓reduceIte]);exact rfl):Fr W O' M w:=by
 subst hO hN;exact h
theorem gI {w:World} {g t k m:Nat} {x y:Array Value} (h:k≤m) (b:Bk w g t (if k≤m then x else y)):Bk w g t x:=by rwa [if_pos h] at b
/-- What the operations of a region yield, by a list. -/
def rV (L:List Value) (i:Nat) (u:Value) (_:Nat→Value):Prop:=match L[i]? with | some v=>u=v | none=>True
/-- The like, by numbers. -/
def rM:List (Nat × Value)→Nat→Value→(Nat→Value)→Prop
 | [],_,_,_=>True
 | (j,v) :: L,i,u,d=>match Nat.beq j i with | true=>u=v | false=>rM L i u d
theorem wY {a:Act} {o oj:Oper} {d:Nat} {x y:Prop} (j:Nat) (want:Bool) (hv:a.tmps[d]?.getD undef=.bool want) (h:x) (hg:o.guard=some (j,want):=by exact rfl) (hj:l[j]?=some oj:=by exact rfl) (hd:oj.dst=some d:=by exact rfl):if Region.wanted o (yielded l.toArray a.tmps) then x else y:=by
 rw [if_pos (wanted_yes j want hg hj hd hv)];exact h
theorem wN {a:Act} {o oj:Oper} {d:Nat} {x y:Prop} (j:Nat) (want:Bool) (hv:a.tmps[d]?.getD undef=.bool !want) (h:y) (hg:o.guard=some (j,want):=by exact rfl) (hj:l[j]?=some oj:=by exact rfl) (hd:oj.dst=some d:=by exact rfl):if Region.wanted o (yielded l.toArray a.tmps) then x else y:=by
 rw [if_neg (wanted_no j want hg hj hd hv)];exact h
theorem wU {a:Act} {o oj:Oper} {d:Nat} {x y:Prop} (j:Nat) (want:Bool) (hv:a.tmps[d]?.getD undef=undef) (h:y) (hg:o.guard=some (j,want):=by exact rfl) (hj:l[j]?=some oj:=by exact rfl) (hd:oj.dst=some d:=by exact rfl):if Region.wanted o (yielded l.toArray a.tmps) then x else y:=by
 have h1:a.tmps[d]?=none ∨ a.tmps[d]?=some undef:=by
  cases h:a.tmps[d]? with
  | none=>exact .inl rfl
  | some u=>rw [h] at hv;exact .inr (congrArg some hv)
 have h2:¬ Region.wanted o (yielded l.toArray a.tmps)=true:=by
  rcases h1 with h1 | h1 <;> cases want <;> simp [Region.wanted,hg,yielded,hj,hd,h1,undef]
 rw [if_neg h2];exact h
theorem oD {o:Oper} {a:Act} {w:World} {K:Act→World→Prop} {Q:Exit→Act→World→Prop} {f:Nat} {xs:Array Operand} {ts:Array TypeId} {vs:Array Value} {v:Value} {X:World→Prop} (ho:o.op=.call { callee:=.value (.func f),args:=xs,argTypes:=ts }) (h:Calls P f vs w fun e w'=>e=.returned v∧X w') (hx:xs.map a.eval=vs) (hk:∀ w',X w'→K (a.put o.dst v) w')
  (eg:∀ args w,(callFunc f args).run P w=.ok (.enter f args) w:=by exact fun _ _=>by kernel_rfl):o.wp P a w K Q:=wpo_call f xs ts ho vs hx eg (h.mono fun _ w' ⟨he,hb⟩=>⟨v,he,hk w' hb⟩)
theorem oC {o:Oper} {a:Act} {w:World} {K:Act→World→Prop} {Q:Exit→Act→World→Prop} {f:Nat} {xs:Array Operand} {ts:Array TypeId} {vs:Array Value} (ho:o.op=.call { callee:=.value (.func f),args:=xs,argTypes:=ts }) (h:Calls P f vs w fun e w'=>∃ v,e=.returned v∧K (a.put o.dst v) w') (hx:xs.map a.eval=vs)
  (eg:∀ args w,(callFunc f args).run P w=.ok (.enter f args) w:=by exact fun _ _=>by kernel_rfl):o.wp P a w K Q:=wpo_call f xs ts ho vs hx eg h
theorem oE {o:Oper} {a:Act} {w:World} {K:Act→World→Prop} {Q:Exit→Act→World→Prop} {X:Value→Prop} {f:Nat} {xs:Array Operand} {ts:Array TypeId} {vs:Array Value} {v:Value} (ho:o.op=.call { callee:=.value (.func f),args:=xs,argTypes:=ts }) (h:Calls P f vs w fun e w'=>e=.returned v∧Below w.heap.size w w') (hx:xs.map a.eval=vs)
  (hk:∀ v w',(o.dst=none→v=undef)→Below w.heap.size w w'→X v→K (a.put o.dst v) w') (hR:X v:=by first | exact rfl | exact trivial) (hd:o.dst=none→v=undef:=by exact (by simp))
  (eg:∀ args w,(callFunc f args).run P w=.ok (.enter f args) w:=by exact fun _ _=>by kernel_rfl):o.wp P a w K Q:=wpo_call f xs ts ho vs hx eg (h.mono fun _ w' ⟨he,hb⟩=>⟨v,he,hk v w' hd hb hR⟩)
theorem oL {o:Oper} {a:Act} {w:World} {K:Act→World→Prop} {Q:Exit→Act→World→Prop} {ty g off t n:Nat} {x:Operand} {cs S:Array Value} {d:TypeDesc} (hx:a.eval x=.pointer (some ⟨g,off,none⟩)) (hk:Bk w g t cs)
  (hu:P.underlying ty=some d) (h:K (a.put o.dst (.agg S)) w) (hi:(P.info? ty).map (·.size)=some n) (hs:(cs.toList.drop off).take S.size=S.toList:=by exact rfl) (hS:S.size=n:=by exact rfl) (ho:o.op=.load ty x:=by exact rfl)
  (hd:(match d with | .struct _ | .array _ _=>true | _=>false)=true:=by exact rfl):o.wp P a w K Q:=wpo_loadF ty x ho g off hx t cs hk S hs d hu hd (by rw [hS];exact hi) h
theorem oM {o:Oper} {a:Act} {w:World} {K:Act→World→Prop} {Q:Exit→Act→World→Prop} {g off t:Nat} {x:Operand} {cs S:Array Value} (hx:a.eval x=.pointer (some ⟨g,off,none⟩)) (hk:Bk w g t cs)
  (h:K (a.put o.dst (.agg S)) w) (hs:(cs.toList.drop off).take S.size=S.toList:=by exact rfl) (hS:S.size=2:=by exact rfl) (ho:o.op=.load 31 x:=by exact rfl):o.wp Tryz.prog a w K Q:=oL hx hk u_span h i_span hs hS ho rfl
theorem oS {o:Oper} {a:Act} {w:World} {K:Act→World→Prop} {Q:Exit→Act→World→Prop} {ty g off t:Nat} {x y:Operand} {cs S:Array Value} (hx:a.eval x=.pointer (some ⟨g,off,none⟩)) (hy:a.eval y=.agg S) (hb:Bk w g t cs) (R:Array Value) (hi:(P.info? ty).map (·.size)=some S.size)
  (h:∀ w',Bk w' g t R→Only g w w'→K (a.put o.dst undef) w') (hR:cs.toList.take off ++ S.toList ++ cs.toList.drop (off+S.size)=R.toList:=by exact rfl) (ho:o.op=.store ty x y:=by exact rfl) (hdst:o.dst=none:=by exact rfl)
  (hl:off+S.size≤cs.size:=by exact of_decide_eq_true rfl) (h1:(S.toList.all fun u=>u.oneCell')=true:=by exact rfl):o.wp P a w K Q:=wpo_storeF ty x y ho hdst g off hx S hy t cs R hb hR hl (one_all h1) hi h
theorem oW {o:Oper} {a:Act} {w:World} {K:Act→World→Prop} {Q:Exit→Act→World→Prop} {ty g t n:Nat} {x y:Operand} {cs S:Array Value} (hx:a.eval x=.pointer (some ⟨g,0,none⟩)) (hy:a.eval y=.agg S) (hb:Bk w g t cs) (hi:(P.info? ty).map (·.size)=some n)
  (h:∀ w',Bk w' g t S→Only g w w'→K (a.put o.dst undef) w') (hS:S.size=n:=by exact rfl) (hc:cs.size=n:=by exact rfl) (ho:o.op=.store ty x y:=by exact rfl) (hdst:o.dst=none:=by exact rfl)
  (h1:(S.toList.all fun u=>u.oneCell')=true:=by exact rfl):o.wp P a w K Q:=wpo_storeF ty x y ho hdst g 0 hx S hy t cs S hb (by rw [Nat.zero_add,hS,← hc];simp) (by omega) (one_all h1) (by rw [hS];exact hi) h
section
variable {ops:Array Oper} {rest:List Oper} {o:Oper} {a:Act} {w:World} {ty g off t:Nat} {x y:Operand} {cs:Array Value} {d:TypeDesc}
theorem lF (hk:Bk w g t cs) (S:Array Value) (hu:P.underlying ty=some d) (hi:(P.info? ty).map (·.size)=some S.size) (h:wpList P ops Q rest (a.put o.dst (.agg S)) w) (ho:o.op=.load ty x:=by exact rfl) (hx:a.eval x=.pointer (some ⟨g,off,none⟩):=by exact rfl) (hs:(cs.toList.drop off).take S.size=S.toList:=by exact rfl)
  (hgd:o.guard=none:=by exact rfl) (hd:(match d with | .struct _ | .array _ _=>true | _=>false)=true:=by exact rfl):wpList P ops Q (o :: rest) a w:=wpLoadF hgd ty x ho g off hx t cs hk S hs d hu hd hi h
theorem lS (hk:Bk w g t cs) (l h:Int) (hh:wpList Tryz.prog ops Q rest (a.put o.dst (.agg #[.int .i64 l,.int .i64 h])) w) (ho:o.op=.load 31 x:=by exact rfl) (hx:a.eval x=.pointer (some ⟨g,off,none⟩):=by exact rfl) (hs:(cs.toList.drop off).take 2=[.int .i64 l,.int .i64 h]:=by exact rfl)
  (hgd:o.guard=none:=by exact rfl):wpList Tryz.prog ops Q (o :: rest) a w:=wpLoadF hgd 31 x ho g off hx t cs hk #[.int .i64 l,.int .i64 h] hs _ u_span rfl i_span hh
theorem sF {O N M:List Ent} {n:Nat} {S:Array Value} (i:Nat) (R:Array Value) (hf:Fr W O N w) (hi:(P.info? ty).map (·.size)=some n) (h:∀ w',Hid (Fr W O M w')→wpList P ops Q rest a w')
  (ho:o.op=.store ty x y:=by exact rfl) (hx:a.eval x=.pointer (some ⟨g,off,none⟩):=by exact rfl) (hy:a.eval y=.agg S:=by exact rfl) (hS:S.size=n:=by exact rfl) (hN:N[i]?=some (g,t,cs):=by exact rfl) (hM:N.set i (g,t,R)=M:=by (try simp only [List.nil_append,List.cons_append,List.set_cons_succ,List.set_cons_zero]);exact rfl)
  (hR:cs.toList.take off ++ S.toList ++ cs.toList.drop (off+S.size)=R.toList:=by exact rfl) (hgd:o.guard=none:=by exact rfl) (hdst:o.dst=none:=by exact rfl) (hl:off+S.size≤cs.size:=by exact of_decide_eq_true rfl) (h1:(S.toList.all fun u=>u.oneCell')=true:=by exact rfl):wpList P ops Q (o :: rest) a w :=
 wpStoreF hgd hdst ty x y ho g off hx S hy t cs R (hf.get i hN) hR hl (one_all h1) (by rw [hS];exact hi) fun w' hk ho=>h w' (Lib.hid (hM ▸ hf.only i hN ho hk))
/-- The like, of all cells of a block. -/
theorem sW {O N M:List Ent} {n:Nat} {S:Array Value} (i:Nat) (hf:Fr W O N w) (hi:(P.info? ty).map (·.size)=some n) (h:∀ w',Hid (Fr W O M w')→wpList P ops Q rest a w')
  (ho:o.op=.store ty x y:=by exact rfl) (hx:a.eval x=.pointer (some ⟨g,0,none⟩):=by exact rfl) (hy:a.eval y=.agg S:=by exact rfl) (hS:S.size=n:=by exact rfl) (hN:N[i]?=some (g,t,cs):=by exact rfl) (hM:N.set i (g,t,S)=M:=by (try simp only [List.nil_append,List.cons_append,List.set_cons_succ,List.set_cons_zero]);exact rfl)
  (hc:cs.size=n:=by exact rfl) (hgd:o.guard=none:=by exact rfl) (hdst:o.dst=none:=by exact rfl) (h1:(S.toList.all fun u=>u.oneCell')=true:=by exact rfl):wpList P ops Q (o :: rest) a w :=
 wpStoreF hgd hdst ty x y ho g 0 hx S hy t cs S (hf.get i hN) (by rw [Nat.zero_add,hS,← hc];simp) (by omega) (one_all h1) (by rw [hS];exact hi) fun w' hk ho=>h w' (Lib.hid (hM ▸ hf.only i hN ho hk))
theorem sFO {O N M:List Ent} {n:Nat} {S:Array Value} (i:Nat) (R:Array Value) (hf:Fr W O N w) (hi:(P.info? ty).map (·.size)=some n) (h:∀ w',Hid (Fr W M N w')→wpList P ops Q rest a w')
  (ho:o.op=.store ty x y:=by exact rfl) (hx:a.eval x=.pointer (some ⟨g,off,none⟩):=by exact rfl) (hy:a.eval y=.agg S:=by exact rfl) (hS:S.size=n:=by exact rfl) (hN:O[i]?=some (g,t,cs):=by exact rfl) (hM:O.set i (g,t,R)=M:=by (try simp only [List.nil_append,List.cons_append,List.set_cons_succ,List.set_cons_zero]);exact rfl)
  (hR:cs.toList.take off ++ S.toList ++ cs.toList.drop (off+S.size)=R.toList:=by exact rfl) (hgd:o.guard=none:=by exact rfl) (hdst:o.dst=none:=by exact rfl) (hl:off+S.size≤cs.size:=by exact of_decide_eq_true rfl) (h1:(S.toList.all fun u=>u.oneCell')=true:=by exact rfl):wpList P ops Q (o :: rest) a w :=
 wpStoreF hgd hdst ty x y ho g off hx S hy t cs R (hf.getO i hN) hR hl (one_all h1) (by rw [hS];exact hi) fun w' hk ho=>h w' (Lib.hid (hM ▸ hf.onlyO i hN ho hk))
end
end

theorem hull2_ex {t1 t2:Bool} {x1 y1 x2 y2 v1 v2:Int} (h1:IsBig (.agg #[.bool t1,.int .u64 x1,.int .u64 y1]) v1) (h2:IsBig (.agg #[.bool t2,.int .u64 x2,.int .u64 y2]) v2) :
  ∃ tl xl yl th xh yh,IsBig (.agg #[.bool tl,.int .u64 xl,.int .u64 yl]) (min v1 v2)∧IsBig (.agg #[.bool th,.int .u64 xh,.int .u64 yh]) (max v1 v2)∧∀ (w:World) (g:Nat) (t:TypeId),Bk w g t #[.bool t1,.int .u64 x1,.int .u64 y1,.bool t2,.int .u64 x2,.int .u64 y2] →
   Calls Tryz.prog 139 #[.slice (some ⟨g,0,none⟩) 2 2] w fun e w'=>e=.returned (.tuple #[.agg #[.bool tl,.int .u64 xl,.int .u64 yl],.agg #[.bool th,.int .u64 xh,.int .u64 yh]])∧Below w.heap.size w w':=by
 obtain ⟨tf,htf⟩:∃ tf:Nat→Bool,tf=fun i=>match i with | 0=>t1 | _=>t2:=⟨_,rfl⟩
 obtain ⟨xf,hxf⟩:∃ tf:Nat→Int,tf=fun i=>match i with | 0=>x1 | _=>x2:=⟨_,rfl⟩
 obtain ⟨yf,hyf⟩:∃ tf:Nat→Int,tf=fun i=>match i with | 0=>y1 | _=>y2:=⟨_,rfl⟩
 obtain ⟨v,hv⟩:∃ v:Nat→Int,v=fun i=>match i with | 0=>v1 | _=>v2:=⟨_,rfl⟩
 have hV:∀ i,i<1+1→IsBig (.agg (bc tf xf yf i)) (v i):=fun i hi=>by
  match i,hi with
  | 0,_=>subst htf hxf hyf hv;exact h1
  | 1,_=>subst htf hxf hyf hv;exact h2
 have m1:IsBig (.agg (bc tf xf yf (pmin v 1))) (min v1 v2):=by
  have:=hV (pmin v 1) (Nat.lt_succ_of_le (pmin_le v 1))
  rw [pmin_val v] at this;have e:minK v 1=min v1 v2:=by subst hv;show min v1 v2=_ ;rfl
  rwa [e] at this
 have m2:IsBig (.agg (bc tf xf yf (pmax v 1))) (max v1 v2):=by
  have:=hV (pmax v 1) (Nat.lt_succ_of_le (pmax_le v 1))
  rw [pmax_val v] at this;have e:maxK v 1=max v1 v2:=by subst hv;show max v1 v2=_ ;rfl
  rwa [e] at this
 refine ⟨tf (pmin v 1),xf (pmin v 1),yf (pmin v 1),tf (pmax v 1),xf (pmax v 1),yf (pmax v 1),m1,m2,fun w g t hk=>?_⟩
 refine hull_ex w _ 1 2 tf xf yf v ⟨by omega,fun _=>⟨g,0,rfl,hk.lt,fun i hi j hj=>?_⟩⟩ hV (by omega) (by omega) (by omega) (by omega)
 rw [hk.cell];subst htf hxf hyf;match i,j,hi,hj with
 | 0,0,_,_=>rfl
 | 0,1,_,_=>rfl
 | 0,2,_,_=>rfl
 | 1,0,_,_=>rfl
 | 1,1,_,_=>rfl
 | 1,2,_,_=>rfl
theorem hull4_ex {t0 t1 t2 t3:Bool} {x0 y0 x1 y1 x2 y2 x3 y3 v0 v1 v2 v3:Int} (h0:IsBig (.agg #[.bool t0,.int .u64 x0,.int .u64 y0]) v0) (h1:IsBig (.agg #[.bool t1,.int .u64 x1,.int .u64 y1]) v1) (h2:IsBig (.agg #[.bool t2,.int .u64 x2,.int .u64 y2]) v2) (h3:IsBig (.agg #[.bool t3,.int .u64 x3,.int .u64 y3]) v3) :
  ∃ tl xl yl th xh yh,IsBig (.agg #[.bool tl,.int .u64 xl,.int .u64 yl]) (min4 v0 v1 v2 v3)∧IsBig (.agg #[.bool th,.int .u64 xh,.int .u64 yh]) (max4 v0 v1 v2 v3)∧∀ (w:World) (g:Nat) (t:TypeId),Bk w g t #[.bool t0,.int .u64 x0,.int .u64 y0,.bool t1,.int .u64 x1,.int .u64 y1,.bool t2,.int .u64 x2,.int .u64 y2,.bool t3,.int .u64 x3,.int .u64 y3] →
   Calls Tryz.prog 139 #[.slice (some ⟨g,0,none⟩) 4 4] w fun e w'=>e=.returned (.tuple #[.agg #[.bool tl,.int .u64 xl,.int .u64 yl],.agg #[.bool th,.int .u64 xh,.int .u64 yh]])∧Below w.heap.size w w':=by
 obtain ⟨tf,htf⟩:∃ tf:Nat→Bool,tf=fun i=>match i with | 0=>t0 | 1=>t1 | 2=>t2 | _=>t3:=⟨_,rfl⟩
 obtain ⟨xf,hxf⟩:∃ tf:Nat→Int,tf=fun i=>match i with | 0=>x0 | 1=>x1 | 2=>x2 | _=>x3:=⟨_,rfl⟩
 obtain ⟨yf,hyf⟩:∃ tf:Nat→Int,tf=fun i=>match i with | 0=>y0 | 1=>y1 | 2=>y2 | _=>y3:=⟨_,rfl⟩
 obtain ⟨v,hv⟩:∃ v:Nat→Int,v=fun i=>match i with | 0=>v0 | 1=>v1 | 2=>v2 | _=>v3:=⟨_,rfl⟩
 have hV:∀ i,i<3+1→IsBig (.agg (bc tf xf yf i)) (v i):=fun i hi=>by
  match i,hi with
  | 0,_=>subst htf hxf hyf hv;exact h0
  | 1,_=>subst htf hxf hyf hv;exact h1
  | 2,_=>subst htf hxf hyf hv;exact h2
  | 3,_=>subst htf hxf hyf hv;exact h3
 have m1:IsBig (.agg (bc tf xf yf (pmin v 3))) (min4 v0 v1 v2 v3):=by
  have:=hV (pmin v 3) (Nat.lt_succ_of_le (pmin_le v 3))
  rw [pmin_val v] at this;have e:minK v 3=min4 v0 v1 v2 v3:=by subst hv;unfold min4;show min (min (min v0 v1) v2) v3=_;omega
  rwa [e] at this
 have m2:IsBig (.agg (bc tf xf yf (pmax v 3))) (max4 v0 v1 v2 v3):=by
  have:=hV (pmax v 3) (Nat.lt_succ_of_le (pmax_le v 3))
  rw [pmax_val v] at this;have e:maxK v 3=max4 v0 v1 v2 v3:=by subst hv;unfold max4;show max (max (max v0 v1) v2) v3=_;omega
  rwa [e] at this
 refine ⟨tf (pmin v 3),xf (pmin v 3),yf (pmin v 3),tf (pmax v 3),xf (pmax v 3),yf (pmax v 3),m1,m2,fun w g t hk=>?_⟩
 refine hull_ex w _ 3 4 tf xf yf v ⟨by omega,fun _=>⟨g,0,rfl,hk.lt,fun i hi j hj=>?_⟩⟩ hV (by omega) (by omega) (by omega) (by omega)
 rw [hk.cell];subst htf hxf hyf;match i,j,hi,hj with
 | 0,0,_,_=>rfl
 | 0,1,_,_=>rfl
 | 0,2,_,_=>rfl
 | 1,0,_,_=>rfl
 | 1,1,_,_=>rfl
 | 1,2,_,_=>rfl
 | 2,0,_,_=>rfl
 | 2,1,_,_=>rfl
 | 2,2,_,_=>rfl
 | 3,0,_,_=>rfl
 | 3,1,_,_=>rfl
 | 3,2,_,_=>rfl
theorem mul_range {a b:Int} (ha:I64 a) (hb:I64 b):-85070591730234615865843651857942052864≤a * b∧a * b≤85070591730234615865843651857942052864:=by
 have h1:=mul_one (lo:=-9223372036854775808) (hi:=9223372036854775807) (x:=a) (c:=b) ha.1 ha.2;unfold I64 at hb;omega
theorem scale_any (a:SpanD) (n:Int) (ha:WdS a) (hn:I64 n) (w:World):Calls Tryz.prog 136 #[spanV a,.int .i64 n] w (SpPost (scaleB a n) w.heap.size w):=by
 obtain ⟨lo,hi⟩:=a;have H1:=hZ (fun w=>check_any ⟨lo,hi⟩ w);unfold spanV at H1 ⊢;dsimp only at H1 ⊢;obtain ⟨⟨a1,a2⟩,a3,a4⟩:=ha;dsimp only at a1 a2 a3 a4;have z1:=mul_range (a:=lo) (b:=n) ⟨a1,a2⟩ hn;have z2:=mul_range (a:=hi) (b:=n) ⟨a3,a4⟩ hn;have HFIN:Hid (∀ w',Fr w [] [] w'→SpPost (scaleB ⟨lo,hi⟩ n) w.heap.size w (.returned (.tuple #[.agg #[.int .i64 (scaleB ⟨lo,hi⟩ n).1.lo,.int .i64 (scaleB ⟨lo,hi⟩ n).1.hi],.int .i64 (scaleB ⟨lo,hi⟩ n).2])) w'):=hZ fun w' h=>⟨rfl,h.toBelow⟩;cases hc:chkB ⟨lo,hi⟩ with
 | false =>
  have he:errC ⟨lo,hi⟩=2:=by unfold errC;rw [hc];rfl
  have hs:scaleB ⟨lo,hi⟩ n=(zeroS,2):=by unfold scaleB;rw [hc];rfl
  rw [he] at H1;rw [hs] at HFIN ⊢;clear hc he hs a1 a2 a3 a4 hn z1 z2;obtain ⟨qb,W0,hqb,hW0,HF0⟩:=fM (Fr.start w) [(#[.int .i64 lo,.int .i64 hi],31),(#[.int .i64 0,.int .i64 0],31)];go_enter Tryz.func136,Tryz.ntmps136;go_upto_region 1 with (fail);clear hW0 hqb;go_wp2_with (refine lS (gN HF0 0) lo hi ?_)
  refine mB HF0.out (H1.out _) fun w1 HF2=>?_;go_wp2_with (refine sW 1 HF2.out i_span fun w3 HF4=>?_)
  refine ret_agg2 rfl rfl rfl (HF4.out.get 1 rfl) rfl u_span rfl i_span ?_
  exact HFIN.out _ HF4.out.drop
 | true =>
  have he:errC ⟨lo,hi⟩=0:=by unfold errC;rw [hc];rfl
  have hs:scaleB ⟨lo,hi⟩ n=fitB (min (lo * n) (hi * n)) (max (lo * n) (hi * n)):=by unfold scaleB;rw [hc];rfl
  rw [he] at H1;rw [hs] at HFIN ⊢;obtain ⟨r1,hr1,hs1⟩:=times_ex lo n ⟨a1,a2⟩ hn;obtain ⟨r2,hr2,hs2⟩:=times_ex hi n ⟨a3,a4⟩ hn;obtain ⟨t1,x1,y1,rfl⟩:=big_cells hr1;obtain ⟨t2,x2,y2,rfl⟩:=big_cells hr2;obtain ⟨tl,xl,yl,th,xh,yh,hl,hh,HH⟩:=hull2_ex hr1 hr2;have HFT:=hZ (fun w=>fit_any hl hh (by unfold S127;omega) (by unfold S127;omega) w)
  have HT1:=hZ hs1;have HT2:=hZ hs2;replace HH:=hZ HH;unfold SpPost spanV at HFT;obtain ⟨fl,hfl⟩:=eX ((fitB (min (lo * n) (hi * n)) (max (lo * n) (hi * n))).1.lo);obtain ⟨fh,hfh⟩:=eX ((fitB (min (lo * n) (hi * n)) (max (lo * n) (hi * n))).1.hi);obtain ⟨fe,hfe⟩:=eX ((fitB (min (lo * n) (hi * n)) (max (lo * n) (hi * n))).2);rw [hfl,hfh,hfe] at HFT HFIN;clear hc he hs a1 a2 a3 a4 hn z1 z2 hr1 hr2 hs1 hs2 hl hh hfl hfh hfe;obtain ⟨qb,W0,hqb,hW0,HF0⟩:=fM (Fr.start w) [(#[.int .i64 lo,.int .i64 hi],31),(#[.int .i64 0,.int .i64 0],31)];go_enter Tryz.func136,Tryz.ntmps136;go_upto_region 1 with (fail);clear hW0 hqb;go_wp2_with (refine lS (gN HF0 0) lo hi ?_)
  refine mB HF0.out (H1.out _) fun w1 HF2=>?_;go_upto_region 4 with (fail);refine wrf [.p,.p,.p,.p,.p,.p,.p,.p,.a 0,.p,.p,.p,.p,.p,.p,.c 0,.p] [15] [(8,217,fun _=>#[.bool t1,.int .u64 x1,.int .u64 y1,.bool t2,.int .u64 x2,.int .u64 y2])] (fun _=>[]) (fun k=>[(qb,31,iC [lo,hi]),(qb+1,31,(if k≤0 then iC [0,0] else iC [fl,fh]))]) (fun ix u _=>match ix with
      | 0=>u=.pointer (some ⟨qb,0,none⟩)
      | 1=>u=.int .i64 lo
      | 2=>u=.int .i64 n
      | 3=>u=.agg #[.bool t1,.int .u64 x1,.int .u64 y1]
      | 4=>u=.pointer (some ⟨qb,1,none⟩)
      | 5=>u=.int .i64 hi
      | 6=>u=.int .i64 n
      | 7=>u=.agg #[.bool t2,.int .u64 x2,.int .u64 y2]
      | 8=>u=.slice (some ⟨gOf u,0,none⟩) 2 2
      | 9=>u=.tuple #[.agg #[.bool tl,.int .u64 xl,.int .u64 yl],.agg #[.bool th,.int .u64 xh,.int .u64 yh]]
      | 10=>u=.agg #[.bool tl,.int .u64 xl,.int .u64 yl]
      | 11=>u=.agg #[.bool th,.int .u64 xh,.int .u64 yh]
      | 12=>u=.tuple #[.agg #[fl,fh],.int .i64 fe]
      | 13=>u=.agg #[fl,fh]
      | 14=>u=.int .i64 fe
      | 16=>u=.int .i64 fe
      | _=>True) [8] HF2.out ?_ ?_
  ·refine ⟨?_,?_,?_,?_,?_,?_,?_,?_,?_,?_,?_,?_,?_,?_,?_,?_,?_,trivial⟩
   all_goals intro a w1 vs dn k K S hpre KE DE kk
   ·have e2:=KE 2;go_simp;exact kk _ _
   ·have e13:=dep (DE 0 13);have ca:w1.cell? ⟨qb,0,none⟩=some (.int .i64 lo):=(S.fr.left.get 0 rfl).cell 0;go_simp;exact kk _ _
   ·have e1:=KE 1;go_simp;exact kk _ _
   ·have e14:=dep (DE 1 14);have e15:=dep (DE 2 15);exact oE rfl (HT1.out w1) (by simp [Act.eval,e14,e15]) @kk
   ·have e2:=KE 2;go_simp;exact kk _ _
   ·have e17:=dep (DE 4 17);have ca:w1.cell? ⟨qb,1,none⟩=some (.int .i64 hi):=(S.fr.left.get 0 rfl).cell 1;go_simp;exact kk _ _
   ·have e1:=KE 1;go_simp;exact kk _ _
   ·have e18:=dep (DE 5 18);have e19:=dep (DE 6 19);exact oE rfl (HT2.out w1) (by simp [Act.eval,e18,e19]) @kk
   ·have e16:=dep (DE 3 16);have e20:=dep (DE 7 20);go_simp;exact kk _ _ (by simp) (S.fr.alloc rfl _ _) rfl
   ·have e21:=dep (DE 8 21);exact oE rfl (HH.out w1 _ _ (S.at 0 rfl (S.done 8 rfl))) (by simp [Act.eval,e21]) @kk
   ·have e22:=dep (DE 9 22);go_simp;exact kk _ _
   ·have e22:=dep (DE 9 22);go_simp;exact kk _ _
   ·have e23:=dep (DE 10 23);have e24:=dep (DE 11 24);exact oE rfl (HFT.out w1) (by simp [Act.eval,e23,e24]) @kk
   ·have e25:=dep (DE 12 25);go_simp;exact kk _ _
   ·have e25:=dep (DE 12 25);go_simp;exact kk _ _
   ·subst hpre;exact oW (eT (KE 4)) (eT (dep (DE 13 26))) (gI (S.hi 0 15 rfl rfl) (S.fr.left.get 1 rfl)) i_span fun w' hk ho=>kk _ _ (by simp) (Fr.stage (S.fr.only 1 rfl ho hk) (by exact ⟨rfl,trivial⟩))
   ·have e27:=dep (DE 14 27);go_simp;exact kk _ _
  ·intro vs wf HFr HR;have HFr':Fr w [] [(qb,31,iC [lo,hi]),(qb+1,31,iC [fl,fh]),((gOf (vs 8)),217,#[.bool t1,.int .u64 x1,.int .u64 y1,.bool t2,.int .u64 x2,.int .u64 y2])] wf:=HFr;have v16:vs 16=.int .i64 fe:=HR 16 _ rfl;clear HFr HR;obtain ⟨g3_8,hg3_8⟩:=eX (gOf (vs 8));rw [hg3_8] at HFr';clear hg3_8;have HF3:=hZ HFr';clear HFr';simp only [putAll,Act.put,List.setIfInBounds_toArray,List.set_cons_zero,List.set_cons_succ];simp only [v16];clear v16;obtain ⟨w3,rfl⟩:∃ u:World,u=wf:=⟨_,rfl⟩;go_wp2_with fail
   refine ret_agg2 rfl rfl rfl (HF3.out.get 1 rfl) rfl u_span rfl i_span ?_
   exact HFIN.out _ HF3.out.drop
theorem mulc_ex (a b:Int) (ha:I64 a) (hb:I64 b):∃ t x y,IsBig (.agg #[.bool t,.int .u64 x,.int .u64 y]) (a * b)∧∀ w,Calls Tryz.prog 137 #[.int .i64 a,.int .i64 b] w fun e w'=>e=.returned (.agg #[.bool t,.int .u64 x,.int .u64 y])∧Below w.heap.size w w':=by
 obtain ⟨r,hr,hs⟩:=times_ex a b ha hb;obtain ⟨t,x,y,rfl⟩:=big_cells hr;refine ⟨t,x,y,hr,fun w=>?_⟩
 have H1:=hZ hs;have HFIN:Hid (∀ w',Fr w [] [] w'→Below w.heap.size w w'):=hZ fun w' h=>h.toBelow;clear hr hs ha hb;obtain ⟨qb,W0,hqb,hW0,HF0⟩:=fM (Fr.start w) [(#[.bool false,.int .u64 0,.int .u64 0],217)];go_enter Tryz.func137,Tryz.ntmps137;go_upto_region 1 with (fail);clear hW0 hqb;go_wp2_with fail
 refine mB HF0.out (H1.out _) fun w1 HF2=>?_;go_wp2_with (refine sW 0 HF2.out i_big fun w3 HF4=>?_)
 refine ret_agg rfl rfl rfl (HF4.out.get 0 rfl) u_big rfl i_big ?_
 exact ⟨rfl,HFIN.out _ HF4.out.drop⟩
theorem checked2_ex (a b:SpanD) (w:World) (g:Nat) (t:TypeId) (hk:Bk w g t #[a.lo,a.hi,b.lo,b.hi]) :
  Calls Tryz.prog 127 #[.slice (some ⟨g,0,none⟩) 2 2] w fun e w'=>e=.returned (.int .i64 (if (chkB a && chkB b)=true then 0 else 2))∧Below w.heap.size w w':=by
 have h:=checked_any w (some ⟨g,0,none⟩) 2 2 (fun i=>match i with | 0=>a | _=>b) ⟨by omega,fun _=>⟨g,0,rfl,hk.lt,fun i hi j hj=>by
  match i,j,hi,hj with
  | 0,0,_,_=>exact hk.cell 0
  | 0,1,_,_=>exact hk.cell 1
  | 1,0,_,_=>exact hk.cell 2
  | 1,1,_,_=>exact hk.cell 3⟩⟩ (by omega)
 have e:(if (allN 2 fun i=>chkB ((fun i=>match i with | 0=>a | _=>b) i))=true then (0:Int) else 2)=if (chkB a && chkB b)=true then 0 else 2:=by
  show (if (chkB a && (chkB b && true))=true then (0:Int) else 2)=_
  rw [Bool.and_true]
 rw [e] at h;exact h
theorem divide_big {a:Value} {v b:Int} (ha:IsBig a v) (hv:S127 v) (hb:0<b) (hb2:b≤18446744073709551615) (w:World) :
  Calls Tryz.prog 140 #[a,bigV false 0 b] w fun e w'=>∃ t x y t' x' y',e=.returned (.tuple #[.agg #[.bool t,.int .u64 x,.int .u64 y],.agg #[.bool t',.int .u64 x',.int .u64 y']])∧IsBig (.agg #[.bool t,.int .u64 x,.int .u64 y]) (v / b)∧IsBig (.agg #[.bool t',.int .u64 x',.int .u64 y']) (-(-v / b))∧Below w.heap.size w w':=by
 obtain ⟨n,m,rfl,p,q⟩:=ha;obtain ⟨m,rfl⟩:=Int.eq_ofNat_of_zero_le p;obtain ⟨b,rfl⟩:=Int.eq_ofNat_of_zero_le (show 0≤b by omega)
 have s:=val_size p q;obtain ⟨hv1,hv2⟩:=hv;have h:=divide_any n m b (by omega) (by omega) (by omega) w
 rw [q] at h;refine Calls.mono (show Calls _ _ #[bigN n (m:Int),bigV false 0 (b:Int)] w _ from h) ?_
 rintro e w' ⟨x,y,rfl,hx,hy,hw⟩;obtain ⟨t,x1,x2,rfl⟩:=big_cells hx;obtain ⟨t',y1,y2,rfl⟩:=big_cells hy;exact ⟨_,_,_,_,_,_,rfl,hx,hy,hw⟩
theorem ediv32_range {v:Int} (h1:-85070591730234615865843651857942052864≤v) (h2:v≤85070591730234615865843651857942052864):S127 (v / 4294967296)∧S127 (-(-v / 4294967296)):=by unfold S127;omega
theorem mul_any (a b:SpanD) (ha:WdS a) (hb:WdS b) (w:World):Calls Tryz.prog 74 #[spanV a,spanV b] w (SpPost (mulB a b) w.heap.size w):=by
 have HCK:=hZ (fun w g t h=>checked2_ex a b w g t h);have HFIN:Hid (∀ w',Fr w [] [] w'→SpPost (mulB a b) w.heap.size w (.returned (.tuple #[.agg #[.int .i64 (mulB a b).1.lo,.int .i64 (mulB a b).1.hi],.int .i64 (mulB a b).2])) w'):=hZ fun w' h=>⟨rfl,h.toBelow⟩;cases hc:chkB a && chkB b with
 | false =>
  have hs:mulB a b=(zeroS,2):=by unfold mulB;rw [hc];rfl
  rw [hs] at HFIN ⊢;rw [hc] at HCK;obtain ⟨al,ah⟩:=a;obtain ⟨bl,bh⟩:=b;clear hc hs ha hb;unfold spanV;dsimp only at HCK HFIN ⊢;obtain ⟨qb,W0,hqb,hW0,HF0⟩:=fM (Fr.start w) [(#[al,ah],31),(#[bl,bh],31),(#[.int .i64 0,.int .i64 0],31)];go_enter Tryz.func74,Tryz.ntmps74;go_upto_region 1 with (fail);clear hW0 hqb;obtain ⟨g1,hg1⟩:=eX W0.heap.size;obtain ⟨w1,hw1⟩:=eX (W0.alloc (.cells #[al,ah,bl,bh] 31));have HF2:=fE hw1 (HF0.out.alloc hg1.symm 31 #[al,ah,bl,bh]);go_wp2_with (first
    | (refine lS (gN HF0 0) al ah ?_)
    | (refine lS (gN HF0 1) bl bh ?_))
  clear hw1 hg1;refine mB HF2.out (HCK.out _ g1 31 (HF2.out.get 3 rfl)) fun w3 HF4=>?_;go_wp2_with (refine sW 2 HF4.out i_span fun w5 HF6=>?_)
  refine ret_agg2 rfl rfl rfl (HF6.out.get 2 rfl) rfl u_span rfl i_span ?_
  exact HFIN.out _ HF6.out.drop
 | true =>
  have hs:mulB a b=fitB (dn32 (min4 (a.lo * b.lo) (a.lo * b.hi) (a.hi * b.lo) (a.hi * b.hi))) (up32 (max4 (a.lo * b.lo) (a.lo * b.hi) (a.hi * b.lo) (a.hi * b.hi))):=by unfold mulB;rw [hc];rfl
  rw [hs] at HFIN ⊢;rw [hc] at HCK;obtain ⟨al,ah⟩:=a;obtain ⟨bl,bh⟩:=b;unfold spanV;dsimp only at HCK HFIN ⊢;obtain ⟨a1,a2⟩:=ha;obtain ⟨b1,b2⟩:=hb;dsimp only at a1 a2 b1 b2;obtain ⟨t00,x00,y00,h00,HM00⟩:=mulc_ex al bl a1 b1;obtain ⟨t01,x01,y01,h01,HM01⟩:=mulc_ex al bh a1 b2;obtain ⟨t10,x10,y10,h10,HM10⟩:=mulc_ex ah bl a2 b1;obtain ⟨t11,x11,y11,h11,HM11⟩:=mulc_ex ah bh a2 b2;replace HM00:=hZ HM00;replace HM01:=hZ HM01;replace HM10:=hZ HM10;replace HM11:=hZ HM11;obtain ⟨tl,xl,yl,th,xh,yh,hl,hh,HH⟩:=hull4_ex h00 h01 h10 h11;replace HH:=hZ HH;have r00:=mul_range a1 b1;have r01:=mul_range a1 b2;have r10:=mul_range a2 b1;have r11:=mul_range a2 b2;unfold dn32 up32 at HFIN ⊢;obtain ⟨vl,hvl⟩:=eX (min4 (al * bl) (al * bh) (ah * bl) (ah * bh));obtain ⟨vh,hvh⟩:=eX (max4 (al * bl) (al * bh) (ah * bl) (ah * bh));have HZ1:Hid (-85070591730234615865843651857942052864≤vl∧vl≤85070591730234615865843651857942052864):=hZ (by rw [← hvl];unfold min4;omega)
  have HZ2:Hid (-85070591730234615865843651857942052864≤vh∧vh≤85070591730234615865843651857942052864):=hZ (by rw [← hvh];unfold max4;omega)
  rw [hvl] at hl HFIN;rw [hvh] at hh HFIN;rw [hvl,hvh];have HD1:=hZ (fun w=>divide_big (b:=4294967296) hl (by have:=HZ1.out;unfold S127;omega) (by omega) (by omega) w)
  have HD2:=hZ (fun w=>divide_big (b:=4294967296) hh (by have:=HZ2.out;unfold S127;omega) (by omega) (by omega) w)
  unfold bigV at HD1 HD2;have HONE:Hid (∀ w,Calls Tryz.prog 130 #[.int .i64 4294967296] w fun e w'=>e=.returned (.agg #[.bool false,.int .u64 0,.int .u64 4294967296])∧Below w.heap.size w w'):=hZ fun w=>of_any 4294967296 (by unfold I64;omega) w
  obtain ⟨⟨⟨fl,fh⟩,fe⟩,hfe⟩:∃ z:SpanD × Int,fitB (vl / 4294967296) (-(-vh / 4294967296))=z:=⟨_,rfl⟩;have HFE:=hZ hfe;rw [hfe] at HFIN;rw [hfe];dsimp only at HFIN;clear hc hs a1 a2 b1 b2 h00 h01 h10 h11 hl hh r00 r01 r10 r11 hvl hvh hfe;obtain ⟨qb,W0,hqb,hW0,HF0⟩:=fM (Fr.start w) [(#[al,ah],31),(#[bl,bh],31),(#[.int .i64 0,.int .i64 0],31)];go_enter Tryz.func74,Tryz.ntmps74;go_upto_region 1 with (fail);clear hW0 hqb;obtain ⟨g1,hg1⟩:=eX W0.heap.size;obtain ⟨w1,hw1⟩:=eX (W0.alloc (.cells #[al,ah,bl,bh] 31));have HF2:=fE hw1 (HF0.out.alloc hg1.symm 31 #[al,ah,bl,bh]);go_wp2_with (first
    | (refine lS (gN HF0 0) al ah ?_)
    | (refine lS (gN HF0 1) bl bh ?_))
  clear hw1 hg1;refine mB HF2.out (HCK.out _ g1 31 (HF2.out.get 3 rfl)) fun w3 HF4=>?_;go_upto_region 5 with (fail);refine wrf [.p,.p,.p,.p,.p,.p,.p,.p,.p,.p,.p,.p,.p,.p,.p,.p,.p,.p,.p,.p,.p,.p,.p,.p,.a 0,.p,.p,.p,.p,.a 1,.a 2,.c 0,.c 1] [31,32] [(24,217,fun _=>#[.bool t00,.int .u64 x00,.int .u64 y00,.bool t01,.int .u64 x01,.int .u64 y01,.bool t10,.int .u64 x10,.int .u64 y10,.bool t11,.int .u64 x11,.int .u64 y11]),(29,217,fun k=>(if k≤0 then #[.bool false,.int .u64 0,.int .u64 0] else #[.bool tl,.int .u64 xl,.int .u64 yl])),(30,217,fun k=>(if k≤1 then #[.bool false,.int .u64 0,.int .u64 0] else #[.bool th,.int .u64 xh,.int .u64 yh]))] (fun _=>[]) (fun _=>_) (fun ix u _=>match ix with
      | 0=>u=.func (.func 137) #[] #[]
      | 1=>u=.pointer (some ⟨qb,0,none⟩)
      | 2=>u=.int .i64 al
      | 3=>u=.pointer (some ⟨qb+1,0,none⟩)
      | 4=>u=.int .i64 bl
      | 5=>u=.agg #[.bool t00,.int .u64 x00,.int .u64 y00]
      | 6=>u=.func (.func 137) #[] #[]
      | 7=>u=.pointer (some ⟨qb,0,none⟩)
      | 8=>u=.int .i64 al
      | 9=>u=.pointer (some ⟨qb+1,1,none⟩)
      | 10=>u=.int .i64 bh
      | 11=>u=.agg #[.bool t01,.int .u64 x01,.int .u64 y01]
      | 12=>u=.func (.func 137) #[] #[]
      | 13=>u=.pointer (some ⟨qb,1,none⟩)
      | 14=>u=.int .i64 ah
      | 15=>u=.pointer (some ⟨qb+1,0,none⟩)
      | 16=>u=.int .i64 bl
      | 17=>u=.agg #[.bool t10,.int .u64 x10,.int .u64 y10]
      | 18=>u=.func (.func 137) #[] #[]
      | 19=>u=.pointer (some ⟨qb,1,none⟩)
      | 20=>u=.int .i64 ah
      | 21=>u=.pointer (some ⟨qb+1,1,none⟩)
      | 22=>u=.int .i64 bh
      | 23=>u=.agg #[.bool t11,.int .u64 x11,.int .u64 y11]
      | 24=>u=.slice (some ⟨gOf u,0,none⟩) 4 4
      | 25=>u=.tuple #[.agg #[.bool tl,.int .u64 xl,.int .u64 yl],.agg #[.bool th,.int .u64 xh,.int .u64 yh]]
      | 26=>u=.tuple #[.agg #[.bool tl,.int .u64 xl,.int .u64 yl],.agg #[.bool th,.int .u64 xh,.int .u64 yh]]
      | 27=>u=.agg #[.bool tl,.int .u64 xl,.int .u64 yl]
      | 28=>u=.agg #[.bool th,.int .u64 xh,.int .u64 yh]
      | 29=>u=.pointer (some ⟨gOf u,0,none⟩)
      | 30=>u=.pointer (some ⟨gOf u,0,none⟩)
      | _=>True) [24,29,30] HF4.out ?_ ?_
  ·refine ⟨?_,?_,?_,?_,?_,?_,?_,?_,?_,?_,?_,?_,?_,?_,?_,?_,?_,?_,?_,?_,?_,?_,?_,?_,?_,?_,?_,?_,?_,?_,?_,?_,?_,trivial⟩
   all_goals intro a w1 vs dn k K S hpre KE DE kk
   ·have e7:=KE 7;go_simp;exact kk _ _
   ·have e2:=KE 2;go_simp;exact kk _ _
   ·have e25:=dep (DE 1 25);have ca:w1.cell? ⟨qb,0,none⟩=some (.int .i64 al):=(S.fr.left.get 0 rfl).cell 0;go_simp;exact kk _ _
   ·have e3:=KE 3;go_simp;exact kk _ _
   ·have e27:=dep (DE 3 27);have ca:w1.cell? ⟨qb+1,0,none⟩=some (.int .i64 bl):=(S.fr.left.get 1 rfl).cell 0;go_simp;exact kk _ _
   ·have e24:=dep (DE 0 24);have e26:=dep (DE 2 26);have e28:=dep (DE 4 28);exact wpo_callV 137 (.tmp 24) _ _ rfl (by simpa [Act.eval] using e24) #[.int .i64 al,.int .i64 bl] (by simp [Act.eval,e26,e28]) (fun args w=>by kernel_rfl)
     ((HM00.out w1).mono fun e w' ⟨he,hb⟩=>⟨_,he,kk _ _ (by simp) hb⟩)
   ·have e7:=KE 7;go_simp;exact kk _ _
   ·have e2:=KE 2;go_simp;exact kk _ _
   ·have e31:=dep (DE 7 31);have ca:w1.cell? ⟨qb,0,none⟩=some (.int .i64 al):=(S.fr.left.get 0 rfl).cell 0;go_simp;exact kk _ _
   ·have e3:=KE 3;go_simp;exact kk _ _
   ·have e33:=dep (DE 9 33);have ca:w1.cell? ⟨qb+1,1,none⟩=some (.int .i64 bh):=(S.fr.left.get 1 rfl).cell 1;go_simp;exact kk _ _
   ·have e30:=dep (DE 6 30);have e32:=dep (DE 8 32);have e34:=dep (DE 10 34);exact wpo_callV 137 (.tmp 30) _ _ rfl (by simpa [Act.eval] using e30) #[.int .i64 al,.int .i64 bh] (by simp [Act.eval,e32,e34]) (fun args w=>by kernel_rfl)
     ((HM01.out w1).mono fun e w' ⟨he,hb⟩=>⟨_,he,kk _ _ (by simp) hb⟩)
   ·have e7:=KE 7;go_simp;exact kk _ _
   ·have e2:=KE 2;go_simp;exact kk _ _
   ·have e37:=dep (DE 13 37);have ca:w1.cell? ⟨qb,1,none⟩=some (.int .i64 ah):=(S.fr.left.get 0 rfl).cell 1;go_simp;exact kk _ _
   ·have e3:=KE 3;go_simp;exact kk _ _
   ·have e39:=dep (DE 15 39);have ca:w1.cell? ⟨qb+1,0,none⟩=some (.int .i64 bl):=(S.fr.left.get 1 rfl).cell 0;go_simp;exact kk _ _
   ·have e36:=dep (DE 12 36);have e38:=dep (DE 14 38);have e40:=dep (DE 16 40);exact wpo_callV 137 (.tmp 36) _ _ rfl (by simpa [Act.eval] using e36) #[.int .i64 ah,.int .i64 bl] (by simp [Act.eval,e38,e40]) (fun args w=>by kernel_rfl)
     ((HM10.out w1).mono fun e w' ⟨he,hb⟩=>⟨_,he,kk _ _ (by simp) hb⟩)
   ·have e7:=KE 7;go_simp;exact kk _ _
   ·have e2:=KE 2;go_simp;exact kk _ _
   ·have e43:=dep (DE 19 43);have ca:w1.cell? ⟨qb,1,none⟩=some (.int .i64 ah):=(S.fr.left.get 0 rfl).cell 1;go_simp;exact kk _ _
   ·have e3:=KE 3;go_simp;exact kk _ _
   ·have e45:=dep (DE 21 45);have ca:w1.cell? ⟨qb+1,1,none⟩=some (.int .i64 bh):=(S.fr.left.get 1 rfl).cell 1;go_simp;exact kk _ _
   ·have e42:=dep (DE 18 42);have e44:=dep (DE 20 44);have e46:=dep (DE 22 46);exact wpo_callV 137 (.tmp 42) _ _ rfl (by simpa [Act.eval] using e42) #[.int .i64 ah,.int .i64 bh] (by simp [Act.eval,e44,e46]) (fun args w=>by kernel_rfl)
     ((HM11.out w1).mono fun e w' ⟨he,hb⟩=>⟨_,he,kk _ _ (by simp) hb⟩)
   ·have e29:=dep (DE 5 29);have e35:=dep (DE 11 35);have e41:=dep (DE 17 41);have e47:=dep (DE 23 47);go_simp;exact kk _ _ (by simp) (S.fr.alloc rfl _ _) rfl
   ·have e48:=dep (DE 24 48);exact oE rfl (HH.out w1 _ _ (S.at 0 rfl (S.done 24 rfl))) (by simp [Act.eval,e48]) @kk
   ·have e49:=dep (DE 25 49);go_simp;exact kk _ _
   ·have e23:=dep (DE 26 23);go_simp;exact kk _ _
   ·have e23:=dep (DE 26 23);go_simp;exact kk _ _
   ·go_simp;exact kk _ _ (by simp) (by have h:=S.fr.alloc rfl 217 #[.bool false,.int .u64 0,.int .u64 0];show Fr _ _ (_ ++ [(_,217,if k≤0 then _ else _)]) _;rw [if_pos (S.hi 0 31 rfl rfl)];exact h) rfl
   ·go_simp;exact kk _ _ (by simp) (by have h:=S.fr.alloc rfl 217 #[.bool false,.int .u64 0,.int .u64 0];show Fr _ _ (_ ++ [(_,217,if k≤1 then _ else _)]) _;rw [if_pos (S.hi 1 32 rfl rfl)];exact h) rfl
   ·subst hpre;have e8:=dep (DE 29 8);have e50:=dep (DE 27 50);have HS:=Fr.done S.fr (by exact ⟨S.done 24 rfl,S.done 29 rfl,S.done 30 rfl,trivial⟩)
    exact oW (eT e8) (eT e50) (HS.get 5 rfl) i_big fun w' hk ho=>kk _ _ (by simp) (Fr.undone (HS.only 5 rfl ho hk) (by exact ⟨S.done 24 rfl,S.done 29 rfl,S.done 30 rfl,trivial⟩)) trivial
   ·subst hpre;have e9:=dep (DE 30 9);have e51:=dep (DE 28 51);have HS:=Fr.done S.fr (by exact ⟨S.done 24 rfl,S.done 29 rfl,S.done 30 rfl,trivial⟩)
    exact oW (eT e9) (eT e51) (HS.get 6 rfl) i_big fun w' hk ho=>kk _ _ (by simp) (Fr.undone (HS.only 6 rfl ho hk) (by exact ⟨S.done 24 rfl,S.done 29 rfl,S.done 30 rfl,trivial⟩)) trivial
  ·intro vs wf HFr HR;have HFr':Fr w [] [(qb,31,iC [al,ah]),(qb+1,31,iC [bl,bh]),(qb+1+1,31,iC [0,0]),(g1,31,iC [al,ah,bl,bh]),((gOf (vs 24)),217,#[.bool t00,.int .u64 x00,.int .u64 y00,.bool t01,.int .u64 x01,.int .u64 y01,.bool t10,.int .u64 x10,.int .u64 y10,.bool t11,.int .u64 x11,.int .u64 y11]),((gOf (vs 29)),217,#[.bool tl,.int .u64 xl,.int .u64 yl]),((gOf (vs 30)),217,#[.bool th,.int .u64 xh,.int .u64 yh])] wf:=HFr;have v29:vs 29=.pointer (some ⟨(gOf (vs 29)),0,none⟩):=HR 29 _ rfl;have v30:vs 30=.pointer (some ⟨(gOf (vs 30)),0,none⟩):=HR 30 _ rfl;clear HFr HR;obtain ⟨g5_24,hg5_24⟩:=eX (gOf (vs 24));obtain ⟨g5_29,hg5_29⟩:=eX (gOf (vs 29));obtain ⟨g5_30,hg5_30⟩:=eX (gOf (vs 30));rw [hg5_24,hg5_29,hg5_30] at HFr';rw [hg5_29] at v29;rw [hg5_30] at v30;clear hg5_24 hg5_29 hg5_30;have HF5:=hZ HFr';clear HFr';simp only [putAll,Act.put,List.setIfInBounds_toArray,List.set_cons_zero,List.set_cons_succ];simp only [v29,v30];clear v29 v30;obtain ⟨w5,rfl⟩:∃ u:World,u=wf:=⟨_,rfl⟩;go_wp2_with fail
   refine mB HF5.out (HONE.out _) fun w6 HF7=>?_;obtain ⟨g8,w8,hg8,hw8,HF9⟩:=fA HF7.out #[.bool false,.int .u64 0,.int .u64 0] 217;go_wp2_with (first
     | (refine lF (gN HF11 5) #[.bool tl,.int .u64 xl,.int .u64 yl] u_big i_big ?_)
     | (refine lF (gN HF11 7) #[.bool false,.int .u64 0,.int .u64 4294967296] u_big i_big ?_)
     | (refine sW 7 HF9.out i_big fun w10 HF11=>?_;clear hw8 hg8))
   refine (HD1.out _).mono ?_
   rintro e w12 ⟨tp,xp,yp,tp',xp',yp',rfl,hp,hp',hw⟩;have HF13:=hZ (HF11.out.below hw);clear hw;obtain ⟨g14,w14,hg14,hw14,HF15⟩:=fA HF13.out #[.bool false,.int .u64 0,.int .u64 0] 217;obtain ⟨g16,w16,hg16,hw16,HF17⟩:=fA HF15.out #[.bool false,.int .u64 0,.int .u64 0] 217;go_wp2_with (first
     | (refine sW 8 HF17.out i_big fun w18 HF19=>?_;clear hw14 hg14 hw16 hg16)
     | (refine lF (gN HF21 6) #[.bool th,.int .u64 xh,.int .u64 yh] u_big i_big ?_)
     | (refine lF (gN HF21 7) #[.bool false,.int .u64 0,.int .u64 4294967296] u_big i_big ?_)
     | (refine sW 9 HF19.out i_big fun w20 HF21=>?_))
   refine (HD2.out _).mono ?_
   rintro e w22 ⟨tq,xq,yq,tq',xq',yq',rfl,hq,hq',hw⟩;have HF23:=hZ (HF21.out.below hw);clear hw;obtain ⟨g24,w24,hg24,hw24,HF25⟩:=fA HF23.out #[.bool false,.int .u64 0,.int .u64 0] 217;obtain ⟨g26,w26,hg26,hw26,HF27⟩:=fA HF25.out #[.bool false,.int .u64 0,.int .u64 0] 217;have HFT:=hZ (fun w=>fit_any hp hq' (ediv32_range HZ1.out.1 HZ1.out.2).1 (ediv32_range HZ2.out.1 HZ2.out.2).2 w);unfold SpPost spanV at HFT;have HE:Hid (fitB (vl / 4294967296) (-(-vh / 4294967296))=(⟨fl,fh⟩,fe)):=hZ HFE.out;rw [HE.out] at HFT;clear hp hp' hq hq' HE;go_wp2_with (first
     | (refine sW 10 HF27.out i_big fun w28 HF29=>?_;clear hw24 hg24 hw26 hg26)
     | (refine lF (gN HF31 8) #[.bool tp,.int .u64 xp,.int .u64 yp] u_big i_big ?_)
     | (refine lF (gN HF31 11) #[.bool tq',.int .u64 xq',.int .u64 yq'] u_big i_big ?_)
     | (refine sW 11 HF29.out i_big fun w30 HF31=>?_))
   refine mB HF31.out (HFT.out _) fun w32 HF33=>?_;go_wp2_with (refine sW 2 HF33.out i_span fun w34 HF35=>?_)
   refine ret_agg2 rfl rfl rfl (HF35.out.get 2 rfl) rfl u_span rfl i_span ?_
   exact HFIN.out _ HF35.out.drop

section
variable (P:Program) (l:List Oper) (Q:Exit→Act→World→Prop) (a0:Act) (W:World) (T:Nat→(Nat→Value)→List Ent→List Ent→Prop) (A:List AEnt) (C:List Nat) (R:Nat→Value→(Nat→Value)→Prop)
structure RT (i:Nat) (dn:Nat→Bool) (vs:Nat→Value) (k:Nat) (O N:List Ent) (w:World):Prop where
 fr:Fr W O (N ++ aTab A dn vs k) w
 t:T k vs O N
 kle:k≤C.length
 hi:∀ p m,C[p]?=some m→(m == i || afterI l m i)=true→k≤p
 lo:∀ p m,C[p]?=some m→afterI l i m=true→p<k
 done:∀ j,afterI l i j=true→dn j=true
def StepT (i:Nat) (o:Oper) (pre:Nat→Prop) (post:(Nat→Bool)→(Nat→Value)→Nat→List Ent→List Ent→Value→World→World→Prop):Prop :=
 ∀ (a:Act) (w:World) (vs:Nat→Value) (dn:Nat→Bool) (k:Nat) (O N:List Ent) (K:Act→World→Prop),RT l W T A C i dn vs k O N w→pre k →
  (∀ t,keepB l i t=true→a.tmps[t]?.getD undef=a0.tmps[t]?.getD undef) →
  (∀ j oj d,l[j]?=some oj→oj.dst=some d→afterB o j=true→a.tmps[d]?.getD undef=vs j∧R j (vs j) (maskV oj vs)) →
  (∀ v w',(o.dst=none→v=undef)→post dn vs k O N v w w'→R i v (maskV o vs)→K (a.put o.dst v) w') →
  if Region.wanted o (yielded l.toArray a.tmps) then o.wp P a w K Q else K (a.put o.dst undef) w
def StepsT:List Kind→List Oper→Nat→Prop
 | .p :: ks,o :: r,i=>StepT P l Q a0 W T A C R i o (fun _=>True) (fun _ _ _ _ _ _ w w'=>Below w.heap.size w w')∧StepsT ks r (i+1)
 | .a j :: ks,o :: r,i=>StepT P l Q a0 W T A C R i o (fun _=>True) (fun dn vs k O N v _ w'=>match A[j]? with | some x=>Fr W O ((N ++ aTab A dn vs k) ++ [(gOf v,x.2.1,x.2.2 k)]) w' | none=>False)∧StepsT ks r (i+1)
 | .c s :: ks,o :: r,i=>StepT P l Q a0 W T A C R i o (fun k=>k=s) (fun dn vs _ _ _ v _ w'=>∃ O' N',T (s+1) (updV vs i v) O' N'∧Fr W O' (N' ++ aTab A dn vs (s+1)) w')∧StepsT ks r (i+1)
 | [],[],_=>True
 | _,_,_=>False
end
section
variable {P:Program} {l:List Oper} {Q:Exit→Act→World→Prop} {a0:Act} {W:World} {T:Nat→(Nat→Value)→List Ent→List Ent→Prop} {A:List AEnt} {C:List Nat} {R:Nat→Value→(Nat→Value)→Prop}
theorem rt_of {i:Nat} {o:Oper} (hio:l[i]?=some o) {dn:Nat→Bool} {vs:Nat→Value} {k:Nat} {O N:List Ent} {w:World} (hb:∀ m,dn m=true→i ≠ m∧ancB l l.length m i=false) (hb2:∀ j,afterB o j=true→dn j=true)
  (hk:k≤C.length) (hc:∀ p m,C[p]?=some m→dn m=decide (p<k)) (ht:T k vs O N) (hf:Fr W O (N ++ aTab A dn vs k) w):RT l W T A C i dn vs k O N w:=by
 have h:=rs_of (W:=W) (O:=fun _=>O) (N:=fun _=>N) (A:=A) (C:=C) hio hb hb2 hk hc hf;exact ⟨hf,ht,hk,h.hi,h.lo,h.done⟩
theorem StepsT.ok (hT:∀ k vs vs' O N,(∀ i ∈ C,vs' i=vs i)→T k vs O N→T k vs' O N) (hch:chainOk l C=true) (hAn:(A.map (·.1)).Nodup):∀ (ks:List Kind) (r:List Oper) (i:Nat),(∀ j o,r[j]?=some o→l[i+j]?=some o)→kindOk l C (A.map (·.1)) ks i=true→StepsT P l Q a0 W T A C R ks r i →
  ∀ j o,r[j]?=some o→StepOkJ P l Q a0 (fun dn vs w=>∃ k O N,k≤C.length∧(∀ p m,C[p]?=some m→dn m=decide (p<k))∧T k vs O N∧Fr W O (N ++ aTab A dn vs k) w) (fun _ _ _=>True) (fun i v d _=>R i v d) (i+j) o
 | ks,[],i,_,_,_,j,o,ho=>by simp at ho
 | [],o :: r,i,_,_,hs,_,_,_=>by simp [StepsT] at hs
 | kd :: ks,o :: r,i,hl,hk,hs,j+1,x,hx=>by
  rw [show i+(j+1)=i+1+j from by omega]
  have hl':∀ j o,r[j]?=some o→l[i+1+j]?=some o:=fun j o' h=>by have:=hl (j+1) o' (by simpa using h);rwa [show i+(j+1)=i+1+j from by omega] at this
  cases kd with
  | p=>unfold kindOk at hk;unfold StepsT at hs;rw [Bool.and_eq_true] at hk;exact StepsT.ok hT hch hAn ks r (i+1) hl' hk.2 hs.2 j x (by simpa using hx)
  | a q=>unfold kindOk at hk;unfold StepsT at hs;rw [Bool.and_eq_true] at hk;exact StepsT.ok hT hch hAn ks r (i+1) hl' hk.2 hs.2 j x (by simpa using hx)
  | c q=>unfold kindOk at hk;unfold StepsT at hs;rw [Bool.and_eq_true] at hk;exact StepsT.ok hT hch hAn ks r (i+1) hl' hk.2 hs.2 j x (by simpa using hx)
 | kd :: ks,o :: r,i,hl,hk,hs,0,x,hx=>by
  simp at hx
  subst hx;have hio:l[i]?=some o:=hl 0 o rfl;rw [Nat.add_zero];intro a w vs K dn hb hb2 hJ hkp hd _ hK;obtain ⟨k,O,N,hkl,hc,ht,hf⟩:=hJ;have hrs:=rt_of (T:=T) hio hb hb2 hkl hc ht hf;have hdi:dn i=false:=by
   cases e:dn i with
   | false=>rfl
   | true=>exact absurd rfl (hb i e).1
  have hTn:∀ v,i ∉ C→T k (updV vs i v) O N:=fun v hn=>hT k vs _ O N (fun q hq=>by unfold updV;rw [if_neg (fun e=>hn (by rw [← e];exact hq))]) ht
  cases kd with
  | p =>
   unfold kindOk at hk;unfold StepsT at hs;simp only [Bool.and_eq_true,Bool.not_eq_true',List.contains_eq_mem,decide_eq_false_iff_not] at hk;refine hs.1 a w vs dn k O N K hrs trivial hkp hd fun v w' h1 h2 h3=>hK v w' h1 ⟨k,O,N,hkl,fun p m hm=>?_,hTn v hk.1.1,?_⟩ trivial h3
   ·unfold updB;rw [if_neg (fun e:m=i=>hk.1.1 (by rw [← e];exact List.mem_of_getElem? hm)),hc p m hm]
   ·rw [aTab_same (fun x hx e=>hk.1.2 (List.mem_map.2 ⟨x,hx,e⟩))];exact hf.below h2
  | a q =>
   unfold kindOk at hk;unfold StepsT at hs;simp only [Bool.and_eq_true,Bool.not_eq_true',List.contains_eq_mem,decide_eq_false_iff_not,beq_iff_eq] at hk;refine hs.1 a w vs dn k O N K hrs trivial hkp hd fun v w' h1 h2 h3=>hK v w' h1 ⟨k,O,N,hkl,fun p m hm=>?_,hTn v hk.1.2,?_⟩ trivial h3
   ·unfold updB;rw [if_neg (fun e:m=i=>hk.1.2 (by rw [← e];exact List.mem_of_getElem? hm)),hc p m hm]
   ·rw [List.getElem?_map,Option.map_eq_some_iff] at hk;obtain ⟨y,hy,hyi⟩:=hk.1.1;rw [hy] at h2;refine h2.perm ?_
    rw [List.append_assoc];exact (aTab_more hdi hAn hy hyi).append_left _
  | c s =>
   unfold kindOk at hk;unfold StepsT at hs;simp only [Bool.and_eq_true,Bool.not_eq_true',List.contains_eq_mem,decide_eq_false_iff_not,beq_iff_eq,Bool.or_eq_true] at hk;obtain ⟨⟨⟨hcs,hna⟩,hprev⟩,_⟩:=hk;have hks:k=s:=by
    have h1:=hrs.hi s i hcs (by simp)
    rcases hprev with h | h
    ·omega
    ·cases e:C[s - 1]? with
     | none=>rw [e] at h;cases h
     | some m=>rw [e] at h;have:=hrs.lo (s - 1) m e h;omega
   subst hks;refine hs.1 a w vs dn k O N K hrs rfl hkp hd fun v w' h1 h2 h3=>?_
   obtain ⟨O',N',h2t,h2⟩:=h2;refine hK v w' h1 ⟨k+1,O',N',(List.getElem?_eq_some_iff.1 hcs).1,fun p m hm=>?_,h2t,?_⟩ trivial h3
   ·unfold updB;by_cases hmi:m=i
    ·rw [if_pos hmi];have:p=k:=by
      unfold chainOk at hch;rw [List.all_eq_true] at hch;have hpl:=(List.getElem?_eq_some_iff.1 hm).1;have h4:=hch k (List.mem_range.2 (List.getElem?_eq_some_iff.1 hcs).1);rw [hcs] at h4;simp only [Bool.and_eq_true,List.all_eq_true] at h4;have h5:=h4.2 p (List.mem_range.2 hpl);rw [hm,hmi] at h5;simp at h5
      exact h5.symm
     subst this;simp
    ·rw [if_neg hmi,hc p m hm];have:p ≠ k:=fun e=>hmi (by subst e;rw [hcs] at hm;exact (Option.some.inj hm).symm)
     by_cases g:p<k
     ·rw [decide_eq_true g,decide_eq_true (by omega)]
     ·rw [decide_eq_false g,decide_eq_false (by omega)]
   ·rw [aTab_same (fun x hx e=>hna (List.mem_map.2 ⟨x,hx,e⟩))];exact h2
theorem any_ft {w0:World} (ks:List Kind) (C:List Nat) (A:List AEnt) (W:World) (T:Nat→(Nat→Value)→List Ent→List Ent→Prop) (R:Nat→Value→(Nat→Value)→Prop) (hB:regB l a0.tmps.size=true) (hch:chainOk l C=true) (AL:List Nat) (hAL:A.map (·.1)=AL) (hAn:AL.Nodup) (hAr:(AL.all fun i=>decide (i<l.length))=true)
  (hk:kindOk l C AL ks 0=true) (hT:∀ k vs vs' O N,(∀ i ∈ C,vs' i=vs i)→T k vs O N→T k vs' O N) {O0 N0:List Ent} (h0:Fr W O0 N0 w0) (hT0:∀ vs,T 0 vs O0 N0) (hs:StepsT P l Q a0 W T A C R ks l 0)
  (hend:∀ (vs:Nat→Value) (w:World) (O N:List Ent),T C.length vs O N→Fr W O (N ++ aAll A vs C.length) w→(∀ i o,l[i]?=some o→R i (vs i) (maskV o vs))→Q .normal (putAll l vs 0 a0) w) :
  anyW P l.toArray Q l.toArray.size (Array.replicate l.toArray.size false) a0 w0.drew:=by
 subst hAL;refine any_stepsJ hB (fun dn vs w=>∃ k O N,k≤C.length∧(∀ p m,C[p]?=some m→dn m=decide (p<k))∧T k vs O N∧Fr W O (N ++ aTab A dn vs k) w) (fun _ _ _=>True) (fun i v d _=>R i v d) ?_ (fun _ _ _ _ _ _ _ _ h _=>h)
  (StepsOkJ.of l 0 fun i o hi=>?_) ?_
 ·intro vs;refine ⟨0,O0,N0,Nat.zero_le _,fun p m _=>by simp,hT0 vs,?_⟩
  have e:aTab A (fun _=>false) vs 0=[]:=by unfold aTab;rw [List.filter_eq_nil_iff.2 (fun _ _=>by simp)];rfl
  rw [e,List.append_nil];exact h0.drew
 ·exact StepsT.ok hT hch hAn ks l 0 (fun j o h=>by rw [Nat.zero_add];exact h) hk hs i o hi
 ·intro vs dn w hall ⟨k,O,N,hkl,hc,ht,hf⟩ hr;have hkC:k=C.length:=by
   rcases Nat.lt_or_ge k C.length with g | g
   ·exfalso
    have hm:=List.getElem?_eq_getElem g;have h1:=hc k _ hm;unfold chainOk at hch;rw [List.all_eq_true] at hch;have h4:=hch k (List.mem_range.2 g);rw [hm] at h4;simp only [Bool.and_eq_true,decide_eq_true_eq] at h4;rw [hall _ h4.1] at h1;simp at h1
   ·omega
  subst hkC;have e:aTab A dn vs C.length=aAll A vs C.length:=by
   refine aTab_all fun x hx=>hall _ ?_
   rw [List.all_eq_true] at hAr;have:=hAr x.1 (List.mem_map.2 ⟨x,hx,rfl⟩)
   simpa using this
  rw [e] at hf;exact hend vs w O N ht hf hr
theorem wp_region_ft {id:Nat} {w0:World} (ks:List Kind) (C:List Nat) (A:List AEnt) (W:World) (T:Nat→(Nat→Value)→List Ent→List Ent→Prop) (R:Nat→Value→(Nat→Value)→Prop) (hm:P.follows .mixedOrders=true) (hB:regB l a0.tmps.size=true) (hch:chainOk l C=true) (AL:List Nat) (hAL:A.map (·.1)=AL) (hAn:AL.Nodup) (hAr:(AL.all fun i=>decide (i<l.length))=true)
  (hk:kindOk l C AL ks 0=true) (hT:∀ k vs vs' O N,(∀ i ∈ C,vs' i=vs i)→T k vs O N→T k vs' O N) {O0 N0:List Ent} (h0:Fr W O0 N0 w0) (hT0:∀ vs,T 0 vs O0 N0) (hs:StepsT P l Q a0 W T A C R ks l 0)
  (hend:∀ (vs:Nat→Value) (w:World) (O N:List Ent),T C.length vs O N→Fr W O (N ++ aAll A vs C.length) w→(∀ i o,l[i]?=some o→R i (vs i) (maskV o vs))→Q .normal (putAll l vs 0 a0) w) :
  (Code.region id l.toArray true).wp P Q a0 w0 :=
 wp_region_any hm (any_ft ks C A W T R hB hch AL hAL hAn hAr hk hT h0 hT0 hs hend).any
theorem RT.at {i:Nat} {dn:Nat→Bool} {vs:Nat→Value} {k:Nat} {O N:List Ent} {w:World} (h:RT l W T A C i dn vs k O N w) (j:Nat) {x:AEnt} (hj:A[j]?=some x) (hd:dn x.1=true):Bk w (gOf (vs x.1)) x.2.1 (x.2.2 k):=by
 refine (h.fr.new (gOf (vs x.1),x.2.1,x.2.2 k) (List.mem_append_right _ ?_)).2
 unfold aTab;exact List.mem_map.2 ⟨x,List.mem_filter.2 ⟨List.mem_of_getElem? hj,hd⟩,rfl⟩
end
/-! A list that grows, in a table. -/
def lstE (e:TypeId) (v:Value) (cur:Array Value):List Ent:=match v with | .slice (some p) _ _=>[(p.block,e,cur)] | _=>[]
def LstAt (sz:Nat) (v:Value) (cur:Array Value) (n:Nat) (xs:List Value):Prop :=
 xs.length=n * sz∧((v=.slice none 0 0∧n=0) ∨ ∃ g cap,v=.slice (some ⟨g,0,none⟩) n cap∧n≤cap∧cap≤maxLen∧cur.size=cap * sz∧cur.toList.take (n * sz)=xs)
theorem LstAt.nil (sz:Nat):LstAt sz (.slice none 0 0) #[] 0 []:=⟨by simp,.inl ⟨rfl,rfl⟩⟩
theorem Fr.grown {W w w':World} {O N Y:List Ent} {e:TypeId} {v v':Value} {cur cur':Array Value} (h:Fr W O (N ++ (lstE e v cur ++ Y)) w) (hg:w.grownBy w' v.ownBlock)
  (h':(v'=.slice none 0 0∧v=.slice none 0 0) ∨ ∃ g n c,v'=.slice (some ⟨g,0,none⟩) n c∧Bk w' g e cur'∧(v.ownBlock=some g ∨ w.heap.size≤g)) (hv:v=.slice none 0 0 ∨ ∃ g n c,v=.slice (some ⟨g,0,none⟩) n c):Fr W O (N ++ (lstE e v' cur' ++ Y)) w':=by
 have hof:∀ g,v.ownBlock=some g→(g,e,cur) ∈ lstE e v cur:=fun g hgv=>by
  rcases hv with rfl | ⟨g',n,c,rfl⟩
  ·simp [Value.ownBlock] at hgv
  ·simp [Value.ownBlock] at hgv;subst hgv;simp [lstE]
 have hofW:∀ g,v.ownBlock=some g→W.heap.size≤g:=fun g hgv=>(h.new _ (List.mem_append_right _ (List.mem_append_left _ (hof g hgv)))).1;have keep:∀ x ∈ N ++ Y,Bk w' x.1 x.2.1 x.2.2:=fun x hx=>by
  have hxm:x ∈ N ++ (lstE e v cur ++ Y):=by
   rcases List.mem_append.1 hx with hx | hx
   ·exact List.mem_append_left _ hx
   ·exact List.mem_append_right _ (List.mem_append_right _ hx)
  have hb:=(h.new x hxm).2;refine (hg.block x.1 hb.lt fun ee=>?_).trans hb
  have hm:=hof x.1 ee.symm;have hnd:=h.ndN;rw [List.map_append,List.map_append] at hnd;have hperm:(N.map (·.1) ++ ((lstE e v cur).map (·.1) ++ Y.map (·.1))).Perm ((lstE e v cur).map (·.1) ++ (N ++ Y).map (·.1)):=by
   rw [List.map_append,← List.append_assoc,← List.append_assoc];exact List.perm_append_comm.append_right _
  rw [hperm.nodup_iff,List.nodup_append] at hnd;exact hnd.2.2 x.1 (List.mem_map.2 ⟨_,hm,rfl⟩) x.1 (List.mem_map.2 ⟨x,hx,rfl⟩) rfl
 have hsub:(N ++ Y).Sublist (N ++ (lstE e v cur ++ Y)):=(List.sublist_append_right _ _).append_left _;have h0:=h.sub hsub;refine ⟨hg.os.trans h.os,hg.tape.trans h.tape,hg.output.trans h.output,Nat.le_trans h.size hg.size,fun c hc hx=>?_,fun x hx=>⟨(h.old x hx).1,?_⟩,fun x hx=>?_,h.ndO,?_⟩
 ·exact (hg.block c (Nat.lt_of_lt_of_le hc h.size) (fun ee=>by have:=hofW c ee.symm;omega)).trans (h.far c hc hx)
 ·exact (hg.block x.1 (h.old x hx).2.lt (fun ee=>by have:=hofW x.1 ee.symm;have:=(h.old x hx).1;omega)).trans (h.old x hx).2
 ·rcases List.mem_append.1 hx with h1 | h1
  ·exact ⟨(h0.new x (List.mem_append_left _ h1)).1,keep x (List.mem_append_left _ h1)⟩
  ·rcases List.mem_append.1 h1 with h1 | h1
   ·rcases h' with ⟨rfl,rfl⟩ | ⟨g,n,c,rfl,hbk,hgw⟩
    ·simp [lstE] at h1
    ·simp [lstE] at h1
     subst h1;refine ⟨?_,hbk⟩
     rcases hgw with hgw | hgw
     ·exact hofW g hgw
     ·exact Nat.le_trans h.size hgw
   ·exact ⟨(h0.new x (List.mem_append_right _ h1)).1,keep x (List.mem_append_right _ h1)⟩
 ·rcases h' with ⟨rfl,rfl⟩ | ⟨g,n,c,rfl,hbk,hgw⟩
  ·have:lstE e (.slice none 0 0) cur'=lstE e (.slice none 0 0) cur:=rfl
   rw [this];exact h.ndN
  ·have hperm:((N ++ (lstE e (.slice (some ⟨g,0,none⟩) n c) cur' ++ Y)).map (·.1)).Perm (g :: (N ++ Y).map (·.1)):=by
    simp only [lstE,List.map_append,List.map_cons,List.map_nil];exact List.perm_middle
   rw [hperm.nodup_iff,List.nodup_cons];refine ⟨fun hm=>?_,h0.ndN⟩
   obtain ⟨x,hx,hxg⟩:=List.mem_map.1 hm;rcases hgw with hgw | hgw
   ·have hm2:=hof g hgw;have hnd:=h.ndN;have hperm2:((N ++ (lstE e v cur ++ Y)).map (·.1)).Perm ((lstE e v cur).map (·.1) ++ (N ++ Y).map (·.1)):=by
     rw [List.map_append,List.map_append,List.map_append,← List.append_assoc,← List.append_assoc];exact List.perm_append_comm.append_right _
    rw [hperm2.nodup_iff,List.nodup_append] at hnd;exact hnd.2.2 g (List.mem_map.2 ⟨_,hm2,rfl⟩) g (List.mem_map.2 ⟨x,hx,hxg⟩) rfl
   ·have:=(h0.new x hx).2.lt
    have hxg':x.1=g:=hxg;omega
theorem run_push {P:Program} {W w:World} {O N Y:List Ent} {e:TypeId} {sz bytes:Nat} {v z:Value} {cur:Array Value} {n:Nat} {xs:List Value} (hf:Fr W O (N ++ (lstE e v cur ++ Y)) w) (hl:LstAt sz v cur n xs)
  (t ty:TypeId) (ht:P.underlying t=some (.slice e)) (hinf:(P.info? e).map (fun i=>(i.zero,i.size,i.bytes))=some (some z,sz,bytes)) (hzs:z.cells.size=sz) (hsz:0<sz) (hby:bytes≤4096) (hn:n≤65536)
  (ad:Addr) (c:Nat) (news:List Value) (hnl:news.length=sz) (hnews:∀ j u,news[j]?=some u→w.cell? (ad.add j)=some u) (h1:∀ u ∈ news,u.oneCell'=true) :
  ∃ v' w' cur',(Builtin.append_ #[t,t] ty #[v,.slice (some ad) 1 c]).run P w=.ok v' w'∧LstAt sz v' cur' (n+1) (xs ++ news)∧Fr W O (N ++ (lstE e v' cur' ++ Y)) w':=by
 obtain ⟨i,hi,hz,hk,hb⟩:=info_parts hinf;have hmul:(n+1) * bytes≤140737488355328:=Nat.le_trans (Nat.mul_le_mul (show n+1≤65537 by omega) hby) (by decide)
 have hv:v=.slice none 0 0 ∨ ∃ g n c,v=.slice (some ⟨g,0,none⟩) n c:=by
  rcases hl.2 with h | ⟨g,cap,h,_⟩
  ·exact .inl h.1
  ·exact .inr ⟨g,n,cap,h⟩
 rcases hl.2 with ⟨rfl,rfl⟩ | ⟨g0,cap0,rfl,q2,q3,q4,q5⟩
 ·have hx:xs=[]:=List.eq_nil_of_length_eq_zero (by simpa using hl.1)
  subst hx;obtain ⟨v',w',hr,a1,a2,a3⟩:=run_append_own (P:=P) w w.heap.size t ty e i z sz bytes ht hi hz hk hb hzs hsz _ 0 [] (World.ownsRow_nil w _ e sz) ad 1 c news (by omega) hnews h1 (by unfold maxLen;omega) hmul (Nat.le_refl _)
  rcases a1.2 with ⟨_,h0⟩ | ⟨g,cap,cur',rfl,hge,hg,h2,h3,h4,h5⟩
  ·omega
  ·exact ⟨_,w',cur',hr,⟨a1.1,.inr ⟨g,cap,rfl,h2,h3,h4,h5⟩⟩,hf.grown a2 (.inr ⟨g,_,_,rfl,hg,.inr hge⟩) hv⟩
 ·have hbk:=(hf.new (g0,e,cur) (List.mem_append_right _ (List.mem_append_left _ (by simp [lstE])))).2
  have hown:w.ownsRow 0 e sz (.slice (some ⟨g0,0,none⟩) n cap0) n xs:=⟨hl.1,.inr ⟨g0,cap0,cur,rfl,Nat.zero_le _,hbk,q2,q3,q4,q5⟩⟩;by_cases hroom:n+1≤cap0
  ·obtain ⟨w',hr,a1,a2⟩:=run_append_fits (P:=P) w 0 t ty e i sz ht hi hk g0 n cap0 xs hown ad 1 c news (by omega) hnews h1 hroom
   rcases a1.2 with ⟨h0,_⟩ | ⟨g,cap,cur',h0,_,hg,h2,h3,h4,h5⟩
   ·cases h0
   ·injection h0 with e1 e2 e3
    injection e1 with e1
    injection e1 with e1
    subst e1 e3;exact ⟨_,w',cur',hr,⟨a1.1,.inr ⟨g0,cap0,rfl,h2,h3,h4,h5⟩⟩,hf.grown a2 (.inr ⟨g0,_,_,rfl,hg,.inl rfl⟩) hv⟩
  ·subst hk hb;have hr:=run_append_grow (P:=P) w t ty e i z ht hi hz ⟨g0,0,none⟩ n cap0 xs hl.1 (hown.cells (g:=g0) rfl) ad 1 c news (by omega) hnews (by omega) (by omega) (growslice_fits (by omega) hmul)
   refine ⟨_,_,_,hr,?_,hf.grown (v:=.slice (some ⟨g0,0,none⟩) n cap0) ⟨rfl,rfl,rfl,by simp,fun k hk _=>by first | exact heap_alloc_old w.drew _ hk | exact heap_alloc_old w.drew _ _ hk⟩ (.inr ⟨w.heap.size,_,_,rfl,Bk.new w.drew _ _,.inr (Nat.le_refl _)⟩) hv⟩
   have hge:=grownCap_ge w (n+1) cap0 e;have hlen:(xs ++ news).length=(n+1) * i.size:=by rw [List.length_append,hl.1,hnl,Nat.add_mul];omega
   refine ⟨hlen,.inr ⟨_,_,rfl,hge,grownCap_le_maxLen w (n+1) cap0 e (by unfold maxLen;omega),?_,?_⟩⟩
   ·simp only [Array.size_append,List.size_toArray,size_zeroCells,hzs,hl.1,hnl];have:n * i.size+i.size=(n+1) * i.size:=by rw [Nat.add_mul];omega
    rw [this,← Nat.add_mul];congr 1
    omega
   ·simp only [Array.toList_append,List.append_assoc];rw [← List.append_assoc,← hlen];exact List.take_left
section
variable {P:Program} {W w:World} {O N Y:List Ent} {e:TypeId} {sz bytes:Nat} {v z:Value} {cur:Array Value} {n:Nat} {xs:List Value}
theorem wpo_push {o:Oper} {a:Act} {K:Act→World→Prop} {Q:Exit→Act→World→Prop} (s x:Operand) (t:TypeId) (ho:o.op=.call { callee:=.builtin .append,args:=#[s,x],argTypes:=#[t,t] })
  (hf:Fr W O (N ++ (lstE e v cur ++ Y)) w) (hl:LstAt sz v cur n xs) (ht:P.underlying t=some (.slice e)) (hinf:(P.info? e).map (fun i=>(i.zero,i.size,i.bytes))=some (some z,sz,bytes)) (hzs:z.cells.size=sz) (hsz:0<sz) (hby:bytes≤4096) (hn:n≤65536)
  (g:Nat) (c:Nat) (cs:Array Value) (t':TypeId) (hs:a.eval s=v) (hx:a.eval x=.slice (some ⟨g,0,none⟩) 1 c) (hk:Bk w g t' cs) (hcs:cs.size=sz) (h1:(cs.toList.all fun u=>u.oneCell')=true)
  (h:∀ v' w' cur',LstAt sz v' cur' (n+1) (xs ++ cs.toList)→Fr W O (N ++ (lstE e v' cur' ++ Y)) w'→K (a.put o.dst v') w'):o.wp P a w K Q:=by
 obtain ⟨v',w',cur',hr,h2,h3⟩:=run_push (P:=P) hf hl t o.type ht hinf hzs hsz hby hn ⟨g,0,none⟩ c cs.toList (by simpa using hcs) (fun j u hj=>by rw [Addr.add_lit,Nat.zero_add,hk.cell,← Array.getElem?_toList];exact hj) (one_all h1)
 unfold Oper.wp execOp;simp only [ho,resolve,invoke,builtin,Sem.run_bind,Sem.run_pure,Result.andThen_ok,List.map_toArray,List.map_cons,List.map_nil,hs,hx,hr];exact h v' w' cur' h2 h3
theorem wpList_push {ops:Array Oper} {rest:List Oper} {o:Oper} {a:Act} {Q:Exit→Act→World→Prop} (hgd:o.guard=none) (s x:Operand) (t:TypeId) (ho:o.op=.call { callee:=.builtin .append,args:=#[s,x],argTypes:=#[t,t] })
  (hf:Fr W O (N ++ (lstE e v cur ++ Y)) w) (hl:LstAt sz v cur n xs) (ht:P.underlying t=some (.slice e)) (hinf:(P.info? e).map (fun i=>(i.zero,i.size,i.bytes))=some (some z,sz,bytes)) (hzs:z.cells.size=sz) (hsz:0<sz) (hby:bytes≤4096) (hn:n≤65536)
  (g:Nat) (c:Nat) (cs:Array Value) (t':TypeId) (hs:a.eval s=v) (hx:a.eval x=.slice (some ⟨g,0,none⟩) 1 c) (hk:Bk w g t' cs) (hcs:cs.size=sz) (h1:(cs.toList.all fun u=>u.oneCell')=true)
  (h:∀ v' w' cur',LstAt sz v' cur' (n+1) (xs ++ cs.toList)→Fr W O (N ++ (lstE e v' cur' ++ Y)) w'→wpList P ops Q rest (a.put o.dst v') w'):wpList P ops Q (o :: rest) a w :=
 wpList_plain hgd fun _ hK=>wpo_push s x t ho hf hl ht hinf hzs hsz hby hn g c cs t' hs hx hk hcs h1 fun v' w' cur' h2 h3=>hK _ _ (h v' w' cur' h2 h3)
end
theorem Fr.allocM {W w:World} {O N T:List Ent} (h:Fr W O (N ++ T) w) {g:Nat} (hg:g=w.heap.size) (t:TypeId) (cs:Array Value):Fr W O ((N ++ [(g,t,cs)]) ++ T) (w.alloc (.cells cs t)):=by
 refine (h.alloc hg t cs).perm ?_
 rw [List.append_assoc,List.append_assoc];exact List.perm_append_comm.append_left _
end Go.Proofs.YtmkoegljnebdiaaGreat
