/- What is proved: the texts F Dv G H I J K L M N O P S T V, one behind the other; each says at its head what it proves, and under which conditions. -/
import Derived.RegionTactic
import Derived.ChangeAlike
import Derived.BigRegion
import Derived.Lib.BitFns
import Derived.Lib.ItoaNum
import Derived.Laws.Bits64b
import Derived.Deep.CutBlock
import Derived.Deep.CutRange
import Derived.Deep.QuietTactic
import Derived.Test.YtmkoegljnebdiaaGreatdPLands1
namespace Go.Proofs.YtmkoegljnebdiaaGreat
open Go.RowKit
set_option maxRecDepth 100000
set_option maxHeartbeats 16000000

/-- n bigs at A, with the values v 0, v 1, .. -/
def BigsAt (w:World) (B:Nat) (A:Option Addr) (n:Nat) (v:Nat→Int):Prop :=
 ∃ f:Nat→Nat→Value,Sl w B 3 A n f∧∀ i,i<n→(∃ b h l,f i 0=.bool b∧f i 1=.int .u64 h∧f i 2=.int .u64 l)∧IsBig (.agg #[f i 0,f i 1,f i 2]) (v i)
def minK (v:Nat→Int):Nat→Int
 | 0=>v 0
 | k+1=>min (minK v k) (v (k+1))
def maxK (v:Nat→Int):Nat→Int
 | 0=>v 0
 | k+1=>max (maxK v k) (v (k+1))
theorem BigsAt.below {w w':World} {B n:Nat} {A:Option Addr} {v:Nat→Int} (h:BigsAt w B A n v) (hb:Below B w w'):BigsAt w' B A n v:=by
 obtain ⟨f,h1,h2⟩:=h
 exact ⟨f,h1.below hb,h2⟩
/-- The three cells of one of them. -/
theorem BigsAt.at3 {w:World} {B n:Nat} {A:Option Addr} {v:Nat→Int} (h:BigsAt w B A n v) {i:Nat} (hi:i<n):∃ b off,A=some ⟨b,off,none⟩∧b<B ∧
  ∃ t x y,w.cell? ⟨b,off+i * 3,none⟩=some (.bool t)∧w.cell? ⟨b,off+i * 3+1,none⟩=some (.int .u64 x)∧w.cell? ⟨b,off+i * 3+2,none⟩=some (.int .u64 y)∧IsBig (.agg #[.bool t,.int .u64 x,.int .u64 y]) (v i):=by
 obtain ⟨f,h1,h2⟩:=h
 obtain ⟨b,off,e,hb,hc⟩:=h1.2 (by omega)
 obtain ⟨⟨t,x,y,e0,e1,e2⟩,hv⟩:=h2 i hi
 refine ⟨b,off,e,hb,t,x,y,?_,?_,?_,?_⟩
 ·rw [← e0];exact hc i hi 0 (by omega)
 ·rw [← e1];exact hc i hi 1 (by omega)
 ·rw [← e2];exact hc i hi 2 (by omega)
 ·rw [e0,e1,e2] at hv;exact hv
/-- The post of hull. -/
def HulPost (a b:Int) (B:Nat) (w:World) (e:Ending) (w':World):Prop:=∃ x y,e=.returned (.tuple #[x,y])∧IsBig x a∧IsBig y b∧Below B w w'
/-- A return of two bigs in their cells. -/
theorem ret_big2 {fn:Func} {p q:Tmp} (h:fn.results=#[.cell p 217,.cell q 217]) {a:Act} (ha:a.defers=[]) {w:World} {g g':Nat} {n n':Bool} {hi lo hi' lo':Int} {Q:Ending→World→Prop}
  (hp:a.tmps.getD p undef=.pointer (some ⟨g,0,none⟩)) (hq:a.tmps.getD q undef=.pointer (some ⟨g',0,none⟩)) (hk:Bk w g 217 #[.bool n,.int .u64 hi,.int .u64 lo]) (hk':Bk w g' 217 #[.bool n',.int .u64 hi',.int .u64 lo'])
  (hQ:Q (.returned (.tuple #[.agg #[.bool n,.int .u64 hi,.int .u64 lo],.agg #[.bool n',.int .u64 hi',.int .u64 lo']])) w):bodyPost Tryz.prog fn Q .ret a w:=by
 refine bodyPost_ret (v:=.tuple #[.agg #[.bool n,.int .u64 hi,.int .u64 lo],.agg #[.bool n',.int .u64 hi',.int .u64 lo']]) ?_ ha hQ
 have hl:=run_loadVar_at (P:=Tryz.prog) w g 0 217 #[.bool n,.int .u64 hi,.int .u64 lo] _ (fun j v hj=>by rw [Nat.zero_add,hk.cell];exact hj) und_big rfl info_big
 have hl':=run_loadVar_at (P:=Tryz.prog) w g' 0 217 #[.bool n',.int .u64 hi',.int .u64 lo'] _ (fun j v hj=>by rw [Nat.zero_add,hk'.cell];exact hj) und_big rfl info_big
 have hp':a.tmps[p]?.getD undef=.pointer (some ⟨g,0,none⟩):=by simpa using hp
 have hq':a.tmps[q]?.getD undef=.pointer (some ⟨g',0,none⟩):=by simpa using hq
 simp [results,h,hp',hq',asAddr,hl,hl']
end Go.Proofs.YtmkoegljnebdiaaGreat
namespace Go.Proofs.YtmkoegljnebdiaaGreat
set_option maxRecDepth 100000
set_option maxHeartbeats 16000000

theorem pow_split {s:Nat} (h:s≤64):2 ^ (64 - s) * 2 ^ s=18446744073709551616:=by
 rw [← Nat.pow_add,Nat.sub_add_cancel h]
theorem dv_shift {lo s:Nat} (hs:s≤64) (hlo:lo<18446744073709551616):lo * 2 ^ s / 18446744073709551616=lo / 2 ^ (64 - s)∧lo / 2 ^ (64 - s)<2 ^ s:=by
 have hp:=pow_split hs
 have h0:0<2 ^ s:=Nat.two_pow_pos s
 refine ⟨?_,?_⟩
 ·rw [← hp,Nat.mul_div_mul_right _ _ h0]
 ·rw [Nat.div_lt_iff_lt_mul (Nat.two_pow_pos _),Nat.mul_comm,hp];exact hlo
/-- What the shifted numbers are. -/
theorem dv_hi {hi lo y s:Nat} (hs:s≤63) (hlo:lo<18446744073709551616) (hhi:hi<y) (hY:y * 2 ^ s<18446744073709551616) :
  hi * 2 ^ s<18446744073709551616∧(hi * 2 ^ s ||| lo / 2 ^ (64 - s))=hi * 2 ^ s+lo / 2 ^ (64 - s)∧hi * 2 ^ s+lo / 2 ^ (64 - s)<y * 2 ^ s ∧
  (hi * 2 ^ s+lo / 2 ^ (64 - s)) * 18446744073709551616+lo * 2 ^ s % 18446744073709551616=(hi * 18446744073709551616+lo) * 2 ^ s:=by
 obtain ⟨e1,e2⟩:=dv_shift (lo:=lo) (s:=s) (by omega) hlo
 have h1:(hi+1) * 2 ^ s≤y * 2 ^ s:=Nat.mul_le_mul_right _ hhi
 rw [Nat.add_mul,Nat.one_mul] at h1
 have h2:=Nat.div_add_mod (lo * 2 ^ s) 18446744073709551616
 rw [e1] at h2
 refine ⟨by omega,?_,by omega,?_⟩
 ·rw [Nat.mul_comm hi];exact (Nat.two_pow_add_eq_or_of_lt e2 hi).symm
 ·rw [Nat.add_mul,Nat.add_mul]
  have e3:hi * 18446744073709551616 * 2 ^ s=hi * 2 ^ s * 18446744073709551616:=by rw [Nat.mul_assoc,Nat.mul_assoc,Nat.mul_comm (2 ^ s)]
  rw [e3]
  generalize lo * 2 ^ s=A at *
  generalize hi * 2 ^ s=B at *
  generalize lo / 2 ^ (64 - s)=C at *
  clear e1 e2 h1 hY hlo hhi
  omega
theorem dv_norm {y:Nat} (h0:0<y) (h1:y<18446744073709551616):∃ s:Nat,64 - (Lib.bitLen y:Int)=(s:Int)∧s≤63∧9223372036854775808≤y * 2 ^ s∧y * 2 ^ s<18446744073709551616:=by
 have hl:=Lib.bitLen_le y 64 (by omega) h1
 obtain ⟨b1,b2,b3⟩:=Lib.bitLenAux_bounds 64 y h1 (by omega)
 refine ⟨64 - Lib.bitLen y,by omega,?_,?_,?_⟩
 ·have:1≤Lib.bitLen y:=b1;omega
 ·have e:2 ^ (Lib.bitLen y - 1) * 2 ^ (64 - Lib.bitLen y)=2 ^ 63:=by rw [← Nat.pow_add];congr 1;have:1≤Lib.bitLen y:=b1;omega
  have:=Nat.mul_le_mul_right (2 ^ (64 - Lib.bitLen y)) b2
  have b2':2 ^ (Lib.bitLen y - 1) * 2 ^ (64 - Lib.bitLen y)≤y * 2 ^ (64 - Lib.bitLen y):=this
  rw [e] at b2';omega
 ·have e:2 ^ Lib.bitLen y * 2 ^ (64 - Lib.bitLen y)=2 ^ 64:=by rw [← Nat.pow_add];congr 1;omega
  have b3':y * 2 ^ (64 - Lib.bitLen y)<2 ^ Lib.bitLen y * 2 ^ (64 - Lib.bitLen y):=Nat.mul_lt_mul_of_pos_right b3 (Nat.two_pow_pos _)
  rw [e] at b3';omega
/-- A digit's try: right once the test passes. -/
theorem dv_done {y1 y0 u u1 q r:Nat} (h:q * y1+r=u) (hy:0<y1 * 4294967296+y0) (hge:(u * 4294967296+u1) / (y1 * 4294967296+y0)≤q) (ht:q * y0≤r * 4294967296+u1):q=(u * 4294967296+u1) / (y1 * 4294967296+y0) :=
 Nat.le_antisymm ((kn_le hy).1 ((kn_test h).1 ht)) hge
theorem dv_more {y1 y0 u u1 q r:Nat} (h:q * y1+r=u) (hy:0<y1 * 4294967296+y0) (ht:¬ q * y0≤r * 4294967296+u1):(u * 4294967296+u1) / (y1 * 4294967296+y0)<q:=by
 rw [kn_test h,kn_le hy] at ht;omega
theorem dv_join {U L V:Nat} (h:U * 18446744073709551616+L=V):(U * 4294967296+L / 4294967296) * 4294967296+L % 4294967296=V:=by
 have e:=Nat.div_add_mod L 4294967296
 generalize L / 4294967296=a at *
 generalize L % 4294967296=b at *
 subst h e
 rw [Nat.add_mul,Nat.mul_assoc,Nat.mul_comm a]
 omega
/-- The whole from its digits. -/
theorem dv_whole {hi lo y s U L Q1 Q0:Nat} (hp:U * 18446744073709551616+L=(hi * 18446744073709551616+lo) * 2 ^ s)
  (h1:Q1=(U * 4294967296+L / 4294967296) / (y * 2 ^ s)) (h0:Q0=((U * 4294967296+L / 4294967296 - Q1 * (y * 2 ^ s)) * 4294967296+L % 4294967296) / (y * 2 ^ s)) (hy:0<y) :
  (hi * 18446744073709551616+lo) / y=Q1 * 4294967296+Q0∧(hi * 18446744073709551616+lo) % y=((U * 4294967296+L / 4294967296 - Q1 * (y * 2 ^ s)) * 4294967296+L % 4294967296 - Q0 * (y * 2 ^ s)) / 2 ^ s:=by
 have hY:0<y * 2 ^ s:=Nat.mul_pos hy (Nat.two_pow_pos s)
 obtain ⟨k1,k2⟩:=kn_shift (hi * 18446744073709551616+lo) y s
 obtain ⟨Y,hYe⟩:∃ Y,y * 2 ^ s=Y:=⟨_,rfl⟩
 obtain ⟨V,hV⟩:∃ V,(hi * 18446744073709551616+lo) * 2 ^ s=V:=⟨_,rfl⟩
 rw [hYe] at h1 h0 hY k1 k2 ⊢
 rw [hV] at hp k1 k2
 have hm:Q1 * Y≤U * 4294967296+L / 4294967296:=by rw [h1];exact Nat.div_mul_le_self _ _
 obtain ⟨t1,t2⟩:=kn_two (u:=U) (u1:=L / 4294967296) (u0:=L % 4294967296) (q1:=Q1) (r1:=U * 4294967296+L / 4294967296 - Q1 * Y) hY (by clear k1 k2 hV hYe hp;omega)
 rw [dv_join hp] at t1 t2
 rw [← h0] at t1
 refine ⟨by rw [← k1,t1],?_⟩
 rw [← k2,t2]
 congr 1
 have:=Nat.div_add_mod ((U * 4294967296+L / 4294967296 - Q1 * Y) * 4294967296+L % 4294967296) Y
 rw [← h0,Nat.mul_comm] at this
 clear k1 k2 hV hYe hp t1 t2 h0 h1
 omega
end Go.Proofs.YtmkoegljnebdiaaGreat
namespace Go.Proofs.YtmkoegljnebdiaaGreat
open Go.RowKit
set_option maxRecDepth 100000
set_option maxHeartbeats 16000000

theorem pw2 (s:Nat):(2:Int) ^ s=((2 ^ s:Nat):Int):=by simp
/-- With nothing above: a plain quotient. -/
theorem div64_low (lo y:Int) (h1:0≤lo) (h2:lo≤18446744073709551615) (h3:0<y) (h4:y≤18446744073709551615) (w:World) :
  Calls Tryz.prog 177 #[.int .u64 0,.int .u64 lo,.int .u64 y] w fun e w'=>e=.returned (.tuple #[.int .u64 (lo / y),.int .u64 (lo % y)])∧Below w.heap.size w w':=by
 have g1:(y == 0)=false:=by simp;omega
 have g2:decide (y≤0)=false:=decide_eq_false (by omega)
 have hy0:y ≠ 0:=by omega
 go_enter Tryz.func177,Tryz.ntmps177
 go_wp2_with fail
 go_quiet (fail)
 go_wp2_with fail
 go_ret2
 exact ⟨rfl,below_drewN (Below.refl _ _) _⟩
theorem div64_high (hn ln yn:Nat) (h0:0<hn) (h2:ln<18446744073709551616) (h3:hn<yn) (h4:yn<18446744073709551616) (w:World) :
  Calls Tryz.prog 177 #[.int .u64 hn,.int .u64 ln,.int .u64 yn] w fun e w'=>e=.returned (.tuple #[.int .u64 (((hn * 18446744073709551616+ln) / yn:Nat):Int),.int .u64 (((hn * 18446744073709551616+ln) % yn:Nat):Int)])∧Below w.heap.size w w':=by
 obtain ⟨sn,hsn,hs63,hY1,hY2⟩:=dv_norm (y:=yn) (by omega) h4
 obtain ⟨d1,d2,d3,d4⟩:=dv_hi hs63 h2 h3 hY2
 obtain ⟨hi,hhi⟩:∃ z:Int,(hn:Int)=z:=⟨_,rfl⟩
 obtain ⟨lo,hlo⟩:∃ z:Int,(ln:Int)=z:=⟨_,rfl⟩
 obtain ⟨y,hy⟩:∃ z:Int,(yn:Int)=z:=⟨_,rfl⟩
 have g1:(y == 0)=false:=by simp;omega
 have g2:decide (y≤hi)=false:=decide_eq_false (by omega)
 have g3:(hi == 0)=false:=by simp;omega
 have HLZ:=Lib.hid (Tryz.bits_LeadingZeros64 y w (by omega) (by omega))
 obtain ⟨s,hs⟩:∃ s:Int,(sn:Int)=s:=⟨_,rfl⟩
 rw [show 64 - (Lib.bitLen y.toNat:Int)=s by rw [← hs,← hsn,← hy];rfl] at HLZ
 have hs0:0≤s:=by omega
 have hs1:s≤63:=by omega
 have ht1:s.toNat=sn:=by omega
 have ht2:(64 - s).toNat=64 - sn:=by omega
 obtain ⟨Y,hYe⟩:∃ Y:Nat,yn * 2 ^ sn=Y:=⟨_,rfl⟩
 obtain ⟨L,hLe⟩:∃ L:Nat,ln * 2 ^ sn % 18446744073709551616=L:=⟨_,rfl⟩
 obtain ⟨U,hUe⟩:∃ U:Nat,hn * 2 ^ sn+ln / 2 ^ (64 - sn)=U:=⟨_,rfl⟩
 have E1:Hid (IntKind.u64.wrap (y * 2 ^ s.toNat)=(Y:Int)):=Lib.hid (by
  rw [ht1,← hy,IntKind.wrap_u64,← hYe,pw2,← Int.natCast_mul];exact Int.emod_eq_of_lt (by omega) (by omega))
 have E4:Hid (IntKind.u64.wrap (lo * 2 ^ s.toNat)=(L:Int)):=Lib.hid (by
  rw [ht1,← hlo,IntKind.wrap_u64,← hLe,pw2,← Int.natCast_mul];exact (Int.natCast_emod _ _).symm)
 have E7:Hid (bits .or .u64 (IntKind.u64.wrap (hi * 2 ^ s.toNat)) (lo / 2 ^ (64 - s).toNat)=(U:Int)):=Lib.hid (by
  have e1:IntKind.u64.wrap (hi * 2 ^ s.toNat)=((hn * 2 ^ sn:Nat):Int):=by
   rw [ht1,← hhi,IntKind.wrap_u64,pw2,← Int.natCast_mul];exact Int.emod_eq_of_lt (by omega) (by omega)
  have e2:lo / 2 ^ (64 - s).toNat=((ln / 2 ^ (64 - sn):Nat):Int):=by
   rw [ht2,← hlo,pw2];exact (Int.natCast_ediv _ _).symm
  have e3:ln / 2 ^ (64 - sn)≤ln:=Nat.div_le_self _ _
  rw [e1,e2,bits_or_u64_nat _ _ d1 (by omega),d2,hUe])
 obtain ⟨Y1,hY1e⟩:∃ z:Nat,Y / 4294967296=z:=⟨_,rfl⟩
 obtain ⟨Y0,hY0e⟩:∃ z:Nat,Y % 4294967296=z:=⟨_,rfl⟩
 obtain ⟨U1,hU1e⟩:∃ z:Nat,L / 4294967296=z:=⟨_,rfl⟩
 obtain ⟨U0,hU0e⟩:∃ z:Nat,L % 4294967296=z:=⟨_,rfl⟩
 have hmask:∀ a:Nat,a<18446744073709551616→bits .and .u64 (a:Int) 4294967295=((a % 4294967296:Nat):Int):=fun a ha=>by
  have h:=bits_and_u64_nat a 4294967295 ha (by omega)
  have e:a &&& 4294967295=a % 4294967296:=Nat.and_two_pow_sub_one_eq_mod a 32
  rw [e] at h
  exact h
 have hLb:L<18446744073709551616:=by rw [← hLe];exact Nat.mod_lt _ (by decide)
 rw [hYe] at hY1 hY2 d3
 rw [hUe] at d3
 rw [hUe,hLe] at d4
 have E2:Hid (bits .and .u64 (Y:Int) 4294967295=(Y0:Int)):=Lib.hid (by rw [hmask Y hY2,hY0e])
 have E3:Hid ((Y:Int) / 4294967296=(Y1:Int)):=Lib.hid (by rw [← hY1e];exact (Int.natCast_ediv _ _).symm)
 have E5:Hid (bits .and .u64 (L:Int) 4294967295=(U0:Int)):=Lib.hid (by rw [hmask L hLb,hU0e])
 have E6:Hid ((L:Int) / 4294967296=(U1:Int)):=Lib.hid (by rw [← hU1e];exact (Int.natCast_ediv _ _).symm)
 have hYY:Y1 * 4294967296+Y0=Y:=by
  have:=Nat.div_add_mod Y 4294967296
  rw [hY1e,hY0e,Nat.mul_comm] at this;exact this
 have hY1b:2147483648≤Y1:=by omega
 have hY1c:Y1<4294967296:=by omega
 have hY0b:Y0<4294967296:=by omega
 have hU1b:U1<4294967296:=by omega
 have hU0b:U0<4294967296:=by omega
 obtain ⟨Q1,hQ1⟩:∃ z:Nat,(U * 4294967296+U1) / Y=z:=⟨_,rfl⟩
 obtain ⟨R1,hR1⟩:∃ z:Nat,U * 4294967296+U1 - Q1 * Y=z:=⟨_,rfl⟩
 obtain ⟨Q0,hQ0⟩:∃ z:Nat,(R1 * 4294967296+U0) / Y=z:=⟨_,rfl⟩
 have hdm:=Nat.div_add_mod (U * 4294967296+U1) Y
 have hml:=Nat.mod_lt (U * 4294967296+U1) (show 0<Y by omega)
 rw [hQ1,Nat.mul_comm] at hdm
 have hR1b:R1<Y:=by omega
 have hdm0:=Nat.div_add_mod (R1 * 4294967296+U0) Y
 have hml0:=Nat.mod_lt (R1 * 4294967296+U0) (show 0<Y by omega)
 rw [hQ0,Nat.mul_comm] at hdm0
 obtain ⟨W1,hW1⟩:=dv_whole (hi:=hn) (lo:=ln) (y:=yn) (s:=sn) (U:=U) (L:=L) (Q1:=Q1) (Q0:=Q0) d4 (by rw [hYe,hU1e,hQ1]) (by rw [hYe,hU1e,hU0e,hR1,hQ0]) (by omega)
 rw [hYe,hU1e,hU0e,hR1] at hW1
 have HQLQ1:Hid (Q1<4294967296):=Lib.hid (by rw [← hQ1];exact kn_small d3 hU1b)
 have HQLQ0:Hid (Q0<4294967296):=Lib.hid (by rw [← hQ0];exact kn_small hR1b hU0b)
 have HDNQ1:Hid (∀ q r:Nat,q * Y1+r=U→Q1≤q→q * Y0≤r * 4294967296+U1→q=Q1):=Lib.hid fun q r h hge ht=>by
  have:=dv_done (u1:=U1) h (by omega) (by rw [hYY,hQ1];exact hge) ht
  rw [hYY,hQ1] at this;exact this
 have HMOQ1:Hid (∀ q r:Nat,q * Y1+r=U→¬ q * Y0≤r * 4294967296+U1→Q1<q):=Lib.hid fun q r h ht=>by
  have:=dv_more (u1:=U1) h (by omega) ht
  rw [hYY,hQ1] at this;exact this
 have HBRQ1:Hid (∀ q r:Nat,q * Y1+r=U→q≤4294967296→4294967296≤r→Q1≤q→q=Q1):=Lib.hid fun q r h hq hr hge=>by
  rcases kn_break (u1:=U1) h hY0b hq hr with e | e
  ·rw [hYY,hQ1] at e;omega
  ·omega
 have HSTQ1:Hid (w=w∧U / Y1 * Y1+U % Y1=U∧U / Y1≤4294967297∧Q1≤U / Y1∧U % Y1<4294967296):=Lib.hid (by
  refine ⟨rfl,by rw [Nat.mul_comm];exact Nat.div_add_mod _ _,kn_first hY1b hY0b (by rw [hYY];assumption),?_,Nat.lt_trans (Nat.mod_lt _ (by omega)) hY1c⟩
  have:=kn_ge (y1:=Y1) (y0:=Y0) (u:=U) (u1:=U1) (by omega) (by assumption)
  rw [hYY,hQ1] at this;exact this)
 have HDNQ0:Hid (∀ q r:Nat,q * Y1+r=R1→Q0≤q→q * Y0≤r * 4294967296+U0→q=Q0):=Lib.hid fun q r h hge ht=>by
  have:=dv_done (u1:=U0) h (by omega) (by rw [hYY,hQ0];exact hge) ht
  rw [hYY,hQ0] at this;exact this
 have HMOQ0:Hid (∀ q r:Nat,q * Y1+r=R1→¬ q * Y0≤r * 4294967296+U0→Q0<q):=Lib.hid fun q r h ht=>by
  have:=dv_more (u1:=U0) h (by omega) ht
  rw [hYY,hQ0] at this;exact this
 have HBRQ0:Hid (∀ q r:Nat,q * Y1+r=R1→q≤4294967296→4294967296≤r→Q0≤q→q=Q0):=Lib.hid fun q r h hq hr hge=>by
  rcases kn_break (u1:=U0) h hY0b hq hr with e | e
  ·rw [hYY,hQ0] at e;omega
  ·omega
 have HSTQ0:Hid (w=w∧R1 / Y1 * Y1+R1 % Y1=R1∧R1 / Y1≤4294967297∧Q0≤R1 / Y1∧R1 % Y1<4294967296):=Lib.hid (by
  refine ⟨rfl,by rw [Nat.mul_comm];exact Nat.div_add_mod _ _,kn_first hY1b hY0b (by rw [hYY];assumption),?_,Nat.lt_trans (Nat.mod_lt _ (by omega)) hY1c⟩
  have:=kn_ge (y1:=Y1) (y0:=Y0) (u:=R1) (u1:=U0) (by omega) (by assumption)
  rw [hYY,hQ0] at this;exact this)
 have HRES:Hid (∀ a b:Int,a=((Q1 * 4294967296+Q0:Nat):Int)→b=(((R1 * 4294967296+U0 - Q0 * Y) / 2 ^ sn:Nat):Int)→(Ending.returned (.tuple #[.int .u64 a,.int .u64 b]))=.returned (.tuple #[.int .u64 (((hn * 18446744073709551616+ln) / yn:Nat):Int),.int .u64 (((hn * 18446744073709551616+ln) % yn:Nat):Int)])):=Lib.hid fun a b ea eb=>by rw [ea,eb,W1,hW1]
 have hy1n:(Y1:Int) ≠ 0:=by omega
 have hy1b:((Y1:Int) == 0)=false:=by simp;omega
 have HMUL:Hid (Q1 * Y≤U * 4294967296+U1∧Q0 * Y≤R1 * 4294967296+U0):=Lib.hid (by omega)
 have hUb:U<18446744073709551616:=Nat.lt_trans d3 hY2
 have hRb:R1<18446744073709551616:=Nat.lt_trans hR1b hY2
 obtain ⟨qQ1,hqQ1⟩:∃ z:Nat,U / Y1=z:=⟨_,rfl⟩
 obtain ⟨rQ1,hrQ1⟩:∃ z:Nat,U % Y1=z:=⟨_,rfl⟩
 obtain ⟨pQ1,hpQ1⟩:∃ z:Nat,qQ1 * Y1=z:=⟨_,rfl⟩
 have DQ11:(U:Int) / (Y1:Int)=(qQ1:Int):=by rw [← hqQ1];exact (Int.natCast_ediv _ _).symm
 have hprQ1:pQ1+rQ1=U:=by rw [← hpQ1,← hqQ1,← hrQ1,Nat.mul_comm];exact Nat.div_add_mod _ _
 have DQ12:IntKind.u64.wrap ((qQ1:Int) * (Y1:Int))=(pQ1:Int):=by rw [← Int.natCast_mul,hpQ1,IntKind.wrap_u64];omega
 have DQ13:IntKind.u64.wrap ((U:Int) - (pQ1:Int))=(rQ1:Int):=by rw [IntKind.wrap_u64];omega
 have DQ14:IntKind.u64.wrap (qQ1:Int)=(qQ1:Int):=by rw [IntKind.wrap_u64];have:=HSTQ1.out.2.2.1;rw [hqQ1] at this;omega
 rw [hqQ1,hrQ1] at HSTQ1
 clear hqQ1 hrQ1 hpQ1 hprQ1
 have DQ11:=Lib.hid DQ11
 have DQ12:=Lib.hid DQ12
 have DQ13:=Lib.hid DQ13
 obtain ⟨qQ0,hqQ0⟩:∃ z:Nat,R1 / Y1=z:=⟨_,rfl⟩
 obtain ⟨rQ0,hrQ0⟩:∃ z:Nat,R1 % Y1=z:=⟨_,rfl⟩
 obtain ⟨pQ0,hpQ0⟩:∃ z:Nat,qQ0 * Y1=z:=⟨_,rfl⟩
 have DQ01:(R1:Int) / (Y1:Int)=(qQ0:Int):=by rw [← hqQ0];exact (Int.natCast_ediv _ _).symm
 have hprQ0:pQ0+rQ0=R1:=by rw [← hpQ0,← hqQ0,← hrQ0,Nat.mul_comm];exact Nat.div_add_mod _ _
 have DQ02:IntKind.u64.wrap ((qQ0:Int) * (Y1:Int))=(pQ0:Int):=by rw [← Int.natCast_mul,hpQ0,IntKind.wrap_u64];omega
 have DQ03:IntKind.u64.wrap ((R1:Int) - (pQ0:Int))=(rQ0:Int):=by rw [IntKind.wrap_u64];omega
 have DQ04:IntKind.u64.wrap (qQ0:Int)=(qQ0:Int):=by rw [IntKind.wrap_u64];have:=HSTQ0.out.2.2.1;rw [hqQ0] at this;omega
 rw [hqQ0,hrQ0] at HSTQ0
 clear hqQ0 hrQ0 hpQ0 hprQ0
 have DQ01:=Lib.hid DQ01
 have DQ02:=Lib.hid DQ02
 have DQ03:=Lib.hid DQ03
 obtain ⟨V1,hV1⟩:∃ z:Nat,U * 4294967296 % 18446744073709551616=z:=⟨_,rfl⟩
 obtain ⟨V2,hV2⟩:∃ z:Nat,(U * 4294967296+U1) % 18446744073709551616=z:=⟨_,rfl⟩
 obtain ⟨V3,hV3⟩:∃ z:Nat,Q1 * Y % 18446744073709551616=z:=⟨_,rfl⟩
 have A1:IntKind.u64.wrap ((U:Int) * 4294967296)=(V1:Int):=by rw [IntKind.wrap_u64];omega
 have A2:IntKind.u64.wrap ((V1:Int)+(U1:Int))=(V2:Int):=by rw [IntKind.wrap_u64];omega
 have A3:IntKind.u64.wrap ((Q1:Int) * (Y:Int))=(V3:Int):=by rw [IntKind.wrap_u64,← Int.natCast_mul];omega
 have A4:IntKind.u64.wrap ((V2:Int) - (V3:Int))=(R1:Int):=by rw [IntKind.wrap_u64];omega
 obtain ⟨T1,hT1⟩:∃ z:Nat,R1 * 4294967296 % 18446744073709551616=z:=⟨_,rfl⟩
 obtain ⟨T2,hT2⟩:∃ z:Nat,(R1 * 4294967296+U0) % 18446744073709551616=z:=⟨_,rfl⟩
 obtain ⟨T3,hT3⟩:∃ z:Nat,Q0 * Y % 18446744073709551616=z:=⟨_,rfl⟩
 obtain ⟨T4,hT4⟩:∃ z:Nat,R1 * 4294967296+U0 - Q0 * Y=z:=⟨_,rfl⟩
 rw [hT4] at HRES
 have B1:IntKind.u64.wrap ((R1:Int) * 4294967296)=(T1:Int):=by rw [IntKind.wrap_u64];omega
 have B2:IntKind.u64.wrap ((T1:Int)+(U0:Int))=(T2:Int):=by rw [IntKind.wrap_u64];omega
 have B3:IntKind.u64.wrap ((Q0:Int) * (Y:Int))=(T3:Int):=by rw [IntKind.wrap_u64,← Int.natCast_mul];omega
 have B4:IntKind.u64.wrap ((T2:Int) - (T3:Int))=(T4:Int):=by rw [IntKind.wrap_u64];omega
 have hq1b:=HQLQ1.out
 have hq0b:=HQLQ0.out
 obtain ⟨Z1,hZ1⟩:∃ z:Nat,Q1 * 4294967296=z:=⟨_,rfl⟩
 have C1:IntKind.u64.wrap ((Q1:Int) * 4294967296)=(Z1:Int):=by rw [IntKind.wrap_u64];omega
 have C2:IntKind.u64.wrap ((Z1:Int)+(Q0:Int))=((Q1 * 4294967296+Q0:Nat):Int):=by rw [IntKind.wrap_u64];omega
 have C3:(T4:Int) / 2 ^ s.toNat=((T4 / 2 ^ sn:Nat):Int):=by rw [ht1,pw2];exact (Int.natCast_ediv _ _).symm
 obtain ⟨X1,hX1⟩:∃ z:Int,((Q1 * 4294967296+Q0:Nat):Int)=z:=⟨_,rfl⟩
 obtain ⟨X2,hX2⟩:∃ z:Int,((T4 / 2 ^ sn:Nat):Int)=z:=⟨_,rfl⟩
 rw [hX1] at C2
 rw [hX2] at C3
 have HRET:=HRES.out X1 X2 hX1.symm hX2.symm
 obtain ⟨ER,hER⟩:∃ e:Ending,(Ending.returned (.tuple #[.int .u64 (((hn * 18446744073709551616+ln) / yn:Nat):Int),.int .u64 (((hn * 18446744073709551616+ln) % yn:Nat):Int)]))=e:=⟨_,rfl⟩
 rw [hER] at HRET ⊢
 have HRET:=Lib.hid HRET
 have C1:=Lib.hid C1
 have C2:=Lib.hid C2
 have C3:=Lib.hid C3
 have A1:=Lib.hid A1
 have A2:=Lib.hid A2
 have A3:=Lib.hid A3
 have A4:=Lib.hid A4
 have B1:=Lib.hid B1
 have B2:=Lib.hid B2
 have B3:=Lib.hid B3
 have B4:=Lib.hid B4
 rw [hhi,hlo,hy]
 clear hER hX1 hX2 hZ1 hT1 hT2 hT3 hT4 hV1 hV2 hV3 W1 hW1 hdm hdm0 hml hml0 hQ1 hQ0 hR1 hYe hLe hUe d1 d2 d3 d4 hsn hs ht1 ht2 hmask hY1e hY0e hU1e hU0e hhi hlo hy h0 h2 h3 h4 hs63 HRES HMUL hq1b hq0b hYY
 go_enter Tryz.func177,Tryz.ntmps177
 go_wp2_with fail
 refine HLZ.out.mono ?_
 rintro e w' ⟨rfl,rfl⟩
 go_upto_region 15 with (fail)
 simp only [E1.out,E4.out]
 simp only [E7.out,E2.out,E3.out,E5.out,E6.out]
 go_upto_block 0 with fail
 go_cut [15,16] from 67 to 85 (fun va vb w2=>va=.int .u64 (Q1:Nat)∧w2=w')
 case first =>
  go_wp2_with fail
  go_loopw [15,16] (fun va vb wr=>∃ q r:Nat,va=.int .u64 q∧vb=.int .u64 r∧Hid (wr=w'∧q * Y1+r=U∧q≤4294967297∧Q1≤q∧r<4294967296)) (fun va _ _=>(intOf va).toNat)
  case atStart=>exact ⟨_,_,rfl,rfl,Lib.hid ⟨rfl,HSTQ1.out.2⟩⟩
  case round =>
   obtain ⟨q,r,rfl,rfl,hs⟩:=hrel
   obtain ⟨hwr,hq1,hq2,hq3,hq4⟩:=hs.out
   subst hwr
   have HQ1:=Lib.hid hq1
   have HQ3:=Lib.hid hq3
   have hdn:=HDNQ1.out q r hq1 hq3
   have hmo:=HMOQ1.out q r hq1
   have hqy:q * Y0≤4294967297 * 4294967295:=Nat.mul_le_mul hq2 (by omega)
   clear hs
   by_cases g1:4294967296≤q
   ·have k1:decide ((4294967296:Int)≤(q:Int))=true:=decide_eq_true (by omega)
    have k1':decide (4294967296≤q)=true:=decide_eq_true (by omega)
    have hlt:Q1<q:=by have:=HQLQ1.out;omega
    obtain ⟨q2,hq0⟩:∃ z:Nat,z+1=q:=⟨q - 1,by omega⟩
    obtain ⟨r2,hr0⟩:∃ z:Nat,r+Y1=z:=⟨_,rfl⟩
    have hrel2:q2 * Y1+r2=U:=by
     have:(q2+1) * Y1=q2 * Y1+Y1:=Nat.succ_mul _ _
     rw [hq0] at this;omega
    have n1:IntKind.u64.wrap ((q:Int) - 1)=(q2:Int):=by rw [IntKind.wrap_u64];omega
    have n2:IntKind.u64.wrap ((r:Int)+(Y1:Int))=(r2:Int):=by rw [IntKind.wrap_u64];omega
    have HR2:=Lib.hid hrel2
    have HLE:Hid (Q1≤q2∧q2≤4294967296∧q2<q):=Lib.hid (by omega)
    by_cases g3:4294967296≤r2
    ·have k3:decide ((4294967296:Int)≤(r2:Int))=true:=decide_eq_true (by omega)
     have k3':decide (4294967296≤r2)=true:=decide_eq_true (by omega)
     have HE:Hid (q2=Q1):=Lib.hid (HBRQ1.out q2 r2 hrel2 HLE.out.2.1 g3 HLE.out.1)
     clear hdn hmo g1 hq0 hr0 hrel2 g3 hq1 hq2 hq3 hq4 hqy hlt
     go_wp2_with fail
     go_meet
     case rel=>exact ⟨by rw [HE.out],rfl⟩
    ·have k3:decide ((4294967296:Int)≤(r2:Int))=false:=decide_eq_false (by omega)
     have k3':decide (4294967296≤r2)=false:=decide_eq_false (by omega)
     have HG3:Hid (r2<4294967296):=Lib.hid (by omega)
     clear hdn hmo g1 hq0 hr0 hrel2 g3 hq1 hq2 hq3 hq4 hqy hlt
     go_wp2_with fail
     go_roundw
     case rel=>exact ⟨q2,r2,rfl,rfl,Lib.hid ⟨by simp,HR2.out,by have:=HLE.out;omega,HLE.out.1,HG3.out⟩⟩
     case measure=>simp [intOf];have:=HLE.out;omega
   ·have k1:decide ((4294967296:Int)≤(q:Int))=false:=decide_eq_false (by omega)
    have k1':decide (4294967296≤q)=false:=decide_eq_false (by omega)
    have hqy2:q * Y0≤4294967295 * 4294967295:=Nat.mul_le_mul (by omega) (by omega)
    obtain ⟨z,hz⟩:∃ z:Nat,q * Y0=z:=⟨_,rfl⟩
    rw [hz] at hdn hmo hqy2
    have m1:IntKind.u64.wrap ((q:Int) * (Y0:Int))=(z:Int):=by rw [← Int.natCast_mul,hz,IntKind.wrap_u64];omega
    obtain ⟨x2,hx2⟩:∃ z:Nat,4294967296 * r=z:=⟨_,rfl⟩
    obtain ⟨x3,hx3⟩:∃ z:Nat,x2+U1=z:=⟨_,rfl⟩
    have m2:IntKind.u64.wrap ((4294967296:Int) * (r:Int))=(x2:Int):=by rw [IntKind.wrap_u64];omega
    have m3:IntKind.u64.wrap ((x2:Int)+(U1:Int))=(x3:Int):=by rw [IntKind.wrap_u64];omega
    by_cases g2:z≤x3
    ·have k2:decide ((x3:Int)<(z:Int))=false:=decide_eq_false (by omega)
     have k2':decide (x3<z)=false:=decide_eq_false (by omega)
     have HE:Hid (q=Q1):=Lib.hid (hdn (by omega))
     clear hdn hmo hq1 hq2 hq3 hq4 hqy hqy2 hz g1 g2 hx2 hx3
     go_wp2_with fail
     go_meet
     case rel=>exact ⟨by rw [HE.out],rfl⟩
    ·have k2:decide ((x3:Int)<(z:Int))=true:=decide_eq_true (by omega)
     have k2':decide (x3<z)=true:=decide_eq_true (by omega)
     have hlt:Q1<q:=hmo (by omega)
     obtain ⟨q2,hq0⟩:∃ z:Nat,z+1=q:=⟨q - 1,by omega⟩
     obtain ⟨r2,hr0⟩:∃ z:Nat,r+Y1=z:=⟨_,rfl⟩
     have hrel2:q2 * Y1+r2=U:=by
      have:(q2+1) * Y1=q2 * Y1+Y1:=Nat.succ_mul _ _
      rw [hq0] at this;omega
     have n1:IntKind.u64.wrap ((q:Int) - 1)=(q2:Int):=by rw [IntKind.wrap_u64];omega
     have n2:IntKind.u64.wrap ((r:Int)+(Y1:Int))=(r2:Int):=by rw [IntKind.wrap_u64];omega
     have HR2:=Lib.hid hrel2
     have HLE:Hid (Q1≤q2∧q2≤4294967296∧q2<q):=Lib.hid (by omega)
     by_cases g3:4294967296≤r2
     ·have k3:decide ((4294967296:Int)≤(r2:Int))=true:=decide_eq_true (by omega)
      have k3':decide (4294967296≤r2)=true:=decide_eq_true (by omega)
      have HE:Hid (q2=Q1):=Lib.hid (HBRQ1.out q2 r2 hrel2 HLE.out.2.1 g3 HLE.out.1)
      clear hdn hmo hz hx2 hx3 g1 g2 hqy2 hq0 hr0 hrel2 g3 hq1 hq2 hq3 hq4 hqy hlt
      go_wp2_with fail
      go_meet
      case rel=>exact ⟨by rw [HE.out],rfl⟩
     ·have k3:decide ((4294967296:Int)≤(r2:Int))=false:=decide_eq_false (by omega)
      have k3':decide (4294967296≤r2)=false:=decide_eq_false (by omega)
      have HG3:Hid (r2<4294967296):=Lib.hid (by omega)
      clear hdn hmo hz hx2 hx3 g1 g2 hqy2 hq0 hr0 hrel2 g3 hq1 hq2 hq3 hq4 hqy hlt
      go_wp2_with fail
      go_roundw
      case rel=>exact ⟨q2,r2,rfl,rfl,Lib.hid ⟨by simp,HR2.out,by have:=HLE.out;omega,HLE.out.1,HG3.out⟩⟩
      case measure=>simp [intOf];have:=HLE.out;omega
 case rest =>
  obtain ⟨rfl,hwc⟩:=hcut
  have hwc:=hwc.symm
  subst hwc
  go_upto_block 2 with fail
  go_cut [18,16] from 102 to 120 (fun va vb w2=>va=.int .u64 (Q0:Nat)∧w2=w')
  case first =>
   go_wp2_with fail
   go_loopw [18,16] (fun va vb wr=>∃ q r:Nat,va=.int .u64 q∧vb=.int .u64 r∧Hid (wr=w'∧q * Y1+r=R1∧q≤4294967297∧Q0≤q∧r<4294967296)) (fun va _ _=>(intOf va).toNat)
   case atStart=>exact ⟨_,_,rfl,rfl,Lib.hid ⟨rfl,HSTQ0.out.2⟩⟩
   case round =>
    obtain ⟨q,r,rfl,rfl,hs⟩:=hrel
    obtain ⟨hwr,hq1,hq2,hq3,hq4⟩:=hs.out
    subst hwr
    have HQ1:=Lib.hid hq1
    have HQ3:=Lib.hid hq3
    have hdn:=HDNQ0.out q r hq1 hq3
    have hmo:=HMOQ0.out q r hq1
    have hqy:q * Y0≤4294967297 * 4294967295:=Nat.mul_le_mul hq2 (by omega)
    clear hs
    by_cases g1:4294967296≤q
    ·have k1:decide ((4294967296:Int)≤(q:Int))=true:=decide_eq_true (by omega)
     have k1':decide (4294967296≤q)=true:=decide_eq_true (by omega)
     have hlt:Q0<q:=by have:=HQLQ0.out;omega
     obtain ⟨q2,hq0⟩:∃ z:Nat,z+1=q:=⟨q - 1,by omega⟩
     obtain ⟨r2,hr0⟩:∃ z:Nat,r+Y1=z:=⟨_,rfl⟩
     have hrel2:q2 * Y1+r2=R1:=by
      have:(q2+1) * Y1=q2 * Y1+Y1:=Nat.succ_mul _ _
      rw [hq0] at this;omega
     have n1:IntKind.u64.wrap ((q:Int) - 1)=(q2:Int):=by rw [IntKind.wrap_u64];omega
     have n2:IntKind.u64.wrap ((r:Int)+(Y1:Int))=(r2:Int):=by rw [IntKind.wrap_u64];omega
     have HR2:=Lib.hid hrel2
     have HLE:Hid (Q0≤q2∧q2≤4294967296∧q2<q):=Lib.hid (by omega)
     by_cases g3:4294967296≤r2
     ·have k3:decide ((4294967296:Int)≤(r2:Int))=true:=decide_eq_true (by omega)
      have k3':decide (4294967296≤r2)=true:=decide_eq_true (by omega)
      have HE:Hid (q2=Q0):=Lib.hid (HBRQ0.out q2 r2 hrel2 HLE.out.2.1 g3 HLE.out.1)
      clear hdn hmo g1 hq0 hr0 hrel2 g3 hq1 hq2 hq3 hq4 hqy hlt
      go_wp2_with fail
      go_meet
      case rel=>exact ⟨by rw [HE.out],rfl⟩
     ·have k3:decide ((4294967296:Int)≤(r2:Int))=false:=decide_eq_false (by omega)
      have k3':decide (4294967296≤r2)=false:=decide_eq_false (by omega)
      have HG3:Hid (r2<4294967296):=Lib.hid (by omega)
      clear hdn hmo g1 hq0 hr0 hrel2 g3 hq1 hq2 hq3 hq4 hqy hlt
      go_wp2_with fail
      go_roundw
      case rel=>exact ⟨q2,r2,rfl,rfl,Lib.hid ⟨by simp,HR2.out,by have:=HLE.out;omega,HLE.out.1,HG3.out⟩⟩
      case measure=>simp [intOf];have:=HLE.out;omega
    ·have k1:decide ((4294967296:Int)≤(q:Int))=false:=decide_eq_false (by omega)
     have k1':decide (4294967296≤q)=false:=decide_eq_false (by omega)
     have hqy2:q * Y0≤4294967295 * 4294967295:=Nat.mul_le_mul (by omega) (by omega)
     obtain ⟨z,hz⟩:∃ z:Nat,q * Y0=z:=⟨_,rfl⟩
     rw [hz] at hdn hmo hqy2
     have m1:IntKind.u64.wrap ((q:Int) * (Y0:Int))=(z:Int):=by rw [← Int.natCast_mul,hz,IntKind.wrap_u64];omega
     obtain ⟨x2,hx2⟩:∃ z:Nat,4294967296 * r=z:=⟨_,rfl⟩
     obtain ⟨x3,hx3⟩:∃ z:Nat,x2+U0=z:=⟨_,rfl⟩
     have m2:IntKind.u64.wrap ((4294967296:Int) * (r:Int))=(x2:Int):=by rw [IntKind.wrap_u64];omega
     have m3:IntKind.u64.wrap ((x2:Int)+(U0:Int))=(x3:Int):=by rw [IntKind.wrap_u64];omega
     by_cases g2:z≤x3
     ·have k2:decide ((x3:Int)<(z:Int))=false:=decide_eq_false (by omega)
      have k2':decide (x3<z)=false:=decide_eq_false (by omega)
      have HE:Hid (q=Q0):=Lib.hid (hdn (by omega))
      clear hdn hmo hq1 hq2 hq3 hq4 hqy hqy2 hz g1 g2 hx2 hx3
      go_wp2_with fail
      go_meet
      case rel=>exact ⟨by rw [HE.out],rfl⟩
     ·have k2:decide ((x3:Int)<(z:Int))=true:=decide_eq_true (by omega)
      have k2':decide (x3<z)=true:=decide_eq_true (by omega)
      have hlt:Q0<q:=hmo (by omega)
      obtain ⟨q2,hq0⟩:∃ z:Nat,z+1=q:=⟨q - 1,by omega⟩
      obtain ⟨r2,hr0⟩:∃ z:Nat,r+Y1=z:=⟨_,rfl⟩
      have hrel2:q2 * Y1+r2=R1:=by
       have:(q2+1) * Y1=q2 * Y1+Y1:=Nat.succ_mul _ _
       rw [hq0] at this;omega
      have n1:IntKind.u64.wrap ((q:Int) - 1)=(q2:Int):=by rw [IntKind.wrap_u64];omega
      have n2:IntKind.u64.wrap ((r:Int)+(Y1:Int))=(r2:Int):=by rw [IntKind.wrap_u64];omega
      have HR2:=Lib.hid hrel2
      have HLE:Hid (Q0≤q2∧q2≤4294967296∧q2<q):=Lib.hid (by omega)
      by_cases g3:4294967296≤r2
      ·have k3:decide ((4294967296:Int)≤(r2:Int))=true:=decide_eq_true (by omega)
       have k3':decide (4294967296≤r2)=true:=decide_eq_true (by omega)
       have HE:Hid (q2=Q0):=Lib.hid (HBRQ0.out q2 r2 hrel2 HLE.out.2.1 g3 HLE.out.1)
       clear hdn hmo hz hx2 hx3 g1 g2 hqy2 hq0 hr0 hrel2 g3 hq1 hq2 hq3 hq4 hqy hlt
       go_wp2_with fail
       go_meet
       case rel=>exact ⟨by rw [HE.out],rfl⟩
      ·have k3:decide ((4294967296:Int)≤(r2:Int))=false:=decide_eq_false (by omega)
       have k3':decide (4294967296≤r2)=false:=decide_eq_false (by omega)
       have HG3:Hid (r2<4294967296):=Lib.hid (by omega)
       clear hdn hmo hz hx2 hx3 g1 g2 hqy2 hq0 hr0 hrel2 g3 hq1 hq2 hq3 hq4 hqy hlt
       go_wp2_with fail
       go_roundw
       case rel=>exact ⟨q2,r2,rfl,rfl,Lib.hid ⟨by simp,HR2.out,by have:=HLE.out;omega,HLE.out.1,HG3.out⟩⟩
       case measure=>simp [intOf];have:=HLE.out;omega
  case rest =>
   obtain ⟨rfl,hwc⟩:=hcut
   have hwc:=hwc.symm
   subst hwc
   go_wp2_with fail
   go_ret2
   exact ⟨HRET.out,Below.refl _ _⟩

theorem div64_any (hi lo y:Nat) (h2:lo<18446744073709551616) (h3:hi<y) (h4:y<18446744073709551616) (w:World) :
  Calls Tryz.prog 177 #[.int .u64 hi,.int .u64 lo,.int .u64 y] w fun e w'=>e=.returned (.tuple #[.int .u64 (((hi * 18446744073709551616+lo) / y:Nat):Int),.int .u64 (((hi * 18446744073709551616+lo) % y:Nat):Int)])∧Below w.heap.size w w':=by
 by_cases h:hi=0
 ·subst h
  refine (div64_low lo y (by omega) (by omega) (by omega) (by omega) w).mono ?_
  rintro e w' ⟨rfl,hb⟩
  rw [Nat.zero_mul,Nat.zero_add]
  exact ⟨rfl,hb⟩
 ·exact div64_high hi lo y (by omega) h2 h3 h4 w
/-- The parts of a quotient. -/
theorem dv_parts {m b:Nat} (hb:0<b):m / b=m / 18446744073709551616 / b * 18446744073709551616+(m / 18446744073709551616 % b * 18446744073709551616+m % 18446744073709551616) / b ∧
  m % b=(m / 18446744073709551616 % b * 18446744073709551616+m % 18446744073709551616) % b∧(m / 18446744073709551616 % b * 18446744073709551616+m % 18446744073709551616) / b<18446744073709551616:=by
 have h1:=Nat.div_add_mod m 18446744073709551616
 have h2:=Nat.div_add_mod (m / 18446744073709551616) b
 have h3:=Nat.mod_lt (m / 18446744073709551616) hb
 have h4:=Nat.mod_lt m (show 0<18446744073709551616 by decide)
 generalize m / 18446744073709551616=h at *
 generalize m % 18446744073709551616=l at *
 generalize h / b=q at *
 generalize h % b=r at *
 have e:m=(r * 18446744073709551616+l)+b * (q * 18446744073709551616):=by
  rw [← h1,← h2,Nat.mul_add,Nat.mul_comm 18446744073709551616 (b * q),Nat.mul_assoc];omega
 refine ⟨?_,?_,?_⟩
 ·rw [e,Nat.add_mul_div_left _ _ hb,Nat.add_comm]
 ·rw [e,Nat.add_mul_mod_self_left]
 ·rw [Nat.div_lt_iff_lt_mul hb]
  have:(r+1) * 18446744073709551616≤b * 18446744073709551616:=Nat.mul_le_mul_right _ h3
  rw [Nat.mul_comm 18446744073709551616];omega
theorem big_of (n:Bool) (c:Nat) (h l:Int) (e1:h=((c / 18446744073709551616:Nat):Int)) (e2:l=((c % 18446744073709551616:Nat):Int)):IsBig (.agg #[.bool n,.int .u64 h,.int .u64 l]) (valI n c) :=
 ⟨n,c,bigV_isN (by omega) (by omega),by omega,rfl⟩
/-- A quotient of whole numbers, rounded up. -/
theorem ceil_nat (m b:Nat) (hb:0<b):-(-(m:Int) / (b:Int))=((if m % b=0 then m / b else m / b+1:Nat):Int):=by
 have h1:=Nat.div_add_mod m b
 have h2:=Nat.mod_lt m hb
 generalize m / b=q at *
 generalize m % b=r at *
 subst h1
 by_cases e:r=0
 ·subst e
  rw [if_pos rfl]
  have:-(((b * q+0:Nat):Int))=(b:Int) * (-(q:Int)):=by rw [Nat.add_zero,Int.natCast_mul,Int.mul_neg]
  rw [this,Int.mul_ediv_cancel_left _ (by omega),Int.neg_neg]
 ·rw [if_neg e]
  have:-(((b * q+r:Nat):Int))=((b:Int) - (r:Int))+(b:Int) * (-(q:Int) - 1):=by
   rw [Int.natCast_add,Int.natCast_mul,Int.mul_sub,Int.mul_neg];omega
  rw [this,Int.add_mul_ediv_left _ _ (by omega),Int.ediv_eq_zero_of_lt (by omega) (by omega)]
  omega
theorem divide_any (n:Bool) (m b:Nat) (hb:0<b) (hb2:b<18446744073709551616) (hm:m<170141183460469231731687303715884105728) (w:World) :
  Calls Tryz.prog 140 #[bigV n (m / 18446744073709551616:Nat) (m % 18446744073709551616:Nat),bigV false 0 b] w
   (HulPost (valI n m / b) (-(-(valI n m) / b)) w.heap.size w):=by
 obtain ⟨hn,hhn⟩:∃ z:Nat,m / 18446744073709551616=z:=⟨_,rfl⟩
 obtain ⟨ln,hln⟩:∃ z:Nat,m % 18446744073709551616=z:=⟨_,rfl⟩
 obtain ⟨p1,p2,p3⟩:=dv_parts (m:=m) hb
 rw [hhn,hln]
 rw [hhn,hln] at p1 p2 p3
 obtain ⟨qh,hqh⟩:∃ z:Nat,hn / b=z:=⟨_,rfl⟩
 obtain ⟨rh,hrh⟩:∃ z:Nat,hn % b=z:=⟨_,rfl⟩
 have HD:=Lib.hid (fun w=>div64_any rh ln b (by omega) (by rw [← hrh];exact Nat.mod_lt _ hb) hb2 w)
 rw [hqh,hrh] at p1
 rw [hrh] at p2 p3
 have e1:(hn:Int) / (b:Int)=(qh:Int):=by rw [← hqh];exact (Int.natCast_ediv _ _).symm
 have e2:(hn:Int) % (b:Int)=(rh:Int):=by rw [← hrh];exact (Int.natCast_emod _ _).symm
 have hqhb:qh<18446744073709551616:=by rw [← hqh];exact Nat.lt_of_le_of_lt (Nat.div_le_self _ _) (by omega)
 have e3:IntKind.u64.wrap (qh:Int)=(qh:Int):=by rw [IntKind.wrap_u64];omega
 have hb0:(b:Int) ≠ 0:=by omega
 have hb0':((b:Int) == 0)=false:=by simp;omega
 have hb1:b ≠ 0:=by omega
 unfold bigV
 go_enter Tryz.func140,Tryz.ntmps140
 go_upto_region 4 with (fail)
 go_region
 try rw [e2]
 obtain ⟨qb,hqb⟩:∃ qb,w.heap.size=qb:=⟨_,rfl⟩
 obtain ⟨W0,hW0⟩:∃ W0,((((((w.alloc (.cells #[.bool n,.int .u64 hn,.int .u64 ln] 217)).alloc (.cells #[.bool false,.int .u64 0,.int .u64 b] 217)).alloc (.cells #[.bool false,.int .u64 0,.int .u64 0] 217)).alloc (.cells #[.bool false,.int .u64 0,.int .u64 0] 217)).alloc (.cells #[.bool false,.int .u64 qh,.int .u64 0] 217)).alloc (.cells #[.bool false,.int .u64 0,.int .u64 0] 217)).drew=W0:=⟨_,rfl⟩
 have HA0:Hid (Bk W0 (qb) 217 #[.bool n,.int .u64 hn,.int .u64 ln]):=Lib.hid (by rw [← hW0,← hqb];exact ((((((Bk.new _ _ _).alloc _).alloc _).alloc _).alloc _).alloc _).drewN 1)
 have HY0:Hid (Bk W0 (qb+1) 217 #[.bool false,.int .u64 0,.int .u64 b]):=Lib.hid (by rw [← hW0,← hqb];exact (((((Bk.newAt _ _ _ _ (by simp)).alloc _).alloc _).alloc _).alloc _).drewN 1)
 have HS0:Hid (Bk W0 (qb+1+1) 217 #[.bool false,.int .u64 0,.int .u64 0]):=Lib.hid (by rw [← hW0,← hqb];exact ((((Bk.newAt _ _ _ _ (by simp)).alloc _).alloc _).alloc _).drewN 1)
 have HT0:Hid (Bk W0 (qb+1+1+1) 217 #[.bool false,.int .u64 0,.int .u64 0]):=Lib.hid (by rw [← hW0,← hqb];exact (((Bk.newAt _ _ _ _ (by simp)).alloc _).alloc _).drewN 1)
 have HQ0:Hid (Bk W0 (qb+1+1+1+1) 217 #[.bool false,.int .u64 qh,.int .u64 0]):=Lib.hid (by rw [← hW0,← hqb];exact ((Bk.newAt _ _ _ _ (by simp)).alloc _).drewN 1)
 have HR0:Hid (Bk W0 (qb+1+1+1+1+1) 217 #[.bool false,.int .u64 0,.int .u64 0]):=Lib.hid (by rw [← hW0,← hqb];exact (Bk.newAt _ _ _ _ (by simp)).drewN 1)
 have HB0:Hid (Below qb w W0):=Lib.hid (by rw [← hW0,← hqb];exact (((((((Below.refl _ w).alloc (Nat.le_refl _) _).alloc (by simp) _).alloc (by simp <;> omega) _).alloc (by simp <;> omega) _).alloc (by simp <;> omega) _).alloc (by simp <;> omega) _).drew)
 rw [hW0,hqb]
 have HQB:=Lib.hid hqb
 clear hW0 hqb
 have b1:W0.cell? ⟨qb+1,2,none⟩=some (.int .u64 b):=HY0.out.cell 2
 have a2:W0.cell? ⟨qb,2,none⟩=some (.int .u64 ln):=HA0.out.cell 2
 go_wp2_with fail
 refine (HD.out _).mono ?_
 rintro e w1 ⟨rfl,hw1⟩
 have HA1:Hid (Bk w1 (qb) 217 #[.bool n,.int .u64 hn,.int .u64 ln]):=Lib.hid (HA0.out.below hw1 HA0.out.lt)
 have HS1:Hid (Bk w1 (qb+1+1) 217 #[.bool false,.int .u64 0,.int .u64 0]):=Lib.hid (HS0.out.below hw1 HS0.out.lt)
 have HT1:Hid (Bk w1 (qb+1+1+1) 217 #[.bool false,.int .u64 0,.int .u64 0]):=Lib.hid (HT0.out.below hw1 HT0.out.lt)
 have HQ1:Hid (Bk w1 (qb+1+1+1+1) 217 #[.bool false,.int .u64 qh,.int .u64 0]):=Lib.hid (HQ0.out.below hw1 HQ0.out.lt)
 have HR1:Hid (Bk w1 (qb+1+1+1+1+1) 217 #[.bool false,.int .u64 0,.int .u64 0]):=Lib.hid (HR0.out.below hw1 HR0.out.lt)
 have HB1:Hid (Below qb w w1):=Lib.hid (HB0.out.trans (hw1.mono (Nat.le_of_lt HA0.out.lt)))
 clear hw1 b1 a2
 obtain ⟨ql,hql⟩:∃ z:Nat,(rh * 18446744073709551616+ln) / b=z:=⟨_,rfl⟩
 obtain ⟨rl,hrl⟩:∃ z:Nat,(rh * 18446744073709551616+ln) % b=z:=⟨_,rfl⟩
 rw [hql,hrl]
 rw [hql] at p1 p3
 rw [hrl] at p2
 have q2:w1.cell? ⟨qb+1+1+1+1,2,none⟩=some (.int .u64 0):=HQ1.out.cell 2
 have r2:w1.cell? ⟨qb+1+1+1+1+1,2,none⟩=some (.int .u64 0):=HR1.out.cell 2
 have qf:w1.frozen? ⟨qb+1+1+1+1,2,none⟩=false:=HQ1.out.free 2
 have rf:w1.frozen? ⟨qb+1+1+1+1+1,2,none⟩=false:=HR1.out.free 2
 clear hql hrl
 go_upto_region 7 with (fail)
 clear q2 r2 qf rf
 obtain ⟨W2,hW2⟩:∃ W2,(w1.setCell ⟨qb+1+1+1+1,2,none⟩ (.int .u64 ql)).setCell ⟨qb+1+1+1+1+1,2,none⟩ (.int .u64 rl)=W2:=⟨_,rfl⟩
 have HA2:Hid (Bk W2 (qb) 217 #[.bool n,.int .u64 hn,.int .u64 ln]):=Lib.hid (by rw [← hW2];exact (HA1.out.far (p:=⟨qb+1+1+1+1,2,none⟩) (by simp <;> omega) _).far (p:=⟨qb+1+1+1+1+1,2,none⟩) (by simp <;> omega) _)
 have HS2:Hid (Bk W2 (qb+1+1) 217 #[.bool false,.int .u64 0,.int .u64 0]):=Lib.hid (by rw [← hW2];exact (HS1.out.far (p:=⟨qb+1+1+1+1,2,none⟩) (by simp <;> omega) _).far (p:=⟨qb+1+1+1+1+1,2,none⟩) (by simp <;> omega) _)
 have HT2:Hid (Bk W2 (qb+1+1+1) 217 #[.bool false,.int .u64 0,.int .u64 0]):=Lib.hid (by rw [← hW2];exact (HT1.out.far (p:=⟨qb+1+1+1+1,2,none⟩) (by simp <;> omega) _).far (p:=⟨qb+1+1+1+1+1,2,none⟩) (by simp <;> omega) _)
 have HQ2:Hid (Bk W2 (qb+1+1+1+1) 217 #[.bool false,.int .u64 qh,.int .u64 ql]):=Lib.hid (by rw [← hW2];exact (HQ1.out.set 2 (.int .u64 ql)).far (p:=⟨qb+1+1+1+1+1,2,none⟩) (by simp <;> omega) _)
 have HR2:Hid (Bk W2 (qb+1+1+1+1+1) 217 #[.bool false,.int .u64 0,.int .u64 rl]):=Lib.hid (by rw [← hW2];exact (HR1.out.far (p:=⟨qb+1+1+1+1,2,none⟩) (by simp <;> omega) _).set 2 (.int .u64 rl))
 have HB2:Hid (Below qb w W2):=Lib.hid (by rw [← hW2];exact (HB1.out.setCell (p:=⟨qb+1+1+1+1,2,none⟩) (by simp <;> omega) _).setCell (p:=⟨qb+1+1+1+1+1,2,none⟩) (by simp <;> omega) _)
 rw [hW2]
 clear hW2
 obtain ⟨gx,hgx⟩:∃ gx,W2.heap.size=gx:=⟨_,rfl⟩
 have HGX:Hid (qb+1+1+1+1+1<gx):=Lib.hid (by rw [← hgx];exact HR2.out.lt)
 obtain ⟨W3,hW3⟩:∃ W3,W2.alloc (.cells #[.bool false,.int .u64 qh,.int .u64 ql] 217)=W3:=⟨_,rfl⟩
 have HX3:Hid (Bk W3 gx 217 #[.bool false,.int .u64 qh,.int .u64 ql]):=Lib.hid (by rw [← hW3,← hgx];exact Bk.new _ _ _)
 have HA3:Hid (Bk W3 (qb) 217 #[.bool n,.int .u64 hn,.int .u64 ln]):=Lib.hid (by rw [← hW3];exact HA2.out.alloc _)
 have HS3:Hid (Bk W3 (qb+1+1) 217 #[.bool false,.int .u64 0,.int .u64 0]):=Lib.hid (by rw [← hW3];exact HS2.out.alloc _)
 have HT3:Hid (Bk W3 (qb+1+1+1) 217 #[.bool false,.int .u64 0,.int .u64 0]):=Lib.hid (by rw [← hW3];exact HT2.out.alloc _)
 have HQ3:Hid (Bk W3 (qb+1+1+1+1) 217 #[.bool false,.int .u64 qh,.int .u64 ql]):=Lib.hid (by rw [← hW3];exact HQ2.out.alloc _)
 have HR3:Hid (Bk W3 (qb+1+1+1+1+1) 217 #[.bool false,.int .u64 0,.int .u64 rl]):=Lib.hid (by rw [← hW3];exact HR2.out.alloc _)
 have HB3:Hid (Below qb w W3):=Lib.hid (by rw [← hW3];exact HB2.out.alloc (Nat.le_of_lt HA2.out.lt) _)
 go_upto_region 8 with ((refine wpLoadAt rfl 217 _ rfl (qb+1+1+1+1) 0 rfl #[.bool false,.int .u64 qh,.int .u64 ql] _ (fun j u hj=>by rw [Nat.zero_add,HQ2.out.cell];exact hj) und_big rfl info_big ?_))
 clear hW3 hgx
 go_wp2_with ((refine wpLoadAt rfl 217 _ rfl (qb+1+1+1+1+1) 0 rfl #[.bool false,.int .u64 0,.int .u64 rl] _ (fun j u hj=>by rw [Nat.zero_add,HR3.out.cell];exact hj) und_big rfl info_big ?_))
 refine (zero_any false 0 rl _).mono ?_
 rintro e w4 ⟨rfl,hw4⟩
 have HA4:Hid (Bk w4 (qb) 217 #[.bool n,.int .u64 hn,.int .u64 ln]):=Lib.hid (HA3.out.below hw4 HA3.out.lt)
 have HS4:Hid (Bk w4 (qb+1+1) 217 #[.bool false,.int .u64 0,.int .u64 0]):=Lib.hid (HS3.out.below hw4 HS3.out.lt)
 have HT4:Hid (Bk w4 (qb+1+1+1) 217 #[.bool false,.int .u64 0,.int .u64 0]):=Lib.hid (HT3.out.below hw4 HT3.out.lt)
 have HQ4:Hid (Bk w4 (qb+1+1+1+1) 217 #[.bool false,.int .u64 qh,.int .u64 ql]):=Lib.hid (HQ3.out.below hw4 HQ3.out.lt)
 have HX4:Hid (Bk w4 gx 217 #[.bool false,.int .u64 qh,.int .u64 ql]):=Lib.hid (HX3.out.below hw4 HX3.out.lt)
 have HB4:Hid (Below qb w w4):=Lib.hid (HB3.out.trans (hw4.mono (Nat.le_of_lt HA3.out.lt)))
 clear hw4
 have HFIN:Hid (∀ xh xl:Nat,xh=(if rl=0 then m / b else m / b+1) / 18446744073709551616→xl=(if rl=0 then m / b else m / b+1) % 18446744073709551616 →
   (∀ w',Below qb w w'→n=false→HulPost (valI n m / b) (-(-(valI n m) / b)) w.heap.size w (.returned (.tuple #[.agg #[.bool false,.int .u64 qh,.int .u64 ql],.agg #[.bool false,.int .u64 xh,.int .u64 xl]])) w') ∧
   (∀ w',Below qb w w'→n=true→HulPost (valI n m / b) (-(-(valI n m) / b)) w.heap.size w (.returned (.tuple #[.agg #[.bool true,.int .u64 xh,.int .u64 xl],.agg #[.bool true,.int .u64 qh,.int .u64 ql]])) w')):=Lib.hid (by
  intro xh xl ex el
  have hc:=ceil_nat m b hb
  rw [p2] at hc
  have hq1:qh=m / b / 18446744073709551616:=by rw [p1];omega
  have hq2:ql=m / b % 18446744073709551616:=by rw [p1];omega
  have hf:(m:Int) / (b:Int)=((m / b:Nat):Int):=(Int.natCast_ediv _ _).symm
  constructor
  ·intro w' hb' hn
   subst hn
   refine ⟨_,_,rfl,?_,?_,by rw [HQB.out];exact hb'⟩
   ·have:=big_of false (m / b) qh ql (by rw [← hq1]) (by rw [← hq2])
    rw [show valI false (m:Int) / (b:Int)=valI false ((m / b:Nat):Int) from hf];exact this
   ·have:=big_of false (if rl=0 then m / b else m / b+1) xh xl (by rw [← ex]) (by rw [← el])
    rw [show -(-(valI false (m:Int)) / (b:Int))=valI false ((if rl=0 then m / b else m / b+1:Nat):Int) from hc];exact this
  ·intro w' hb' hn
   subst hn
   refine ⟨_,_,rfl,?_,?_,by rw [HQB.out];exact hb'⟩
   ·have:=big_of true (if rl=0 then m / b else m / b+1) xh xl (by rw [← ex]) (by rw [← el])
    rw [show valI true (m:Int) / (b:Int)=valI true ((if rl=0 then m / b else m / b+1:Nat):Int) from by show -(m:Int) / (b:Int)=-_;omega];exact this
   ·have:=big_of true (m / b) qh ql (by rw [← hq1]) (by rw [← hq2])
    rw [show -(-(valI true (m:Int)) / (b:Int))=valI true ((m / b:Nat):Int) from by show -(-(-(m:Int)) / (b:Int))=-_;rw [Int.neg_neg,hf]];exact this)
 have HQV:Hid (IsBig (.agg #[.bool false,.int .u64 qh,.int .u64 ql]) ((m / b:Nat):Int)∧m / b<170141183460469231731687303715884105728∧qh=m / b / 18446744073709551616∧ql=m / b % 18446744073709551616):=Lib.hid (by
  have hq1:qh=m / b / 18446744073709551616:=by rw [p1];omega
  have hq2:ql=m / b % 18446744073709551616:=by rw [p1];omega
  exact ⟨big_of false (m / b) qh ql (by rw [← hq1]) (by rw [← hq2]),Nat.lt_of_le_of_lt (Nat.div_le_self _ _) hm,hq1,hq2⟩)
 clear e1 e2 e3 hqh hrh p1 p2 p3 hhn hln hm
 obtain ⟨qq,hqq⟩:∃ z:Nat,m / b=z:=⟨_,rfl⟩
 rw [hqq] at HFIN HQV
 clear hqq
 by_cases hz:rl=0
 ·rw [show (decide ((0:Int)=0) && decide ((rl:Int)=0))=true by simp [hz]]
  obtain ⟨w6,hw6⟩:∃ w6,w4=w6:=⟨_,rfl⟩
  subst hw6
  obtain ⟨xh,hxh⟩:∃ z,qh=z:=⟨_,rfl⟩
  obtain ⟨xl,hxl⟩:∃ z,ql=z:=⟨_,rfl⟩
  have HFF:Hid (∀ w',Below qb w w'→n=false→HulPost (valI n m / b) (-(-(valI n m) / b)) w.heap.size w (.returned (.tuple #[.agg #[.bool false,.int .u64 qh,.int .u64 ql],.agg #[.bool false,.int .u64 xh,.int .u64 xl]])) w'):=Lib.hid (HFIN.out xh xl (by rw [if_pos hz,← hxh];exact HQV.out.2.2.1) (by rw [if_pos hz,← hxl];exact HQV.out.2.2.2)).1
  have HFT:Hid (∀ w',Below qb w w'→n=true→HulPost (valI n m / b) (-(-(valI n m) / b)) w.heap.size w (.returned (.tuple #[.agg #[.bool true,.int .u64 xh,.int .u64 xl],.agg #[.bool true,.int .u64 qh,.int .u64 ql]])) w'):=Lib.hid (HFIN.out xh xl (by rw [if_pos hz,← hxh];exact HQV.out.2.2.1) (by rw [if_pos hz,← hxl];exact HQV.out.2.2.2)).2
  have HX6:Hid (Bk w4 gx 217 #[.bool false,.int .u64 xh,.int .u64 xl]):=Lib.hid (by rw [← hxh,← hxl];exact HX4.out)
  have HA6:=HA4
  have HQ6:=HQ4
  have HS7:=HS4
  have HT7:=HT4
  have HB7:=HB4
  clear HFIN hxh hxl hz
  have c0:w4.cell? ⟨qb,0,none⟩=some (.bool n):=HA6.out.cell 0
  cases n
  ·go_upto_region 13 with (fail)
   clear c0
   have cs0:w4.cell? ⟨qb+1+1+1+1,0,none⟩=some (.bool false):=HQ6.out.cell 0
   have ct0:w4.cell? ⟨gx,0,none⟩=some (.bool false):=HX6.out.cell 0
   have cu0:w4.cell? ⟨qb+1+1,0,none⟩=some (.bool false):=HS7.out.cell 0
   have cv0:w4.cell? ⟨qb+1+1+1,0,none⟩=some (.bool false):=HT7.out.cell 0
   have fu0:w4.frozen? ⟨qb+1+1,0,none⟩=false:=HS7.out.free 0
   have fv0:w4.frozen? ⟨qb+1+1+1,0,none⟩=false:=HT7.out.free 0
   have cs1:w4.cell? ⟨qb+1+1+1+1,1,none⟩=some (.int .u64 qh):=HQ6.out.cell 1
   have ct1:w4.cell? ⟨gx,1,none⟩=some (.int .u64 xh):=HX6.out.cell 1
   have cu1:w4.cell? ⟨qb+1+1,1,none⟩=some (.int .u64 0):=HS7.out.cell 1
   have cv1:w4.cell? ⟨qb+1+1+1,1,none⟩=some (.int .u64 0):=HT7.out.cell 1
   have fu1:w4.frozen? ⟨qb+1+1,1,none⟩=false:=HS7.out.free 1
   have fv1:w4.frozen? ⟨qb+1+1+1,1,none⟩=false:=HT7.out.free 1
   have cs2:w4.cell? ⟨qb+1+1+1+1,2,none⟩=some (.int .u64 ql):=HQ6.out.cell 2
   have ct2:w4.cell? ⟨gx,2,none⟩=some (.int .u64 xl):=HX6.out.cell 2
   have cu2:w4.cell? ⟨qb+1+1,2,none⟩=some (.int .u64 0):=HS7.out.cell 2
   have cv2:w4.cell? ⟨qb+1+1+1,2,none⟩=some (.int .u64 0):=HT7.out.cell 2
   have fu2:w4.frozen? ⟨qb+1+1,2,none⟩=false:=HS7.out.free 2
   have fv2:w4.frozen? ⟨qb+1+1+1,2,none⟩=false:=HT7.out.free 2
   have hg5:qb+1+1+1+1+1<gx:=HGX.out
   have hg2:gx ≠ qb+1+1:=by omega
   have hg3:gx ≠ qb+1+1+1:=by omega
   have hg4:gx ≠ qb+1+1+1+1:=by omega
   have hh2:qb+1+1 ≠ gx:=by omega
   have hh3:qb+1+1+1 ≠ gx:=by omega
   have hh4:qb+1+1+1+1 ≠ gx:=by omega
   go_region
   obtain ⟨W8,hW8⟩:∃ W8,((((((w4.setCell ⟨qb+1+1,0,none⟩ (.bool false)).setCell ⟨qb+1+1,1,none⟩ (.int .u64 qh)).setCell ⟨qb+1+1,2,none⟩ (.int .u64 ql)).setCell ⟨qb+1+1+1,0,none⟩ (.bool false)).setCell ⟨qb+1+1+1,1,none⟩ (.int .u64 xh)).setCell ⟨qb+1+1+1,2,none⟩ (.int .u64 xl)).drew=W8:=⟨_,rfl⟩
   have HS8:Hid (Bk W8 (qb+1+1) 217 #[.bool false,.int .u64 qh,.int .u64 ql]):=Lib.hid (by
    rw [← hW8]
    exact ((((((HS7.out.set 0 (.bool false)).set 1 (.int .u64 qh)).set 2 (.int .u64 ql)).far (p:=⟨qb+1+1+1,0,none⟩) (by simp <;> omega) _).far (p:=⟨qb+1+1+1,1,none⟩) (by simp <;> omega) _).far (p:=⟨qb+1+1+1,2,none⟩) (by simp <;> omega) _).drewN 1)
   have HT8:Hid (Bk W8 (qb+1+1+1) 217 #[.bool false,.int .u64 xh,.int .u64 xl]):=Lib.hid (by
    rw [← hW8]
    exact ((((((HT7.out.far (p:=⟨qb+1+1,0,none⟩) (by simp <;> omega) _).far (p:=⟨qb+1+1,1,none⟩) (by simp <;> omega) _).far (p:=⟨qb+1+1,2,none⟩) (by simp <;> omega) _).set 0 (.bool false)).set 1 (.int .u64 xh)).set 2 (.int .u64 xl)).drewN 1)
   have HB8:Hid (Below qb w W8):=Lib.hid (by
    rw [← hW8]
    exact ((((((HB7.out.setCell (p:=⟨qb+1+1,0,none⟩) (by simp <;> omega) _).setCell (p:=⟨qb+1+1,1,none⟩) (by simp <;> omega) _).setCell (p:=⟨qb+1+1,2,none⟩) (by simp <;> omega) _).setCell (p:=⟨qb+1+1+1,0,none⟩) (by simp <;> omega) _).setCell (p:=⟨qb+1+1+1,1,none⟩) (by simp <;> omega) _).setCell (p:=⟨qb+1+1+1,2,none⟩) (by simp <;> omega) _).drew)
   rw [hW8]
   clear hW8 cs0 ct0 cu0 cv0 fu0 fv0 cs1 ct1 cu1 cv1 fu1 fv1 cs2 ct2 cu2 cv2 fu2 fv2
   go_wp2_with fail
   exact ret_big2 rfl rfl rfl rfl HS8.out HT8.out (HFF.out _ HB8.out (by simp))
  ·have x0:w4.cell? ⟨gx,0,none⟩=some (.bool false):=HX6.out.cell 0
   have y0:w4.cell? ⟨qb+1+1+1+1,0,none⟩=some (.bool false):=HQ6.out.cell 0
   have xf:w4.frozen? ⟨gx,0,none⟩=false:=HX6.out.free 0
   have yf:w4.frozen? ⟨qb+1+1+1+1,0,none⟩=false:=HQ6.out.free 0
   have hgx:qb+1+1+1+1+1<gx:=HGX.out
   have hne:(qb+1+1+1+1=gx)=False:=by simp;omega
   have hne':(gx=qb+1+1+1+1)=False:=by simp;omega
   go_upto_region 12 with (fail)
   clear c0 x0 y0 xf yf hne hne'
   obtain ⟨w7,hw7⟩:∃ w7,(w4.setCell ⟨gx,0,none⟩ (.bool true)).setCell ⟨qb+1+1+1+1,0,none⟩ (.bool true)=w7:=⟨_,rfl⟩
   have HX7:Hid (Bk w7 gx 217 #[.bool true,.int .u64 xh,.int .u64 xl]):=Lib.hid (by rw [← hw7];exact (HX6.out.set 0 (.bool true)).far (p:=⟨qb+1+1+1+1,0,none⟩) (by simp <;> omega) _)
   have HQ7:Hid (Bk w7 (qb+1+1+1+1) 217 #[.bool true,.int .u64 qh,.int .u64 ql]):=Lib.hid (by rw [← hw7];exact (HQ6.out.far (p:=⟨gx,0,none⟩) (by simp <;> omega) _).set 0 (.bool true))
   have HS7:Hid (Bk w7 (qb+1+1) 217 #[.bool false,.int .u64 0,.int .u64 0]):=Lib.hid (by rw [← hw7];exact (HS7.out.far (p:=⟨gx,0,none⟩) (by simp <;> omega) _).far (p:=⟨qb+1+1+1+1,0,none⟩) (by simp <;> omega) _)
   have HT7:Hid (Bk w7 (qb+1+1+1) 217 #[.bool false,.int .u64 0,.int .u64 0]):=Lib.hid (by rw [← hw7];exact (HT7.out.far (p:=⟨gx,0,none⟩) (by simp <;> omega) _).far (p:=⟨qb+1+1+1+1,0,none⟩) (by simp <;> omega) _)
   have HB7:Hid (Below qb w w7):=Lib.hid (by rw [← hw7];exact (HB7.out.setCell (p:=⟨gx,0,none⟩) (by simp <;> omega) _).setCell (p:=⟨qb+1+1+1+1,0,none⟩) (by simp <;> omega) _)
   rw [hw7]
   clear hw7 hgx
   have cs0:w7.cell? ⟨gx,0,none⟩=some (.bool true):=HX7.out.cell 0
   have ct0:w7.cell? ⟨qb+1+1+1+1,0,none⟩=some (.bool true):=HQ7.out.cell 0
   have cu0:w7.cell? ⟨qb+1+1,0,none⟩=some (.bool false):=HS7.out.cell 0
   have cv0:w7.cell? ⟨qb+1+1+1,0,none⟩=some (.bool false):=HT7.out.cell 0
   have fu0:w7.frozen? ⟨qb+1+1,0,none⟩=false:=HS7.out.free 0
   have fv0:w7.frozen? ⟨qb+1+1+1,0,none⟩=false:=HT7.out.free 0
   have cs1:w7.cell? ⟨gx,1,none⟩=some (.int .u64 xh):=HX7.out.cell 1
   have ct1:w7.cell? ⟨qb+1+1+1+1,1,none⟩=some (.int .u64 qh):=HQ7.out.cell 1
   have cu1:w7.cell? ⟨qb+1+1,1,none⟩=some (.int .u64 0):=HS7.out.cell 1
   have cv1:w7.cell? ⟨qb+1+1+1,1,none⟩=some (.int .u64 0):=HT7.out.cell 1
   have fu1:w7.frozen? ⟨qb+1+1,1,none⟩=false:=HS7.out.free 1
   have fv1:w7.frozen? ⟨qb+1+1+1,1,none⟩=false:=HT7.out.free 1
   have cs2:w7.cell? ⟨gx,2,none⟩=some (.int .u64 xl):=HX7.out.cell 2
   have ct2:w7.cell? ⟨qb+1+1+1+1,2,none⟩=some (.int .u64 ql):=HQ7.out.cell 2
   have cu2:w7.cell? ⟨qb+1+1,2,none⟩=some (.int .u64 0):=HS7.out.cell 2
   have cv2:w7.cell? ⟨qb+1+1+1,2,none⟩=some (.int .u64 0):=HT7.out.cell 2
   have fu2:w7.frozen? ⟨qb+1+1,2,none⟩=false:=HS7.out.free 2
   have fv2:w7.frozen? ⟨qb+1+1+1,2,none⟩=false:=HT7.out.free 2
   have hg5:qb+1+1+1+1+1<gx:=HGX.out
   have hg2:gx ≠ qb+1+1:=by omega
   have hg3:gx ≠ qb+1+1+1:=by omega
   have hg4:gx ≠ qb+1+1+1+1:=by omega
   have hh2:qb+1+1 ≠ gx:=by omega
   have hh3:qb+1+1+1 ≠ gx:=by omega
   have hh4:qb+1+1+1+1 ≠ gx:=by omega
   go_region
   obtain ⟨W8,hW8⟩:∃ W8,((((((w7.setCell ⟨qb+1+1,0,none⟩ (.bool true)).setCell ⟨qb+1+1,1,none⟩ (.int .u64 xh)).setCell ⟨qb+1+1,2,none⟩ (.int .u64 xl)).setCell ⟨qb+1+1+1,0,none⟩ (.bool true)).setCell ⟨qb+1+1+1,1,none⟩ (.int .u64 qh)).setCell ⟨qb+1+1+1,2,none⟩ (.int .u64 ql)).drew=W8:=⟨_,rfl⟩
   have HS8:Hid (Bk W8 (qb+1+1) 217 #[.bool true,.int .u64 xh,.int .u64 xl]):=Lib.hid (by
    rw [← hW8]
    exact ((((((HS7.out.set 0 (.bool true)).set 1 (.int .u64 xh)).set 2 (.int .u64 xl)).far (p:=⟨qb+1+1+1,0,none⟩) (by simp <;> omega) _).far (p:=⟨qb+1+1+1,1,none⟩) (by simp <;> omega) _).far (p:=⟨qb+1+1+1,2,none⟩) (by simp <;> omega) _).drewN 1)
   have HT8:Hid (Bk W8 (qb+1+1+1) 217 #[.bool true,.int .u64 qh,.int .u64 ql]):=Lib.hid (by
    rw [← hW8]
    exact ((((((HT7.out.far (p:=⟨qb+1+1,0,none⟩) (by simp <;> omega) _).far (p:=⟨qb+1+1,1,none⟩) (by simp <;> omega) _).far (p:=⟨qb+1+1,2,none⟩) (by simp <;> omega) _).set 0 (.bool true)).set 1 (.int .u64 qh)).set 2 (.int .u64 ql)).drewN 1)
   have HB8:Hid (Below qb w W8):=Lib.hid (by
    rw [← hW8]
    exact ((((((HB7.out.setCell (p:=⟨qb+1+1,0,none⟩) (by simp <;> omega) _).setCell (p:=⟨qb+1+1,1,none⟩) (by simp <;> omega) _).setCell (p:=⟨qb+1+1,2,none⟩) (by simp <;> omega) _).setCell (p:=⟨qb+1+1+1,0,none⟩) (by simp <;> omega) _).setCell (p:=⟨qb+1+1+1,1,none⟩) (by simp <;> omega) _).setCell (p:=⟨qb+1+1+1,2,none⟩) (by simp <;> omega) _).drew)
   rw [hW8]
   clear hW8 cs0 ct0 cu0 cv0 fu0 fv0 cs1 ct1 cu1 cv1 fu1 fv1 cs2 ct2 cu2 cv2 fu2 fv2
   go_wp2_with fail
   exact ret_big2 rfl rfl rfl rfl HS8.out HT8.out (HFT.out _ HB8.out (by simp))
 ·rw [show (decide ((0:Int)=0) && decide ((rl:Int)=0))=false by simp [hz]]
  have y1:w4.cell? ⟨qb+1+1+1+1,1,none⟩=some (.int .u64 qh):=HQ4.out.cell 1
  have y2:w4.cell? ⟨qb+1+1+1+1,2,none⟩=some (.int .u64 ql):=HQ4.out.cell 2
  go_wp2_with fail
  refine (plus_any HQV.out.1 (big_of false 1 0 1 (by decide) (by decide)) ⟨by have:=HQV.out.2.1;omega,by have:=HQV.out.2.1;omega⟩ ⟨by decide,by decide⟩ _).mono ?_
  rintro e w5 ⟨r,rfl,hr,hw5⟩
  obtain ⟨n',m',rfl,hp,hv⟩:=hr
  have hs:=val_size hp hv
  have hv1:valI false 1=1:=rfl
  rw [show ((1:Nat):Int)=1 from rfl,hv1] at hv hs
  obtain ⟨xh,hxh⟩:∃ z:Nat,(qq+1) / 18446744073709551616=z:=⟨_,rfl⟩
  obtain ⟨xl,hxl⟩:∃ z:Nat,(qq+1) % 18446744073709551616=z:=⟨_,rfl⟩
  have hmm:m'=((qq+1:Nat):Int):=by omega
  have hnn:n'=false:=by
   cases n' with
   | false=>rfl
   | true=>exfalso;unfold valI at hv;rw [if_pos rfl] at hv;omega
  subst hmm hnn
  rw [show bigN false ((qq+1:Nat):Int)=.agg #[.bool false,.int .u64 xh,.int .u64 xl] from by rw [← hxh,← hxl];exact bigV_isN (by omega) (by omega) |>.symm]
  have HFF:Hid (∀ w',Below qb w w'→n=false→HulPost (valI n m / b) (-(-(valI n m) / b)) w.heap.size w (.returned (.tuple #[.agg #[.bool false,.int .u64 qh,.int .u64 ql],.agg #[.bool false,.int .u64 xh,.int .u64 xl]])) w'):=Lib.hid (HFIN.out xh xl (by rw [if_neg hz];exact hxh.symm) (by rw [if_neg hz];exact hxl.symm)).1
  have HFT:Hid (∀ w',Below qb w w'→n=true→HulPost (valI n m / b) (-(-(valI n m) / b)) w.heap.size w (.returned (.tuple #[.agg #[.bool true,.int .u64 xh,.int .u64 xl],.agg #[.bool true,.int .u64 qh,.int .u64 ql]])) w'):=Lib.hid (HFIN.out xh xl (by rw [if_neg hz];exact hxh.symm) (by rw [if_neg hz];exact hxl.symm)).2
  have HA5:Hid (Bk w5 (qb) 217 #[.bool n,.int .u64 hn,.int .u64 ln]):=Lib.hid (HA4.out.below hw5 HA4.out.lt)
  have HS5:Hid (Bk w5 (qb+1+1) 217 #[.bool false,.int .u64 0,.int .u64 0]):=Lib.hid (HS4.out.below hw5 HS4.out.lt)
  have HT5:Hid (Bk w5 (qb+1+1+1) 217 #[.bool false,.int .u64 0,.int .u64 0]):=Lib.hid (HT4.out.below hw5 HT4.out.lt)
  have HQ5:Hid (Bk w5 (qb+1+1+1+1) 217 #[.bool false,.int .u64 qh,.int .u64 ql]):=Lib.hid (HQ4.out.below hw5 HQ4.out.lt)
  have HX5:Hid (Bk w5 gx 217 #[.bool false,.int .u64 qh,.int .u64 ql]):=Lib.hid (HX4.out.below hw5 HX4.out.lt)
  have HB5:Hid (Below qb w w5):=Lib.hid (HB4.out.trans (hw5.mono (Nat.le_of_lt HA4.out.lt)))
  clear HFIN hxh hxl hz hs hp hv hv1 hw5 y1 y2 HQV
  go_upto_region 10 with ((refine wpStoreAt rfl rfl 217 _ _ rfl (gx) 0 rfl #[.bool false,.int .u64 xh,.int .u64 xl] rfl 217 _ HX5.out (by show 0+3≤3;omega) (one3 _ _ _) info_big ?_;intro w6 hkw6 how6))
  rw [splA_all #[.bool false,.int .u64 qh,.int .u64 ql] #[.bool false,.int .u64 xh,.int .u64 xl] rfl] at hkw6
  have HX6:=Lib.hid hkw6
  have hgx2:qb+1+1+1+1+1<gx:=HGX.out
  have HA6:Hid (Bk w6 (qb) 217 #[.bool n,.int .u64 hn,.int .u64 ln]):=Lib.hid (HA5.out.only how6 (by omega))
  have HS7:Hid (Bk w6 (qb+1+1) 217 #[.bool false,.int .u64 0,.int .u64 0]):=Lib.hid (HS5.out.only how6 (by omega))
  have HT7:Hid (Bk w6 (qb+1+1+1) 217 #[.bool false,.int .u64 0,.int .u64 0]):=Lib.hid (HT5.out.only how6 (by omega))
  have HQ6:Hid (Bk w6 (qb+1+1+1+1) 217 #[.bool false,.int .u64 qh,.int .u64 ql]):=Lib.hid (HQ5.out.only how6 (by omega))
  have HB7:Hid (Below qb w w6):=Lib.hid (HB5.out.trans (how6.below (by omega)))
  clear hkw6 how6 hgx2
  have c0:w6.cell? ⟨qb,0,none⟩=some (.bool n):=HA6.out.cell 0
  cases n
  ·go_upto_region 13 with (fail)
   clear c0
   have cs0:w6.cell? ⟨qb+1+1+1+1,0,none⟩=some (.bool false):=HQ6.out.cell 0
   have ct0:w6.cell? ⟨gx,0,none⟩=some (.bool false):=HX6.out.cell 0
   have cu0:w6.cell? ⟨qb+1+1,0,none⟩=some (.bool false):=HS7.out.cell 0
   have cv0:w6.cell? ⟨qb+1+1+1,0,none⟩=some (.bool false):=HT7.out.cell 0
   have fu0:w6.frozen? ⟨qb+1+1,0,none⟩=false:=HS7.out.free 0
   have fv0:w6.frozen? ⟨qb+1+1+1,0,none⟩=false:=HT7.out.free 0
   have cs1:w6.cell? ⟨qb+1+1+1+1,1,none⟩=some (.int .u64 qh):=HQ6.out.cell 1
   have ct1:w6.cell? ⟨gx,1,none⟩=some (.int .u64 xh):=HX6.out.cell 1
   have cu1:w6.cell? ⟨qb+1+1,1,none⟩=some (.int .u64 0):=HS7.out.cell 1
   have cv1:w6.cell? ⟨qb+1+1+1,1,none⟩=some (.int .u64 0):=HT7.out.cell 1
   have fu1:w6.frozen? ⟨qb+1+1,1,none⟩=false:=HS7.out.free 1
   have fv1:w6.frozen? ⟨qb+1+1+1,1,none⟩=false:=HT7.out.free 1
   have cs2:w6.cell? ⟨qb+1+1+1+1,2,none⟩=some (.int .u64 ql):=HQ6.out.cell 2
   have ct2:w6.cell? ⟨gx,2,none⟩=some (.int .u64 xl):=HX6.out.cell 2
   have cu2:w6.cell? ⟨qb+1+1,2,none⟩=some (.int .u64 0):=HS7.out.cell 2
   have cv2:w6.cell? ⟨qb+1+1+1,2,none⟩=some (.int .u64 0):=HT7.out.cell 2
   have fu2:w6.frozen? ⟨qb+1+1,2,none⟩=false:=HS7.out.free 2
   have fv2:w6.frozen? ⟨qb+1+1+1,2,none⟩=false:=HT7.out.free 2
   have hg5:qb+1+1+1+1+1<gx:=HGX.out
   have hg2:gx ≠ qb+1+1:=by omega
   have hg3:gx ≠ qb+1+1+1:=by omega
   have hg4:gx ≠ qb+1+1+1+1:=by omega
   have hh2:qb+1+1 ≠ gx:=by omega
   have hh3:qb+1+1+1 ≠ gx:=by omega
   have hh4:qb+1+1+1+1 ≠ gx:=by omega
   go_region
   obtain ⟨W8,hW8⟩:∃ W8,((((((w6.setCell ⟨qb+1+1,0,none⟩ (.bool false)).setCell ⟨qb+1+1,1,none⟩ (.int .u64 qh)).setCell ⟨qb+1+1,2,none⟩ (.int .u64 ql)).setCell ⟨qb+1+1+1,0,none⟩ (.bool false)).setCell ⟨qb+1+1+1,1,none⟩ (.int .u64 xh)).setCell ⟨qb+1+1+1,2,none⟩ (.int .u64 xl)).drew=W8:=⟨_,rfl⟩
   have HS8:Hid (Bk W8 (qb+1+1) 217 #[.bool false,.int .u64 qh,.int .u64 ql]):=Lib.hid (by
    rw [← hW8]
    exact ((((((HS7.out.set 0 (.bool false)).set 1 (.int .u64 qh)).set 2 (.int .u64 ql)).far (p:=⟨qb+1+1+1,0,none⟩) (by simp <;> omega) _).far (p:=⟨qb+1+1+1,1,none⟩) (by simp <;> omega) _).far (p:=⟨qb+1+1+1,2,none⟩) (by simp <;> omega) _).drewN 1)
   have HT8:Hid (Bk W8 (qb+1+1+1) 217 #[.bool false,.int .u64 xh,.int .u64 xl]):=Lib.hid (by
    rw [← hW8]
    exact ((((((HT7.out.far (p:=⟨qb+1+1,0,none⟩) (by simp <;> omega) _).far (p:=⟨qb+1+1,1,none⟩) (by simp <;> omega) _).far (p:=⟨qb+1+1,2,none⟩) (by simp <;> omega) _).set 0 (.bool false)).set 1 (.int .u64 xh)).set 2 (.int .u64 xl)).drewN 1)
   have HB8:Hid (Below qb w W8):=Lib.hid (by
    rw [← hW8]
    exact ((((((HB7.out.setCell (p:=⟨qb+1+1,0,none⟩) (by simp <;> omega) _).setCell (p:=⟨qb+1+1,1,none⟩) (by simp <;> omega) _).setCell (p:=⟨qb+1+1,2,none⟩) (by simp <;> omega) _).setCell (p:=⟨qb+1+1+1,0,none⟩) (by simp <;> omega) _).setCell (p:=⟨qb+1+1+1,1,none⟩) (by simp <;> omega) _).setCell (p:=⟨qb+1+1+1,2,none⟩) (by simp <;> omega) _).drew)
   rw [hW8]
   clear hW8 cs0 ct0 cu0 cv0 fu0 fv0 cs1 ct1 cu1 cv1 fu1 fv1 cs2 ct2 cu2 cv2 fu2 fv2
   go_wp2_with fail
   exact ret_big2 rfl rfl rfl rfl HS8.out HT8.out (HFF.out _ HB8.out (by simp))
  ·have x0:w6.cell? ⟨gx,0,none⟩=some (.bool false):=HX6.out.cell 0
   have y0:w6.cell? ⟨qb+1+1+1+1,0,none⟩=some (.bool false):=HQ6.out.cell 0
   have xf:w6.frozen? ⟨gx,0,none⟩=false:=HX6.out.free 0
   have yf:w6.frozen? ⟨qb+1+1+1+1,0,none⟩=false:=HQ6.out.free 0
   have hgx:qb+1+1+1+1+1<gx:=HGX.out
   have hne:(qb+1+1+1+1=gx)=False:=by simp;omega
   have hne':(gx=qb+1+1+1+1)=False:=by simp;omega
   go_upto_region 12 with (fail)
   clear c0 x0 y0 xf yf hne hne'
   obtain ⟨w7,hw7⟩:∃ w7,(w6.setCell ⟨gx,0,none⟩ (.bool true)).setCell ⟨qb+1+1+1+1,0,none⟩ (.bool true)=w7:=⟨_,rfl⟩
   have HX7:Hid (Bk w7 gx 217 #[.bool true,.int .u64 xh,.int .u64 xl]):=Lib.hid (by rw [← hw7];exact (HX6.out.set 0 (.bool true)).far (p:=⟨qb+1+1+1+1,0,none⟩) (by simp <;> omega) _)
   have HQ7:Hid (Bk w7 (qb+1+1+1+1) 217 #[.bool true,.int .u64 qh,.int .u64 ql]):=Lib.hid (by rw [← hw7];exact (HQ6.out.far (p:=⟨gx,0,none⟩) (by simp <;> omega) _).set 0 (.bool true))
   have HS7:Hid (Bk w7 (qb+1+1) 217 #[.bool false,.int .u64 0,.int .u64 0]):=Lib.hid (by rw [← hw7];exact (HS7.out.far (p:=⟨gx,0,none⟩) (by simp <;> omega) _).far (p:=⟨qb+1+1+1+1,0,none⟩) (by simp <;> omega) _)
   have HT7:Hid (Bk w7 (qb+1+1+1) 217 #[.bool false,.int .u64 0,.int .u64 0]):=Lib.hid (by rw [← hw7];exact (HT7.out.far (p:=⟨gx,0,none⟩) (by simp <;> omega) _).far (p:=⟨qb+1+1+1+1,0,none⟩) (by simp <;> omega) _)
   have HB7:Hid (Below qb w w7):=Lib.hid (by rw [← hw7];exact (HB7.out.setCell (p:=⟨gx,0,none⟩) (by simp <;> omega) _).setCell (p:=⟨qb+1+1+1+1,0,none⟩) (by simp <;> omega) _)
   rw [hw7]
   clear hw7 hgx
   have cs0:w7.cell? ⟨gx,0,none⟩=some (.bool true):=HX7.out.cell 0
   have ct0:w7.cell? ⟨qb+1+1+1+1,0,none⟩=some (.bool true):=HQ7.out.cell 0
   have cu0:w7.cell? ⟨qb+1+1,0,none⟩=some (.bool false):=HS7.out.cell 0
   have cv0:w7.cell? ⟨qb+1+1+1,0,none⟩=some (.bool false):=HT7.out.cell 0
   have fu0:w7.frozen? ⟨qb+1+1,0,none⟩=false:=HS7.out.free 0
   have fv0:w7.frozen? ⟨qb+1+1+1,0,none⟩=false:=HT7.out.free 0
   have cs1:w7.cell? ⟨gx,1,none⟩=some (.int .u64 xh):=HX7.out.cell 1
   have ct1:w7.cell? ⟨qb+1+1+1+1,1,none⟩=some (.int .u64 qh):=HQ7.out.cell 1
   have cu1:w7.cell? ⟨qb+1+1,1,none⟩=some (.int .u64 0):=HS7.out.cell 1
   have cv1:w7.cell? ⟨qb+1+1+1,1,none⟩=some (.int .u64 0):=HT7.out.cell 1
   have fu1:w7.frozen? ⟨qb+1+1,1,none⟩=false:=HS7.out.free 1
   have fv1:w7.frozen? ⟨qb+1+1+1,1,none⟩=false:=HT7.out.free 1
   have cs2:w7.cell? ⟨gx,2,none⟩=some (.int .u64 xl):=HX7.out.cell 2
   have ct2:w7.cell? ⟨qb+1+1+1+1,2,none⟩=some (.int .u64 ql):=HQ7.out.cell 2
   have cu2:w7.cell? ⟨qb+1+1,2,none⟩=some (.int .u64 0):=HS7.out.cell 2
   have cv2:w7.cell? ⟨qb+1+1+1,2,none⟩=some (.int .u64 0):=HT7.out.cell 2
   have fu2:w7.frozen? ⟨qb+1+1,2,none⟩=false:=HS7.out.free 2
   have fv2:w7.frozen? ⟨qb+1+1+1,2,none⟩=false:=HT7.out.free 2
   have hg5:qb+1+1+1+1+1<gx:=HGX.out
   have hg2:gx ≠ qb+1+1:=by omega
   have hg3:gx ≠ qb+1+1+1:=by omega
   have hg4:gx ≠ qb+1+1+1+1:=by omega
   have hh2:qb+1+1 ≠ gx:=by omega
   have hh3:qb+1+1+1 ≠ gx:=by omega
   have hh4:qb+1+1+1+1 ≠ gx:=by omega
   go_region
   obtain ⟨W8,hW8⟩:∃ W8,((((((w7.setCell ⟨qb+1+1,0,none⟩ (.bool true)).setCell ⟨qb+1+1,1,none⟩ (.int .u64 xh)).setCell ⟨qb+1+1,2,none⟩ (.int .u64 xl)).setCell ⟨qb+1+1+1,0,none⟩ (.bool true)).setCell ⟨qb+1+1+1,1,none⟩ (.int .u64 qh)).setCell ⟨qb+1+1+1,2,none⟩ (.int .u64 ql)).drew=W8:=⟨_,rfl⟩
   have HS8:Hid (Bk W8 (qb+1+1) 217 #[.bool true,.int .u64 xh,.int .u64 xl]):=Lib.hid (by
    rw [← hW8]
    exact ((((((HS7.out.set 0 (.bool true)).set 1 (.int .u64 xh)).set 2 (.int .u64 xl)).far (p:=⟨qb+1+1+1,0,none⟩) (by simp <;> omega) _).far (p:=⟨qb+1+1+1,1,none⟩) (by simp <;> omega) _).far (p:=⟨qb+1+1+1,2,none⟩) (by simp <;> omega) _).drewN 1)
   have HT8:Hid (Bk W8 (qb+1+1+1) 217 #[.bool true,.int .u64 qh,.int .u64 ql]):=Lib.hid (by
    rw [← hW8]
    exact ((((((HT7.out.far (p:=⟨qb+1+1,0,none⟩) (by simp <;> omega) _).far (p:=⟨qb+1+1,1,none⟩) (by simp <;> omega) _).far (p:=⟨qb+1+1,2,none⟩) (by simp <;> omega) _).set 0 (.bool true)).set 1 (.int .u64 qh)).set 2 (.int .u64 ql)).drewN 1)
   have HB8:Hid (Below qb w W8):=Lib.hid (by
    rw [← hW8]
    exact ((((((HB7.out.setCell (p:=⟨qb+1+1,0,none⟩) (by simp <;> omega) _).setCell (p:=⟨qb+1+1,1,none⟩) (by simp <;> omega) _).setCell (p:=⟨qb+1+1,2,none⟩) (by simp <;> omega) _).setCell (p:=⟨qb+1+1+1,0,none⟩) (by simp <;> omega) _).setCell (p:=⟨qb+1+1+1,1,none⟩) (by simp <;> omega) _).setCell (p:=⟨qb+1+1+1,2,none⟩) (by simp <;> omega) _).drew)
   rw [hW8]
   clear hW8 cs0 ct0 cu0 cv0 fu0 fv0 cs1 ct1 cu1 cv1 fu1 fv1 cs2 ct2 cu2 cv2 fu2 fv2
   go_wp2_with fail
   exact ret_big2 rfl rfl rfl rfl HS8.out HT8.out (HFT.out _ HB8.out (by simp))

theorem allN_iff {n:Nat} {f:Nat→Bool}:allN n f=true ↔ ∀ i,i<n→f i=true:=by
 unfold allN;rw [List.all_eq_true];exact ⟨fun h i hi=>h i (List.mem_range.2 hi),fun h i hi=>h i (List.mem_range.1 hi)⟩
theorem allN_false {n:Nat} {q:Nat→Bool} {k:Nat} (hk:k<n) (h:q k=false):allN n q=false:=by unfold allN;rw [List.all_eq_false];exact ⟨k,by simpa using hk,by simp [h]⟩
def errC (a:SpanD):Int:=if chkB a=true then 0 else 2
theorem check_any (a:SpanD) (w:World):Calls Tryz.prog 71 #[spanV a] w fun e w'=>e=.returned (.int .i64 (errC a))∧Below w.heap.size w w':=by
 obtain ⟨lo,hi⟩:=a
 have H1:=Lib.hid (fun w=>valid_any lo w)
 have H2:=Lib.hid (fun w=>valid_any hi w)
 obtain ⟨R,hR⟩:∃ R,errC ⟨lo,hi⟩=R:=⟨_,rfl⟩
 rw [hR]
 unfold errC chkB at hR
 dsimp only at hR
 unfold spanV
 dsimp only
 cases v1:numB lo with
 | false =>
  have HR:Hid (R=2):=Lib.hid (by rw [← hR,v1];rfl)
  rw [v1] at H1
  clear v1 hR H2
  go_enter Tryz.func71,Tryz.ntmps71
  go_wp2_with fail
  refine (H1.out _).mono ?_
  rintro e w' ⟨rfl,rfl⟩
  go_wp2_with fail
  go_ret
  exact ⟨ret_int HR.out.symm,(Below.refl _ w).alloc (Nat.le_refl _) _⟩
 | true =>
  cases v2:numB hi with
  | false =>
   have HR:Hid (R=2):=Lib.hid (by rw [← hR,v1,v2];rfl)
   rw [v1] at H1
   rw [v2] at H2
   clear v1 v2 hR
   go_enter Tryz.func71,Tryz.ntmps71
   go_wp2_with fail
   refine (H1.out _).mono ?_
   rintro e w' ⟨rfl,rfl⟩
   go_wp2_with fail
   refine (H2.out _).mono ?_
   rintro e w' ⟨rfl,rfl⟩
   go_wp2_with fail
   go_ret
   exact ⟨ret_int HR.out.symm,(Below.refl _ w).alloc (Nat.le_refl _) _⟩
  | true =>
   by_cases h:hi<lo
   ·have HR:Hid (R=2):=Lib.hid (by rw [← hR,v1,v2,decide_eq_false (show ¬ lo≤hi by omega)];rfl)
    have g:decide (hi<lo)=true:=decide_eq_true h
    rw [v1] at H1
    rw [v2] at H2
    clear v1 v2 hR h
    go_enter Tryz.func71,Tryz.ntmps71
    go_wp2_with fail
    refine (H1.out _).mono ?_
    rintro e w' ⟨rfl,rfl⟩
    go_wp2_with fail
    refine (H2.out _).mono ?_
    rintro e w' ⟨rfl,rfl⟩
    go_wp2_with fail
    go_ret
    exact ⟨ret_int HR.out.symm,(Below.refl _ w).alloc (Nat.le_refl _) _⟩
   ·have HR:Hid (R=0):=Lib.hid (by rw [← hR,v1,v2,decide_eq_true (show lo≤hi by omega)];rfl)
    have g:decide (hi<lo)=false:=decide_eq_false h
    rw [v1] at H1
    rw [v2] at H2
    clear v1 v2 hR h
    go_enter Tryz.func71,Tryz.ntmps71
    go_wp2_with fail
    refine (H1.out _).mono ?_
    rintro e w' ⟨rfl,rfl⟩
    go_wp2_with fail
    refine (H2.out _).mono ?_
    rintro e w' ⟨rfl,rfl⟩
    go_wp2_with fail
    go_ret
    exact ⟨ret_int HR.out.symm,(Below.refl _ w).alloc (Nat.le_refl _) _⟩
/-- n spans at A. -/
def SpansAt (w:World) (B:Nat) (A:Option Addr) (n:Nat) (v:Nat→SpanD):Prop:=Sl w B 2 A n fun i j=>match j with | 0=>.int .i64 (v i).lo | _=>.int .i64 (v i).hi
theorem allErr {n k:Nat} {v:Nat→SpanD} (hk:k<n) (h:errC (v k) ≠ 0):(allN n fun i=>chkB (v i))=false:=by
 refine allN_false hk ?_
 cases e:chkB (v k) with
 | false=>rfl
 | true=>exact absurd (show errC (v k)=0 from if_pos e) h
theorem checked_any (w:World) (A:Option Addr) (n c:Nat) (v:Nat→SpanD) (h:SpansAt w w.heap.size A n v) (hn:n≤4096) :
  Calls Tryz.prog 127 #[.slice A n c] w fun e w'=>e=.returned (.int .i64 (if (allN n fun i=>chkB (v i))=true then 0 else 2))∧Below w.heap.size w w':=by
 have HL:=Lib.hid h
 obtain ⟨R,hR⟩:∃ R:Int,(if (allN n fun i=>chkB (v i))=true then (0:Int) else 2)=R:=⟨_,rfl⟩
 have HR:=Lib.hid hR
 rw [hR]
 clear h hR
 go_enter Tryz.func127,Tryz.ntmps127
 go_wp2_with fail
 go_loopw [8] (fun iv wr=>∃ k:Nat,k≤n∧iv=.int .i64 k∧Hid (Below w.heap.size w wr∧∀ j,j<k→chkB (v j)=true)) (fun iv _=>n - (intOf iv).toNat)
 case atStart=>exact ⟨0,Nat.zero_le _,rfl,Lib.hid ⟨Below.refl _ _,fun j hj=>absurd hj (Nat.not_lt_zero j)⟩⟩
 case round =>
  obtain ⟨wo,rfl⟩:∃ wo:World,wo=wr:=⟨_,rfl⟩
  obtain ⟨k,hk,rfl,hs⟩:=hrel
  have HB:=Lib.hid hs.out.1
  have HNO:=Lib.hid hs.out.2
  clear hs
  have h0k:(0:Int)≤(k:Int):=by omega
  by_cases hlt:k<n
  ·have hki:(k:Int)<(n:Int):=by omega
   obtain ⟨b,off,rfl,_,d0,d1⟩:=(HL.out.below HB.out).at2 hlt
   obtain ⟨x,hx⟩:∃ x,v k=x:=⟨_,rfl⟩
   simp only [hx] at d0 d1
   have H1:=Lib.hid (fun w=>check_any x w)
   unfold spanV at H1
   obtain ⟨er,her⟩:∃ r,errC x=r:=⟨_,rfl⟩
   rw [her] at H1
   have HX:=Lib.hid hx
   obtain ⟨xl,hxl⟩:∃ z,x.lo=z:=⟨_,rfl⟩
   obtain ⟨xh,hxh⟩:∃ z,x.hi=z:=⟨_,rfl⟩
   rw [hxl] at d0 H1
   rw [hxh] at d1 H1
   have HE:=Lib.hid her
   clear hx hxl hxh her
   go_wp2_with fail
   refine (H1.out _).mono ?_
   rintro e w1 ⟨rfl,hb1⟩
   have HB1:Hid (Below w.heap.size w w1):=Lib.hid ((HB.out.alloc HB.out.size _).trans (hb1.mono (by simp;have:=HB.out.size;omega)))
   clear hb1
   by_cases he:er=0
   ·subst he
    go_wp2_with fail
    go_roundw
    case rel=>exact ⟨k+1,by omega,by go_num,Lib.hid ⟨HB1.out,fun j hj=>by
     by_cases ej:j=k
     ·subst ej;rw [HX.out];have:=HE.out;unfold errC at this;cases hc:chkB x with
      | true=>rfl
      | false=>rw [hc] at this;exact absurd this (by decide)
     ·exact HNO.out j (by omega)⟩⟩
    case measure=>simp [intOf];omega
   ·have hee:er=2:=by rw [← HE.out] at he ⊢;unfold errC at he ⊢;split at he <;> simp_all
    subst hee
    have HF:Hid (R=2):=Lib.hid (by rw [← HR.out,allErr hlt (by rw [HX.out,HE.out];decide)];rfl)
    clear he
    go_wp2_with fail
    go_ret
    exact ⟨ret_int HF.out.symm,HB1.out⟩
  ·obtain rfl:k=n:=by omega
   have hki:¬ (k:Int)<(k:Int):=by omega
   have HF:Hid (R=0):=Lib.hid (by
    rw [← HR.out,if_pos]
    rw [allN_iff];exact HNO.out)
   go_wp2_with fail
   go_ret
   exact ⟨ret_int HF.out.symm,HB.out⟩

theorem neg_any (a:SpanD) (ha:WdS a) (w:World):Calls Tryz.prog 64 #[spanV a] w (SpPost (negB a) w.heap.size w):=by
 obtain ⟨lo,hi⟩:=a
 have H1:=Lib.hid (fun w=>check_any ⟨lo,hi⟩ w)
 obtain ⟨qb,hqb⟩:∃ qb,w.heap.size=qb:=⟨_,rfl⟩
 obtain ⟨W0,hW0⟩:∃ W0,(w.alloc (.cells #[.int .i64 lo,.int .i64 hi] 31)).alloc (.cells #[.int .i64 0,.int .i64 0] 31)=W0:=⟨_,rfl⟩
 have HA:Hid (Bk W0 qb 31 #[.int .i64 lo,.int .i64 hi]):=Lib.hid (by rw [← hW0,← hqb];exact (Bk.new _ _ _).alloc _)
 have HR:Hid (Bk W0 (qb+1) 31 #[.int .i64 0,.int .i64 0]):=Lib.hid (by rw [← hW0,← hqb];exact Bk.newAt _ _ _ _ (by simp))
 have HB:Hid (Below qb w W0):=Lib.hid (by rw [← hW0,← hqb];exact ((Below.refl _ w).alloc (Nat.le_refl _) _).alloc (by simp) _)
 have HFIN:Hid (∀ w',Below qb w w'→SpPost (negB ⟨lo,hi⟩) w.heap.size w (.returned (.tuple #[.agg #[.int .i64 (negB ⟨lo,hi⟩).1.lo,.int .i64 (negB ⟨lo,hi⟩).1.hi],.int .i64 (negB ⟨lo,hi⟩).2])) w'):=Lib.hid fun w' h=>⟨rfl,by rw [hqb];exact h⟩
 obtain ⟨⟨a1,a2⟩,a3,a4⟩:=ha
 dsimp only at a1 a2 a3 a4
 unfold spanV at H1 ⊢
 dsimp only at H1 ⊢
 cases hc:chkB ⟨lo,hi⟩ with
 | false =>
  have he:errC ⟨lo,hi⟩=2:=by unfold errC;rw [hc];rfl
  have hn:negB ⟨lo,hi⟩=(zeroS,2):=by unfold negB;rw [hc];rfl
  rw [he] at H1
  rw [hn] at HFIN ⊢
  clear hc he hn
  go_enter Tryz.func64,Tryz.ntmps64
  go_upto_region 1 with (fail)
  clear hW0 hqb
  go_wp2_with (refine wpLoadAt rfl 31 _ rfl qb 0 rfl #[.int .i64 lo,.int .i64 hi] _ (fun j u hj=>by rw [Nat.zero_add,HA.out.cell];exact hj) und_span rfl info_span ?_)
  refine (H1.out _).mono ?_
  rintro e w1 ⟨rfl,hw1⟩
  have HR1:Hid (Bk w1 (qb+1) 31 #[.int .i64 0,.int .i64 0]):=Lib.hid (HR.out.below hw1 HR.out.lt)
  have HB1:Hid (Below qb w w1):=Lib.hid (HB.out.trans (hw1.mono (Nat.le_of_lt HA.out.lt)))
  clear hw1
  go_wp2_with (refine wpStoreAt rfl rfl 31 _ _ rfl (qb+1) 0 rfl #[.int .i64 0,.int .i64 0] rfl 31 _ HR1.out (by show 0+2≤2;omega) (one2 _ _) info_span ?_;intro wf hkf hof)
  rw [splA_all #[.int .i64 0,.int .i64 0] #[.int .i64 0,.int .i64 0] rfl] at hkf
  exact ret_span rfl rfl rfl hkf rfl (HFIN.out _ (HB1.out.trans (hof.below (by omega))))
 | true =>
  have he:errC ⟨lo,hi⟩=0:=by unfold errC;rw [hc];rfl
  have hn:negB ⟨lo,hi⟩=(⟨-hi,-lo⟩,0):=by unfold negB;rw [hc];rfl
  rw [he] at H1
  rw [hn] at HFIN ⊢
  have h3:=chk_iff.1 hc
  dsimp only at h3
  have m1:IntKind.i64.wrap (-hi)=-hi:=IntWalk.i64_in _ (by omega)
  have m2:IntKind.i64.wrap (-lo)=-lo:=IntWalk.i64_in _ (by omega)
  have m1':wrap64 (-hi)=-hi:=w64_in (by omega) (by omega)
  have m2':wrap64 (-lo)=-lo:=w64_in (by omega) (by omega)
  clear hc he hn h3 a1 a2 a3 a4
  go_enter Tryz.func64,Tryz.ntmps64
  go_upto_region 1 with (fail)
  clear hW0 hqb
  go_wp2_with (refine wpLoadAt rfl 31 _ rfl qb 0 rfl #[.int .i64 lo,.int .i64 hi] _ (fun j u hj=>by rw [Nat.zero_add,HA.out.cell];exact hj) und_span rfl info_span ?_)
  refine (H1.out _).mono ?_
  rintro e w1 ⟨rfl,hw1⟩
  have HR1:Hid (Bk w1 (qb+1) 31 #[.int .i64 0,.int .i64 0]):=Lib.hid (HR.out.below hw1 HR.out.lt)
  have HB1:Hid (Below qb w w1):=Lib.hid (HB.out.trans (hw1.mono (Nat.le_of_lt HA.out.lt)))
  have c0:w1.cell? ⟨qb,0,none⟩=some (.int .i64 lo):=(HA.out.below hw1 HA.out.lt).cell 0
  have c1:w1.cell? ⟨qb,1,none⟩=some (.int .i64 hi):=(HA.out.below hw1 HA.out.lt).cell 1
  clear hw1
  go_wp2_with (refine wpStoreAt rfl rfl 31 _ _ rfl (qb+1) 0 rfl #[.int .i64 (-hi),.int .i64 (-lo)] rfl 31 _ HR1.out (by show 0+2≤2;omega) (one2 _ _) info_span ?_;intro wf hkf hof)
  rw [splA_all #[.int .i64 0,.int .i64 0] #[.int .i64 (-hi),.int .i64 (-lo)] rfl] at hkf
  exact ret_span rfl rfl rfl hkf rfl (HFIN.out _ (HB1.out.trans (hof.below (by omega))))

theorem plus_ex {a b:Value} {v1 v2:Int} (ha:IsBig a v1) (hb:IsBig b v2) (h1:S127 v1) (h2:S127 v2) :
  ∃ r,IsBig r (v1+v2)∧∀ w,Calls Tryz.prog 129 #[a,b] w fun e w'=>e=.returned r∧Below w.heap.size w w':=by
 obtain ⟨n1,m1,rfl,p1,q1⟩:=ha
 obtain ⟨n2,m2,rfl,p2,q2⟩:=hb
 have s1:=val_size p1 q1
 have s2:=val_size p2 q2
 obtain ⟨h1a,h1b⟩:=h1
 obtain ⟨h2a,h2b⟩:=h2
 have k1:U64 (m1 / 18446744073709551616):=by unfold U64;omega
 have k2:U64 (m1 % 18446744073709551616):=by unfold U64;omega
 have k3:U64 (m2 / 18446744073709551616):=by unfold U64;omega
 have k4:U64 (m2 % 18446744073709551616):=by unfold U64;omega
 by_cases e:n2=n1
 ·subst e
  refine ⟨_,?_,fun w=>plus_same n2 _ _ _ _ k1 k2 k3 k4 w⟩
  refine ⟨n2,m1+m2,bigV_isN (by omega) (by omega),by omega,?_⟩
  rw [← q1,← q2];unfold valI;split <;> omega
 ·obtain rfl:n2=!n1:=by cases n1 <;> cases n2 <;> simp_all
  refine ⟨_,?_,fun w=>plus_other n1 _ _ _ _ k1 k2 k3 k4 w⟩
  rw [← q1,← q2]
  by_cases g:m1<m2
  ·rw [if_pos (by omega)]
   refine ⟨!n1,m2 - m1,bigV_isN ?_ (by omega),by omega,?_⟩
   ·split <;> omega
   ·unfold valI;cases n1 <;> simp <;> omega
  ·rw [if_neg (by omega)]
   refine ⟨n1,m1 - m2,bigV_isN ?_ (by omega),by omega,?_⟩
   ·split <;> omega
   ·unfold valI;cases n1 <;> simp <;> omega
/-- Add's closure: the sum of two numbers. -/
theorem sum_ex (x y:Int) (hx:I64 x) (hy:I64 y):∃ r,IsBig r (x+y)∧∀ w,Calls Tryz.prog 128 #[.int .i64 x,.int .i64 y] w fun e w'=>e=.returned r∧Below w.heap.size w w':=by
 obtain ⟨r,hr,hc⟩:=plus_ex (of_big hx) (of_big hy) (by unfold I64 at hx;unfold S127;omega) (by unfold I64 at hy;unfold S127;omega)
 refine ⟨r,hr,fun w=>?_⟩
 have H1:=Lib.hid (fun w=>of_any x hx w)
 have H2:=Lib.hid (fun w=>of_any y hy w)
 have H3:=Lib.hid hc
 obtain ⟨n,h,l,rfl⟩:=big_cells hr
 obtain ⟨n1,hn1⟩:∃ z,decide (x<0)=z:=⟨_,rfl⟩
 obtain ⟨n2,hn2⟩:∃ z,decide (y<0)=z:=⟨_,rfl⟩
 obtain ⟨l1,hl1⟩:∃ z,sizeI x=z:=⟨_,rfl⟩
 obtain ⟨l2,hl2⟩:∃ z,sizeI y=z:=⟨_,rfl⟩
 rw [hn1,hl1] at H1 H3
 rw [hn2,hl2] at H2 H3
 unfold bigV at H1 H2 H3
 obtain ⟨qb,hqb⟩:∃ qb,w.heap.size=qb:=⟨_,rfl⟩
 obtain ⟨W0,hW0⟩:∃ W0,w.alloc (.cells #[.bool false,.int .u64 0,.int .u64 0] 217)=W0:=⟨_,rfl⟩
 have HK:Hid (Bk W0 qb 217 #[.bool false,.int .u64 0,.int .u64 0]):=Lib.hid (by rw [← hW0,← hqb];exact Bk.new _ _ _)
 have HB:Hid (Below qb w W0):=Lib.hid (by rw [← hW0,← hqb];exact (Below.refl _ w).alloc (Nat.le_refl _) _)
 have HFIN:Hid (∀ w',Below qb w w'→Below w.heap.size w w'):=Lib.hid fun w' h=>by rw [hqb];exact h
 clear hr hc hn1 hn2 hl1 hl2 hx hy
 go_enter Tryz.func128,Tryz.ntmps128
 go_upto_region 1 with (fail)
 clear hW0 hqb
 go_wp2_with fail
 refine (H1.out _).mono ?_
 rintro e w1 ⟨rfl,hw1⟩
 have HK1:Hid (Bk w1 qb 217 #[.bool false,.int .u64 0,.int .u64 0]):=Lib.hid (HK.out.below hw1 HK.out.lt)
 have HB1:Hid (Below qb w w1):=Lib.hid (HB.out.trans (hw1.mono (Nat.le_of_lt HK.out.lt)))
 clear hw1
 go_wp2_with fail
 refine (H2.out _).mono ?_
 rintro e w2 ⟨rfl,hw2⟩
 have HK2:Hid (Bk w2 qb 217 #[.bool false,.int .u64 0,.int .u64 0]):=Lib.hid (HK1.out.below hw2 HK1.out.lt)
 have HB2:Hid (Below qb w w2):=Lib.hid (HB1.out.trans (hw2.mono (Nat.le_of_lt HK1.out.lt)))
 clear hw2
 go_wp2_with fail
 refine (H3.out _).mono ?_
 rintro e w3 ⟨rfl,hw3⟩
 have HK3:Hid (Bk w3 qb 217 #[.bool false,.int .u64 0,.int .u64 0]):=Lib.hid (HK2.out.below hw3 HK2.out.lt)
 have HB3:Hid (Below qb w w3):=Lib.hid (HB2.out.trans (hw3.mono (Nat.le_of_lt HK2.out.lt)))
 clear hw3
 go_wp2_with (refine wpStoreAt rfl rfl 217 _ _ rfl qb 0 rfl #[.bool n,.int .u64 h,.int .u64 l] rfl 217 _ HK3.out (by show 0+3≤3;omega) (one3 _ _ _) info_big ?_;intro wf hkf hof)
 rw [splA_all #[.bool false,.int .u64 0,.int .u64 0] #[.bool n,.int .u64 h,.int .u64 l] rfl] at hkf
 exact ret_big rfl rfl rfl hkf ⟨rfl,HFIN.out _ (HB3.out.trans (hof.below (Nat.le_refl _)))⟩

/-- A call of a function value, in a drawn region. -/
theorem wpo_callV {P:Program} {o:Oper} {a:Act} {w:World} {K:Act→World→Prop} {Q:Exit→Act→World→Prop} (f:Nat) (x:Operand) (xs:Array Operand) (ts:Array TypeId) (ho:o.op=.call { callee:=.value x,args:=xs,argTypes:=ts }) (hv:a.eval x=.func (.func f) #[] #[]) (vs:Array Value) (hx:xs.map a.eval=vs)
  (eg:∀ args w,(callFunc f args).run P w=.ok (.enter f args) w) (h:Calls P f vs w fun e w'=>∃ v,e=.returned v∧K (a.put o.dst v) w'):o.wp P a w K Q:=by
 unfold Oper.wp execOp
 simp only [ho,resolve,hx,hv,Deferred.ofValue,Sem.run_bind,Sem.run_pure,Result.andThen_ok,invoke]
 simp [eg,Oper.upon]
 refine h.mono ?_
 rintro e w' ⟨v,rfl,hk⟩
 exact hk
theorem add_any (a b:SpanD) (ha:WdS a) (hb:WdS b) (w:World):Calls Tryz.prog 65 #[spanV a,spanV b] w (SpPost (addB a b) w.heap.size w):=by
 obtain ⟨al,ah⟩:=a
 obtain ⟨bl,bh⟩:=b
 unfold spanV
 dsimp only
 have HCH:Hid ((if (allN 2 fun i=>chkB ((fun i=>match i with | 0=>(⟨al,ah⟩:SpanD) | _=>⟨bl,bh⟩) i))=true then (0:Int) else 2)=if (chkB ⟨al,ah⟩ && chkB ⟨bl,bh⟩)=true then 0 else 2):=Lib.hid (by
  show (if (chkB ⟨al,ah⟩ && (chkB ⟨bl,bh⟩ && true))=true then (0:Int) else 2)=_
  rw [Bool.and_true])
 obtain ⟨qb,hqb⟩:∃ qb,w.heap.size=qb:=⟨_,rfl⟩
 obtain ⟨W0,hW0⟩:∃ W0,(((w.alloc (.cells #[.int .i64 al,.int .i64 ah] 31)).alloc (.cells #[.int .i64 bl,.int .i64 bh] 31)).alloc (.cells #[.int .i64 0,.int .i64 0] 31)).alloc (.cells #[.int .i64 al,.int .i64 ah,.int .i64 bl,.int .i64 bh] 31)=W0:=⟨_,rfl⟩
 have HA0:Hid (Bk W0 qb 31 #[.int .i64 al,.int .i64 ah]):=Lib.hid (by rw [← hW0,← hqb];exact (((Bk.new _ _ _).alloc _).alloc _).alloc _)
 have HB0:Hid (Bk W0 (qb+1) 31 #[.int .i64 bl,.int .i64 bh]):=Lib.hid (by rw [← hW0,← hqb];exact ((Bk.newAt _ _ _ _ (by simp)).alloc _).alloc _)
 have HR0:Hid (Bk W0 (qb+1+1) 31 #[.int .i64 0,.int .i64 0]):=Lib.hid (by rw [← hW0,← hqb];exact (Bk.newAt _ _ _ _ (by simp)).alloc _)
 have HS0:Hid (Bk W0 (qb+1+1+1) 31 #[.int .i64 al,.int .i64 ah,.int .i64 bl,.int .i64 bh]):=Lib.hid (by rw [← hW0,← hqb];exact Bk.newAt _ _ _ _ (by simp))
 have HL0:Hid (Below qb w W0):=Lib.hid (by rw [← hW0,← hqb];exact ((((Below.refl _ w).alloc (Nat.le_refl _) _).alloc (by simp) _).alloc (by simp <;> omega) _).alloc (by simp <;> omega) _)
 have HSP:Hid (SpansAt W0 W0.heap.size (some ⟨qb+1+1+1,0,none⟩) 2 (fun i=>match i with | 0=>(⟨al,ah⟩:SpanD) | _=>⟨bl,bh⟩)):=Lib.hid ⟨by omega,fun _=>⟨_,_,rfl,HS0.out.lt,fun i hi j hj=>by
  match i,j,hi,hj with
  | 0,0,_,_=>exact HS0.out.cell 0
  | 0,1,_,_=>exact HS0.out.cell 1
  | 1,0,_,_=>exact HS0.out.cell 2
  | 1,1,_,_=>exact HS0.out.cell 3⟩⟩
 have HFIN:Hid (∀ w',Below qb w w'→SpPost (addB ⟨al,ah⟩ ⟨bl,bh⟩) w.heap.size w (.returned (.tuple #[.agg #[.int .i64 (addB ⟨al,ah⟩ ⟨bl,bh⟩).1.lo,.int .i64 (addB ⟨al,ah⟩ ⟨bl,bh⟩).1.hi],.int .i64 (addB ⟨al,ah⟩ ⟨bl,bh⟩).2])) w'):=Lib.hid fun w' h=>⟨rfl,by rw [hqb];exact h⟩
 have HCK:=Lib.hid (checked_any W0 (some ⟨qb+1+1+1,0,none⟩) 2 2 _ HSP.out (by omega))
 obtain ⟨⟨a1,a2⟩,a3,a4⟩:=ha
 obtain ⟨⟨b1,b2⟩,b3,b4⟩:=hb
 dsimp only at a1 a2 a3 a4 b1 b2 b3 b4
 obtain ⟨r1,hr1,hs1⟩:=sum_ex al bl ⟨a1,a2⟩ ⟨b1,b2⟩
 obtain ⟨r2,hr2,hs2⟩:=sum_ex ah bh ⟨a3,a4⟩ ⟨b3,b4⟩
 have HS1:=Lib.hid hs1
 have HS2:=Lib.hid hs2
 have HFT:=Lib.hid (fun w=>fit_any hr1 hr2 (by unfold S127;omega) (by unfold S127;omega) w)
 rw [HCH.out] at HCK
 clear hr1 hr2 hs1 hs2 HCH HSP a1 a2 a3 a4 b1 b2 b3 b4
 cases hc:(chkB ⟨al,ah⟩ && chkB ⟨bl,bh⟩) with
 | false =>
  have hn:addB ⟨al,ah⟩ ⟨bl,bh⟩=(zeroS,2):=by unfold addB;rw [hc];rfl
  rw [hn] at HFIN ⊢
  rw [hc] at HCK
  clear hc hn HS1 HS2 HFT
  go_enter Tryz.func65,Tryz.ntmps65
  go_wp2_with fail
  clear hW0 hqb
  refine HCK.out.mono ?_
  rintro e wk ⟨rfl,hwk⟩
  have HR:Hid (Bk wk (qb+1+1) 31 #[.int .i64 0,.int .i64 0]):=Lib.hid (HR0.out.below hwk HR0.out.lt)
  have HBW:Hid (Below qb w wk):=Lib.hid (HL0.out.trans (hwk.mono (Nat.le_of_lt HA0.out.lt)))
  clear hwk
  go_wp2_with (refine wpStoreAt rfl rfl 31 _ _ rfl (qb+1+1) 0 rfl #[.int .i64 0,.int .i64 0] rfl 31 _ HR.out (by show 0+2≤2;omega) (one2 _ _) info_span ?_;intro wf hkf hof)
  rw [splA_all #[.int .i64 0,.int .i64 0] #[.int .i64 0,.int .i64 0] rfl] at hkf
  exact ret_span rfl rfl rfl hkf rfl (HFIN.out _ (HBW.out.trans (hof.below (by omega))))
 | true =>
  have hn:addB ⟨al,ah⟩ ⟨bl,bh⟩=fitB (al+bl) (ah+bh):=by unfold addB;rw [hc];rfl
  rw [hn] at HFIN ⊢
  rw [hc] at HCK
  unfold SpPost spanV at HFT
  obtain ⟨fl,hfl⟩:∃ z,(fitB (al+bl) (ah+bh)).1.lo=z:=⟨_,rfl⟩
  obtain ⟨fh,hfh⟩:∃ z,(fitB (al+bl) (ah+bh)).1.hi=z:=⟨_,rfl⟩
  obtain ⟨fe,hfe⟩:∃ z,(fitB (al+bl) (ah+bh)).2=z:=⟨_,rfl⟩
  rw [hfl,hfh,hfe] at HFT HFIN
  clear hc hn hfl hfh hfe
  go_enter Tryz.func65,Tryz.ntmps65
  go_wp2_with fail
  clear hW0 hqb
  refine HCK.out.mono ?_
  rintro e wk ⟨rfl,hwk⟩
  have HAW:Hid (Bk wk qb 31 #[.int .i64 al,.int .i64 ah]):=Lib.hid (HA0.out.below hwk HA0.out.lt)
  have HBB:Hid (Bk wk (qb+1) 31 #[.int .i64 bl,.int .i64 bh]):=Lib.hid (HB0.out.below hwk HB0.out.lt)
  have HR:Hid (Bk wk (qb+1+1) 31 #[.int .i64 0,.int .i64 0]):=Lib.hid (HR0.out.below hwk HR0.out.lt)
  have HBW:Hid (Below qb w wk):=Lib.hid (HL0.out.trans (hwk.mono (Nat.le_of_lt HA0.out.lt)))
  clear hwk
  have HC:Hid (∀ w1,Below wk.heap.size wk w1→w1.cell? ⟨qb,0,none⟩=some (.int .i64 al)∧w1.cell? ⟨qb,1,none⟩=some (.int .i64 ah)∧w1.cell? ⟨qb+1,0,none⟩=some (.int .i64 bl)∧w1.cell? ⟨qb+1,1,none⟩=some (.int .i64 bh)):=Lib.hid fun w1 h=>⟨(HAW.out.below h HAW.out.lt).cell 0,(HAW.out.below h HAW.out.lt).cell 1,(HBB.out.below h HBB.out.lt).cell 0,(HBB.out.below h HBB.out.lt).cell 1⟩
  go_upto_region 5 with (fail)
  refine wp_region_stepsM (by kernel_rfl) (by kernel_rfl) 15 (by decide) (fun bq w1=>if bq=true then Bk w1 (qb+1+1) 31 #[.int .i64 fl,.int .i64 fh]∧Below qb w w1 else Below wk.heap.size wk w1) (fun _ _ _=>True)
   (fun ix u _ _=>match ix with
    | 0=>u=.func (.func 128) #[] #[]
    | 1=>u=.pointer (some ⟨qb,0,none⟩)
    | 2=>u=.int .i64 al
    | 3=>u=.pointer (some ⟨qb+1,0,none⟩)
    | 4=>u=.int .i64 bl
    | 5=>u=r1
    | 6=>u=.func (.func 128) #[] #[]
    | 7=>u=.pointer (some ⟨qb,1,none⟩)
    | 8=>u=.int .i64 ah
    | 9=>u=.pointer (some ⟨qb+1,1,none⟩)
    | 10=>u=.int .i64 bh
    | 11=>u=r2
    | 12=>u=.tuple #[.agg #[.int .i64 fl,.int .i64 fh],.int .i64 fe]
    | 13=>u=.agg #[.int .i64 fl,.int .i64 fh]
    | 14=>u=.int .i64 fe
    | 15=>True
    | _=>u=.int .i64 fe) (Below.refl _ _).drew (fun _ _ _ _ _ _ _ _ h _=>h) ?_ ?_
  ·refine ⟨?_,?_,?_,?_,?_,?_,?_,?_,?_,?_,?_,?_,?_,?_,?_,?_,?_,trivial⟩
   ·intro a w1 vs K bq Hb HJ HK HD HN kk
    obtain rfl:bq=false:=by cases bq with | false=>rfl | true=>exact absurd (Hb rfl).2 (by decide)
    have HJ':Below wk.heap.size wk w1:=HJ
    have e7:=HK 7 (by decide)
    go_simp;exact kk _ _ (by simp) HJ trivial rfl
   ·intro a w1 vs K bq Hb HJ HK HD HN kk
    obtain rfl:bq=false:=by cases bq with | false=>rfl | true=>exact absurd (Hb rfl).2 (by decide)
    have HJ':Below wk.heap.size wk w1:=HJ
    have e2:=HK 2 (by decide)
    go_simp;exact kk _ _ (by simp) HJ trivial rfl
   ·intro a w1 vs K bq Hb HJ HK HD HN kk
    obtain rfl:bq=false:=by cases bq with | false=>rfl | true=>exact absurd (Hb rfl).2 (by decide)
    have HJ':Below wk.heap.size wk w1:=HJ
    have e17:=hdE (HD 1 _ 17 rfl rfl rfl)
    have ca:w1.cell? ⟨qb,0,none⟩=some (.int .i64 al):=(HC.out w1 HJ').1
    go_simp;exact kk _ _ (by simp) HJ trivial rfl
   ·intro a w1 vs K bq Hb HJ HK HD HN kk
    obtain rfl:bq=false:=by cases bq with | false=>rfl | true=>exact absurd (Hb rfl).2 (by decide)
    have HJ':Below wk.heap.size wk w1:=HJ
    have e3:=HK 3 (by decide)
    go_simp;exact kk _ _ (by simp) HJ trivial rfl
   ·intro a w1 vs K bq Hb HJ HK HD HN kk
    obtain rfl:bq=false:=by cases bq with | false=>rfl | true=>exact absurd (Hb rfl).2 (by decide)
    have HJ':Below wk.heap.size wk w1:=HJ
    have e19:=hdE (HD 3 _ 19 rfl rfl rfl)
    have ca:w1.cell? ⟨qb+1,0,none⟩=some (.int .i64 bl):=(HC.out w1 HJ').2.2.1
    go_simp;exact kk _ _ (by simp) HJ trivial rfl
   ·intro a w1 vs K bq Hb HJ HK HD HN kk
    obtain rfl:bq=false:=by cases bq with | false=>rfl | true=>exact absurd (Hb rfl).2 (by decide)
    have HJ':Below wk.heap.size wk w1:=HJ
    have e16:=hdE (HD 0 _ 16 rfl rfl rfl)
    have e18:=hdE (HD 2 _ 18 rfl rfl rfl)
    have e20:=hdE (HD 4 _ 20 rfl rfl rfl)
    exact wpo_callV 128 (.tmp 16) _ _ rfl (by simpa [Act.eval] using e16) #[.int .i64 al,.int .i64 bl] (by simp [Act.eval,e18,e20]) (fun args w=>by kernel_rfl)
     ((HS1.out w1).mono fun e w' ⟨he,hb⟩=>⟨_,he,kk _ _ (by simp) (Below.trans HJ' (hb.mono HJ'.size)) trivial rfl⟩)
   ·intro a w1 vs K bq Hb HJ HK HD HN kk
    obtain rfl:bq=false:=by cases bq with | false=>rfl | true=>exact absurd (Hb rfl).2 (by decide)
    have HJ':Below wk.heap.size wk w1:=HJ
    have e7:=HK 7 (by decide)
    go_simp;exact kk _ _ (by simp) HJ trivial rfl
   ·intro a w1 vs K bq Hb HJ HK HD HN kk
    obtain rfl:bq=false:=by cases bq with | false=>rfl | true=>exact absurd (Hb rfl).2 (by decide)
    have HJ':Below wk.heap.size wk w1:=HJ
    have e2:=HK 2 (by decide)
    go_simp;exact kk _ _ (by simp) HJ trivial rfl
   ·intro a w1 vs K bq Hb HJ HK HD HN kk
    obtain rfl:bq=false:=by cases bq with | false=>rfl | true=>exact absurd (Hb rfl).2 (by decide)
    have HJ':Below wk.heap.size wk w1:=HJ
    have e23:=hdE (HD 7 _ 23 rfl rfl rfl)
    have ca:w1.cell? ⟨qb,1,none⟩=some (.int .i64 ah):=(HC.out w1 HJ').2.1
    go_simp;exact kk _ _ (by simp) HJ trivial rfl
   ·intro a w1 vs K bq Hb HJ HK HD HN kk
    obtain rfl:bq=false:=by cases bq with | false=>rfl | true=>exact absurd (Hb rfl).2 (by decide)
    have HJ':Below wk.heap.size wk w1:=HJ
    have e3:=HK 3 (by decide)
    go_simp;exact kk _ _ (by simp) HJ trivial rfl
   ·intro a w1 vs K bq Hb HJ HK HD HN kk
    obtain rfl:bq=false:=by cases bq with | false=>rfl | true=>exact absurd (Hb rfl).2 (by decide)
    have HJ':Below wk.heap.size wk w1:=HJ
    have e25:=hdE (HD 9 _ 25 rfl rfl rfl)
    have ca:w1.cell? ⟨qb+1,1,none⟩=some (.int .i64 bh):=(HC.out w1 HJ').2.2.2
    go_simp;exact kk _ _ (by simp) HJ trivial rfl
   ·intro a w1 vs K bq Hb HJ HK HD HN kk
    obtain rfl:bq=false:=by cases bq with | false=>rfl | true=>exact absurd (Hb rfl).2 (by decide)
    have HJ':Below wk.heap.size wk w1:=HJ
    have e22:=hdE (HD 6 _ 22 rfl rfl rfl)
    have e24:=hdE (HD 8 _ 24 rfl rfl rfl)
    have e26:=hdE (HD 10 _ 26 rfl rfl rfl)
    exact wpo_callV 128 (.tmp 22) _ _ rfl (by simpa [Act.eval] using e22) #[.int .i64 ah,.int .i64 bh] (by simp [Act.eval,e24,e26]) (fun args w=>by kernel_rfl)
     ((HS2.out w1).mono fun e w' ⟨he,hb⟩=>⟨_,he,kk _ _ (by simp) (Below.trans HJ' (hb.mono HJ'.size)) trivial rfl⟩)
   ·intro a w1 vs K bq Hb HJ HK HD HN kk
    obtain rfl:bq=false:=by cases bq with | false=>rfl | true=>exact absurd (Hb rfl).2 (by decide)
    have HJ':Below wk.heap.size wk w1:=HJ
    have e21:=hdE (HD 5 _ 21 rfl rfl rfl)
    have e27:=hdE (HD 11 _ 27 rfl rfl rfl)
    exact wpo_call 131 _ _ rfl #[r1,r2] (by simp [Act.eval,e21,e27]) (fun args w=>by kernel_rfl)
     ((HFT.out w1).mono fun e w' ⟨he,hb⟩=>⟨_,he,kk _ _ (by simp) (Below.trans HJ'  (hb.mono HJ'.size)) trivial rfl⟩)
   ·intro a w1 vs K bq Hb HJ HK HD HN kk
    obtain rfl:bq=false:=by cases bq with | false=>rfl | true=>exact absurd (Hb rfl).2 (by decide)
    have HJ':Below wk.heap.size wk w1:=HJ
    have e28:=hdE (HD 12 _ 28 rfl rfl rfl)
    go_simp;exact kk _ _ (by simp) HJ trivial rfl
   ·intro a w1 vs K bq Hb HJ HK HD HN kk
    obtain rfl:bq=false:=by cases bq with | false=>rfl | true=>exact absurd (Hb rfl).2 (by decide)
    have HJ':Below wk.heap.size wk w1:=HJ
    have e28:=hdE (HD 12 _ 28 rfl rfl rfl)
    go_simp;exact kk _ _ (by simp) HJ trivial rfl
   ·intro a w1 vs K bq Hb HJ HK HD HN kk
    obtain rfl:bq=false:=by cases bq with | false=>rfl | true=>exact absurd rfl (Hb rfl).1
    have HJ':Below wk.heap.size wk w1:=HJ
    have e4:=HK 4 (by decide)
    have e29:=hdE (HD 13 _ 29 rfl rfl rfl)
    exact wpo_storeS 31 (.tmp 4) (.tmp 29) rfl rfl (qb+1+1) 0 (by simpa [Act.eval] using e4) #[.int .i64 fl,.int .i64 fh] (by simpa [Act.eval] using e29) 31 #[.int .i64 0,.int .i64 0] (HR.out.below HJ' HR.out.lt) (by show 0+2≤2;omega) (one2 _ _) info_span fun w' hk ho=>kk _ _ (by simp) ⟨by rw [splA_all #[.int .i64 0,.int .i64 0] #[.int .i64 fl,.int .i64 fh] rfl] at hk;exact hk,(HBW.out.trans (HJ'.mono (Nat.le_of_lt HAW.out.lt))).trans (ho.below (by omega))⟩ trivial trivial
   ·intro a w1 vs K bq Hb HJ HK HD HN kk
    have e30:=hdE (HD 14 _ 30 rfl rfl rfl)
    go_simp;exact kk _ _ (by simp) (by simpa using HJ) trivial rfl
  ·intro vs wf hJ hV
   have e5:vs 16=.int .i64 fe:=hV 16 _ rfl
   have hJ':Bk wf (qb+1+1) 31 #[.int .i64 fl,.int .i64 fh]∧Below qb w wf:=hJ
   clear hV hJ
   simp only [putAll,Act.put,List.setIfInBounds_toArray,List.set_cons_zero,List.set_cons_succ]
   rw [e5]
   go_wp2_with fail
   exact ret_span rfl rfl rfl hJ'.1 rfl (HFIN.out _ hJ'.2)

theorem sub_any (a b:SpanD) (ha:WdS a) (hb:WdS b) (w:World):Calls Tryz.prog 24 #[spanV a,spanV b] w (SpPost (subB a b) w.heap.size w):=by
 have HN:=Lib.hid (fun w=>neg_any b hb w)
 obtain ⟨qb,hqb⟩:∃ qb,w.heap.size=qb:=⟨_,rfl⟩
 have HFIN:Hid (∀ w',Below qb w w'→SpPost (subB a b) w.heap.size w (.returned (.tuple #[.agg #[.int .i64 (subB a b).1.lo,.int .i64 (subB a b).1.hi],.int .i64 (subB a b).2])) w'):=Lib.hid fun w' h=>⟨rfl,by rw [hqb];exact h⟩
 cases hc:chkB b with
 | false =>
  have hn:negB b=(zeroS,2):=by unfold negB;rw [hc];rfl
  have hs:subB a b=(zeroS,2):=by unfold subB;rw [hc];rfl
  rw [hn] at HN
  rw [hs] at HFIN ⊢
  clear hc hn hs
  obtain ⟨al,ah⟩:=a
  obtain ⟨bl,bh⟩:=b
  unfold SpPost spanV at HN
  unfold spanV
  dsimp only [zeroS] at HN ⊢
  obtain ⟨W0,hW0⟩:∃ W0,((w.alloc (.cells #[.int .i64 al,.int .i64 ah] 31)).alloc (.cells #[.int .i64 bl,.int .i64 bh] 31)).alloc (.cells #[.int .i64 0,.int .i64 0] 31)=W0:=⟨_,rfl⟩
  have HB0:Hid (Bk W0 (qb+1) 31 #[.int .i64 bl,.int .i64 bh]):=Lib.hid (by rw [← hW0,← hqb];exact (Bk.newAt _ _ _ _ (by simp)).alloc _)
  have HR0:Hid (Bk W0 (qb+1+1) 31 #[.int .i64 0,.int .i64 0]):=Lib.hid (by rw [← hW0,← hqb];exact Bk.newAt _ _ _ _ (by simp <;> omega))
  have HL0:Hid (Below qb w W0):=Lib.hid (by rw [← hW0,← hqb];exact (((Below.refl _ w).alloc (Nat.le_refl _) _).alloc (by simp) _).alloc (by simp <;> omega) _)
  clear ha hb
  go_enter Tryz.func24,Tryz.ntmps24
  go_upto_region 1 with (fail)
  clear hW0 hqb
  go_wp2_with (refine wpLoadAt rfl 31 _ rfl (qb+1) 0 rfl #[.int .i64 bl,.int .i64 bh] _ (fun j u hj=>by rw [Nat.zero_add,HB0.out.cell];exact hj) und_span rfl info_span ?_)
  refine (HN.out _).mono ?_
  rintro e w1 ⟨rfl,hw1⟩
  have HR:Hid (Bk w1 (qb+1+1) 31 #[.int .i64 0,.int .i64 0]):=Lib.hid (HR0.out.below hw1 HR0.out.lt)
  have HBW:Hid (Below qb w w1):=Lib.hid (HL0.out.trans (hw1.mono (by have:=HB0.out.lt;omega)))
  clear hw1
  go_upto_region 3 with (fail)
  obtain ⟨W2,hW2⟩:∃ W2,w1.alloc (.cells #[.int .i64 0,.int .i64 0] 31)=W2:=⟨_,rfl⟩
  have HR2:Hid (Bk W2 (qb+1+1) 31 #[.int .i64 0,.int .i64 0]):=Lib.hid (by rw [← hW2];exact HR.out.alloc _)
  have HBW2:Hid (Below qb w W2):=Lib.hid (by rw [← hW2];exact HBW.out.alloc (by have:=HR.out.lt;omega) _)
  rw [hW2]
  clear hW2
  go_wp2_with (refine wpStoreAt rfl rfl 31 _ _ rfl (qb+1+1) 0 rfl #[.int .i64 0,.int .i64 0] rfl 31 _ HR2.out (by show 0+2≤2;omega) (one2 _ _) info_span ?_;intro wf hkf hof)
  rw [splA_all #[.int .i64 0,.int .i64 0] #[.int .i64 0,.int .i64 0] rfl] at hkf
  exact ret_span rfl rfl rfl hkf rfl (HFIN.out _ (HBW2.out.trans (hof.below (by omega))))
 | true =>
  have hn:negB b=(negS b,0):=by unfold negB;rw [hc];rfl
  have hs:subB a b=addB a (negS b):=by unfold subB;rw [hc];rfl
  have hwn:WdS (negS b):=by
   have h3:=chk_iff.1 hc
   obtain ⟨⟨b1,b2⟩,b3,b4⟩:=hb
   unfold WdS negS;dsimp only;omega
  have HA:=Lib.hid (fun w=>add_any a (negS b) ha hwn w)
  rw [hn] at HN
  rw [hs] at HFIN ⊢
  obtain ⟨nb,hnb⟩:∃ z,negS b=z:=⟨_,rfl⟩
  rw [hnb] at HN HFIN HA ⊢
  obtain ⟨T,hT⟩:∃ z,addB a nb=z:=⟨_,rfl⟩
  rw [hT] at HFIN HA ⊢
  clear hc hn hs hwn hnb hT ha hb
  obtain ⟨al,ah⟩:=a
  obtain ⟨bl,bh⟩:=b
  obtain ⟨nl,nh⟩:=nb
  obtain ⟨⟨tl,th⟩,te⟩:=T
  unfold SpPost spanV at HN HA
  unfold spanV
  dsimp only at HN HA HFIN ⊢
  obtain ⟨W0,hW0⟩:∃ W0,((w.alloc (.cells #[.int .i64 al,.int .i64 ah] 31)).alloc (.cells #[.int .i64 bl,.int .i64 bh] 31)).alloc (.cells #[.int .i64 0,.int .i64 0] 31)=W0:=⟨_,rfl⟩
  have HA0:Hid (Bk W0 qb 31 #[.int .i64 al,.int .i64 ah]):=Lib.hid (by rw [← hW0,← hqb];exact ((Bk.new _ _ _).alloc _).alloc _)
  have HB0:Hid (Bk W0 (qb+1) 31 #[.int .i64 bl,.int .i64 bh]):=Lib.hid (by rw [← hW0,← hqb];exact (Bk.newAt _ _ _ _ (by simp)).alloc _)
  have HR0:Hid (Bk W0 (qb+1+1) 31 #[.int .i64 0,.int .i64 0]):=Lib.hid (by rw [← hW0,← hqb];exact Bk.newAt _ _ _ _ (by simp <;> omega))
  have HL0:Hid (Below qb w W0):=Lib.hid (by rw [← hW0,← hqb];exact (((Below.refl _ w).alloc (Nat.le_refl _) _).alloc (by simp) _).alloc (by simp <;> omega) _)
  go_enter Tryz.func24,Tryz.ntmps24
  go_upto_region 1 with (fail)
  clear hW0 hqb
  go_wp2_with (refine wpLoadAt rfl 31 _ rfl (qb+1) 0 rfl #[.int .i64 bl,.int .i64 bh] _ (fun j u hj=>by rw [Nat.zero_add,HB0.out.cell];exact hj) und_span rfl info_span ?_)
  refine (HN.out _).mono ?_
  rintro e w1 ⟨rfl,hw1⟩
  have HR:Hid (Bk w1 (qb+1+1) 31 #[.int .i64 0,.int .i64 0]):=Lib.hid (HR0.out.below hw1 HR0.out.lt)
  have HA1:Hid (Bk w1 qb 31 #[.int .i64 al,.int .i64 ah]):=Lib.hid (HA0.out.below hw1 HA0.out.lt)
  have HBW:Hid (Below qb w w1):=Lib.hid (HL0.out.trans (hw1.mono (by have:=HB0.out.lt;omega)))
  clear hw1
  obtain ⟨gx,hgx⟩:∃ gx,w1.heap.size=gx:=⟨_,rfl⟩
  obtain ⟨W2,hW2⟩:∃ W2,w1.alloc (.cells #[.int .i64 nl,.int .i64 nh] 31)=W2:=⟨_,rfl⟩
  have HX2:Hid (Bk W2 gx 31 #[.int .i64 nl,.int .i64 nh]):=Lib.hid (by rw [← hW2,← hgx];exact Bk.new _ _ _)
  have HR2:Hid (Bk W2 (qb+1+1) 31 #[.int .i64 0,.int .i64 0]):=Lib.hid (by rw [← hW2];exact HR.out.alloc _)
  have HA2:Hid (Bk W2 qb 31 #[.int .i64 al,.int .i64 ah]):=Lib.hid (by rw [← hW2];exact HA1.out.alloc _)
  have HBW2:Hid (Below qb w W2):=Lib.hid (by rw [← hW2];exact HBW.out.alloc (by have:=HR.out.lt;omega) _)
  go_upto_region 4 with (fail)
  clear hW2 hgx
  go_wp2_with (first | (refine wpLoadAt rfl 31 _ rfl qb 0 rfl #[.int .i64 al,.int .i64 ah] _ (fun j u hj=>by rw [Nat.zero_add,HA2.out.cell];exact hj) und_span rfl info_span ?_) | (refine wpLoadAt rfl 31 _ rfl gx 0 rfl #[.int .i64 nl,.int .i64 nh] _ (fun j u hj=>by rw [Nat.zero_add,HX2.out.cell];exact hj) und_span rfl info_span ?_))
  refine (HA.out _).mono ?_
  rintro e w3 ⟨rfl,hw3⟩
  have HR3:Hid (Bk w3 (qb+1+1) 31 #[.int .i64 0,.int .i64 0]):=Lib.hid (HR2.out.below hw3 HR2.out.lt)
  have HBW3:Hid (Below qb w w3):=Lib.hid (HBW2.out.trans (hw3.mono (Nat.le_of_lt HA2.out.lt)))
  clear hw3
  go_wp2_with (refine wpStoreAt rfl rfl 31 _ _ rfl (qb+1+1) 0 rfl #[.int .i64 tl,.int .i64 th] rfl 31 _ HR3.out (by show 0+2≤2;omega) (one2 _ _) info_span ?_;intro wf hkf hof)
  rw [splA_all #[.int .i64 0,.int .i64 0] #[.int .i64 tl,.int .i64 th] rfl] at hkf
  exact ret_span rfl rfl rfl hkf rfl (HFIN.out _ (HBW3.out.trans (hof.below (by omega))))

theorem times_ex (a b:Int) (ha:I64 a) (hb:I64 b):∃ r,IsBig r (a * b)∧∀ w,Calls Tryz.prog 138 #[.int .i64 a,.int .i64 b] w fun e w'=>e=.returned r∧Below w.heap.size w w':=by
 have H1:=Lib.hid (fun w=>size_any a ha w)
 have H2:=Lib.hid (fun w=>size_any b hb w)
 obtain ⟨x,hx⟩:∃ x:Nat,sizeI a=x:=⟨(sizeI a).toNat,by unfold sizeI;split <;> omega⟩
 obtain ⟨y,hy⟩:∃ y:Nat,sizeI b=y:=⟨(sizeI b).toNat,by unfold sizeI;split <;> omega⟩
 have hxl:x≤9223372036854775808:=by unfold I64 at ha;unfold sizeI at hx;split at hx <;> omega
 have hyl:y≤9223372036854775808:=by unfold I64 at hb;unfold sizeI at hy;split at hy <;> omega
 have H3:=Lib.hid (fun w=>Tryz.bits_Mul64 x y (by omega) (by omega) w)
 rw [hx] at H1
 rw [hy] at H2
 obtain ⟨hi,hhi⟩:∃ z:Int,((x * y / 18446744073709551616:Nat):Int)=z:=⟨_,rfl⟩
 obtain ⟨lo,hlo⟩:∃ z:Int,((x * y % 18446744073709551616:Nat):Int)=z:=⟨_,rfl⟩
 rw [hhi,hlo] at H3
 refine ⟨bigV (decide (a<0) != decide (b<0)) hi lo,?_,fun w=>?_⟩
 ·refine ⟨_,((x * y:Nat):Int),bigV_isN (by rw [← hhi];omega) (by rw [← hlo];omega),by omega,?_⟩
  rw [Int.natCast_mul,← hx,← hy]
  unfold sizeI valI
  by_cases g1:a<0 <;> by_cases g2:b<0 <;> simp [g1,g2,Int.neg_mul,Int.mul_neg]
 ·clear ha hb hx hy hhi hlo hxl hyl
  go_enter Tryz.func138,Tryz.ntmps138
  go_wp2_with fail
  refine (H1.out _).mono ?_
  rintro e w' ⟨rfl,rfl⟩
  go_wp2_with fail
  refine (H2.out _).mono ?_
  rintro e w' ⟨rfl,rfl⟩
  go_wp2_with fail
  refine (H3.out _).mono ?_
  rintro e w' ⟨rfl,rfl⟩
  go_wp2_with fail
  exact ret_big rfl rfl rfl (Bk.new _ _ _) ⟨rfl,(Below.refl _ w).alloc (Nat.le_refl _) _⟩

def pmin (v:Nat→Int):Nat→Nat
 | 0=>0
 | k+1=>if v (k+1)<v (pmin v k) then k+1 else pmin v k
def pmax (v:Nat→Int):Nat→Nat
 | 0=>0
 | k+1=>if v (pmax v k)<v (k+1) then k+1 else pmax v k
theorem pmin_le (v:Nat→Int):∀ k,pmin v k≤k
 | 0=>Nat.le_refl _
 | k+1=>by have:=pmin_le v k;show (if v (k+1)<v (pmin v k) then k+1 else pmin v k)≤k+1;split <;> omega
theorem pmax_le (v:Nat→Int):∀ k,pmax v k≤k
 | 0=>Nat.le_refl _
 | k+1=>by have:=pmax_le v k;show (if v (pmax v k)<v (k+1) then k+1 else pmax v k)≤k+1;split <;> omega
theorem pmin_val (v:Nat→Int):∀ k,v (pmin v k)=minK v k
 | 0=>rfl
 | k+1=>by have:=pmin_val v k;show v (if _ then _ else _)=min _ _;split <;> omega
theorem pmax_val (v:Nat→Int):∀ k,v (pmax v k)=maxK v k
 | 0=>rfl
 | k+1=>by have:=pmax_val v k;show v (if _ then _ else _)=max _ _;split <;> omega
def bc (t:Nat→Bool) (x y:Nat→Int) (i:Nat):Array Value:=#[.bool (t i),.int .u64 (x i),.int .u64 (y i)]
/-- n bigs at A, cell by cell. -/
def BigC (w:World) (B:Nat) (A:Option Addr) (n:Nat) (t:Nat→Bool) (x y:Nat→Int):Prop:=Sl w B 3 A n fun i j=>match j with | 0=>.bool (t i) | 1=>.int .u64 (x i) | _=>.int .u64 (y i)
/-- What hull has: which ones it holds as yet. -/
structure HulX (w:World) (qb:Nat) (t:Nat→Bool) (x y:Nat→Int) (p q:Nat) (wr:World):Prop where
 below:Below qb w wr
 lo:Bk wr qb 217 (bc t x y p)
 hi:Bk wr (qb+1) 217 (bc t x y q)
theorem hull_ex (w:World) (A:Option Addr) (n c:Nat) (tf:Nat→Bool) (xf yf:Nat→Int) (v:Nat→Int) (h:BigC w w.heap.size A (n+1) tf xf yf) (hV:∀ i,i<n+1→IsBig (.agg (bc tf xf yf i)) (v i)) (h1n:1≤n) (hn:n<16) (hc:n+1≤c) (hc2:c≤9223372036854775807) :
  Calls Tryz.prog 139 #[.slice A (n+1) c] w fun e w'=>e=.returned (.tuple #[.agg (bc tf xf yf (pmin v n)),.agg (bc tf xf yf (pmax v n))])∧Below w.heap.size w w':=by
 have HV:=Lib.hid hV
 have HL:=Lib.hid h
 obtain ⟨b,off,rfl,hb,e0,e1,e2⟩:=Sl.at3 HL.out (i:=0) (by omega)
 obtain ⟨t,htt⟩:∃ z,tf 0=z:=⟨_,rfl⟩
 obtain ⟨x,hxx⟩:∃ z,xf 0=z:=⟨_,rfl⟩
 obtain ⟨y,hyy⟩:∃ z,yf 0=z:=⟨_,rfl⟩
 try dsimp only at e0 e1 e2
 rw [htt] at e0
 rw [hxx] at e1
 rw [hyy] at e2
 have H00:Hid (bc tf xf yf 0=#[.bool t,.int .u64 x,.int .u64 y]):=Lib.hid (by unfold bc;rw [htt,hxx,hyy])
 rw [Nat.zero_mul,Nat.add_zero] at e0 e1 e2
 obtain ⟨m,hm⟩:∃ m:Nat,n+1=m:=⟨_,rfl⟩
 rw [hm]
 have hm2:1<m:=by omega
 have hm2':(1:Int)<(m:Int):=by omega
 have hc1:1 ≠ c:=by omega
 have hm0:0<m:=by omega
 have hm0':(0:Int)<(m:Int):=by omega
 have hm1:1≤m:=by omega
 have hm1':(1:Int)≤(m:Int):=by omega
 have hmc:m≤c:=by omega
 have hmc':(m:Int)≤(c:Int):=by omega
 have hne1:b ≠ w.heap.size:=by omega
 have hne2:b ≠ w.heap.size+1:=by omega
 clear h hV htt hxx hyy
 go_enter Tryz.func139,Tryz.ntmps139
 go_upto_region 1 with (fail)
 go_region
 obtain ⟨qb,hqb⟩:∃ qb,w.heap.size=qb:=⟨_,rfl⟩
 obtain ⟨W1,hW1⟩:∃ W1,((w.alloc (.cells #[.bool t,.int .u64 x,.int .u64 y] 217)).alloc (.cells #[.bool t,.int .u64 x,.int .u64 y] 217)).drew=W1:=⟨_,rfl⟩
 have HKA:Hid (Bk W1 qb 217 #[.bool t,.int .u64 x,.int .u64 y]):=Lib.hid (by rw [← hW1,← hqb];exact ((Bk.new _ _ _).alloc _).drewN 1)
 have HKB:Hid (Bk W1 (qb+1) 217 #[.bool t,.int .u64 x,.int .u64 y]):=Lib.hid (by rw [← hW1,← hqb];exact (Bk.newAt _ _ _ _ (by simp)).drewN 1)
 have HB1:Hid (Below qb w W1):=Lib.hid (by rw [← hW1,← hqb];exact (((Below.refl _ w).alloc (Nat.le_refl _) _).alloc (by simp) _).drew)
 rw [hW1,hqb]
 rw [hqb] at HL hb hne1 hne2
 clear hW1
 go_wp2_with fail
 rw [show m - 1=n by omega]
 have HN:Hid (m=n+1):=Lib.hid hm.symm
 obtain ⟨d,hd⟩:∃ d,c - 1=d:=⟨_,rfl⟩
 rw [hd]
 have HCD:Hid (n≤d∧d≤9223372036854775807):=Lib.hid (by omega)
 have HQB:=Lib.hid hqb
 clear hqb hd hm hmc hmc' hc2 hc hc1 e0 e1 e2 hm2 hm2' hm0 hm0' hm1 hm1'
 go_loopw [15] (fun iv wr=>∃ k:Nat,k≤n∧iv=.int .i64 k∧Hid (HulX w qb tf xf yf (pmin v k) (pmax v k) wr)) (fun iv _=>n - (intOf iv).toNat)
 case atStart=>exact ⟨0,Nat.zero_le _,rfl,Lib.hid ⟨HB1.out,by show Bk _ _ _ (bc tf xf yf 0);rw [H00.out];exact HKA.out,by show Bk _ _ _ (bc tf xf yf 0);rw [H00.out];exact HKB.out⟩⟩
 case round =>
  obtain ⟨wo,rfl⟩:∃ wo:World,wo=wr:=⟨_,rfl⟩
  obtain ⟨k,hk,rfl,hs⟩:=hrel
  have HB:=Lib.hid hs.out.below
  have hk1:=hs.out.lo
  have hk2:=hs.out.hi
  have hv1:=HV.out (pmin v k) (by have:=pmin_le v k;omega)
  have hv2:=HV.out (pmax v k) (by have:=pmax_le v k;omega)
  obtain ⟨t1,ht1⟩:∃ z,tf (pmin v k)=z:=⟨_,rfl⟩
  obtain ⟨x1,hx1⟩:∃ z,xf (pmin v k)=z:=⟨_,rfl⟩
  obtain ⟨y1,hy1⟩:∃ z,yf (pmin v k)=z:=⟨_,rfl⟩
  obtain ⟨t2,ht2⟩:∃ z,tf (pmax v k)=z:=⟨_,rfl⟩
  obtain ⟨x2,hx2⟩:∃ z,xf (pmax v k)=z:=⟨_,rfl⟩
  obtain ⟨y2,hy2⟩:∃ z,yf (pmax v k)=z:=⟨_,rfl⟩
  have HE1:Hid (bc tf xf yf (pmin v k)=#[.bool t1,.int .u64 x1,.int .u64 y1]):=Lib.hid (by unfold bc;rw [ht1,hx1,hy1])
  have HE2:Hid (bc tf xf yf (pmax v k)=#[.bool t2,.int .u64 x2,.int .u64 y2]):=Lib.hid (by unfold bc;rw [ht2,hx2,hy2])
  rw [HE1.out] at hk1 hv1
  rw [HE2.out] at hk2 hv2
  clear ht1 hx1 hy1 ht2 hx2 hy2
  have HA:=Lib.hid hk1
  have HC:=Lib.hid hk2
  clear hs hk1 hk2
  have h0k:(0:Int)≤(k:Int):=by omega
  by_cases hlt:k<n
  ·have hki:(k:Int)<(n:Int):=by omega
   have hnd:n≤d:=HCD.out.1
   obtain ⟨b',off',hA',_,q0,q1,q2⟩:=Sl.at3 (Sl.below HL.out HB.out) (i:=k+1) (by have:=HN.out;omega)
   have hv3:=HV.out (k+1) (by omega)
   try dsimp only at q0 q1 q2
   obtain ⟨t3,ht3⟩:∃ z,tf (k+1)=z:=⟨_,rfl⟩
   obtain ⟨x3,hx3⟩:∃ z,xf (k+1)=z:=⟨_,rfl⟩
   obtain ⟨y3,hy3⟩:∃ z,yf (k+1)=z:=⟨_,rfl⟩
   have HE3:Hid (bc tf xf yf (k+1)=#[.bool t3,.int .u64 x3,.int .u64 y3]):=Lib.hid (by unfold bc;rw [ht3,hx3,hy3])
   rw [HE3.out] at hv3
   rw [ht3] at q0
   rw [hx3] at q1
   rw [hy3] at q2
   clear ht3 hx3 hy3
   injection hA' with hA'
   injection hA' with hA1 hA2
   subst hA1 hA2
   rw [show off+(k+1) * 3=off+3+k * 3 by omega] at q0 q1 q2
   have HLS1:=Lib.hid (fun w=>less_any hv3 hv1 w)
   have HLS2:=Lib.hid (fun w=>less_any hv2 hv3 w)
   obtain ⟨r1,hr1⟩:∃ r,decide (v (k+1)<v (pmin v k))=r:=⟨_,rfl⟩
   obtain ⟨r2,hr2⟩:∃ r,decide (v (pmax v k)<v (k+1))=r:=⟨_,rfl⟩
   rw [hr1] at HLS1
   rw [hr2] at HLS2
   have HD1:Hid ((r1=true∧bc tf xf yf (pmin v (k+1))=#[.bool t3,.int .u64 x3,.int .u64 y3]) ∨ (r1=false∧bc tf xf yf (pmin v (k+1))=#[.bool t1,.int .u64 x1,.int .u64 y1])):=Lib.hid (by
    by_cases g:v (k+1)<v (pmin v k)
    ·exact Or.inl ⟨by rw [← hr1];exact decide_eq_true g,by rw [show pmin v (k+1)=k+1 from if_pos g];exact HE3.out⟩
    ·exact Or.inr ⟨by rw [← hr1];exact decide_eq_false g,by rw [show pmin v (k+1)=pmin v k from if_neg g];exact HE1.out⟩)
   have HD2:Hid ((r2=true∧bc tf xf yf (pmax v (k+1))=#[.bool t3,.int .u64 x3,.int .u64 y3]) ∨ (r2=false∧bc tf xf yf (pmax v (k+1))=#[.bool t2,.int .u64 x2,.int .u64 y2])):=Lib.hid (by
    by_cases g:v (pmax v k)<v (k+1)
    ·exact Or.inl ⟨by rw [← hr2];exact decide_eq_true g,by rw [show pmax v (k+1)=k+1 from if_pos g];exact HE3.out⟩
    ·exact Or.inr ⟨by rw [← hr2];exact decide_eq_false g,by rw [show pmax v (k+1)=pmax v k from if_neg g];exact HE2.out⟩)
   obtain ⟨gx,hgx⟩:∃ gx,wo.heap.size=gx:=⟨_,rfl⟩
   have HGX:Hid (qb+1<gx):=Lib.hid (by rw [← hgx];exact HC.out.lt)
   obtain ⟨W2,hW2⟩:∃ W2,wo.alloc (.cells #[.bool t3,.int .u64 x3,.int .u64 y3] 217)=W2:=⟨_,rfl⟩
   have HX0:Hid (Bk W2 gx 217 #[.bool t3,.int .u64 x3,.int .u64 y3]):=Lib.hid (by rw [← hW2,← hgx];exact Bk.new _ _ _)
   have HA0:Hid (Bk W2 qb 217 #[.bool t1,.int .u64 x1,.int .u64 y1]):=Lib.hid (by rw [← hW2];exact HA.out.alloc _)
   have HC0:Hid (Bk W2 (qb+1) 217 #[.bool t2,.int .u64 x2,.int .u64 y2]):=Lib.hid (by rw [← hW2];exact HC.out.alloc _)
   have HB2:Hid (Below qb w W2):=Lib.hid (by rw [← hW2];exact HB.out.alloc (Nat.le_of_lt HA.out.lt) _)
   clear hv1 hv2 hv3 hr1 hr2
   go_upto_region 5 with (fail)
   clear hW2 hgx q0 q1 q2
   go_wp2_with (first | (refine wpLoadAt rfl 217 _ rfl (qb) 0 rfl #[.bool t1,.int .u64 x1,.int .u64 y1] _ (fun j u hj=>by rw [Nat.zero_add,HA0.out.cell];exact hj) und_big rfl info_big ?_) | (refine wpLoadAt rfl 217 _ rfl (gx) 0 rfl #[.bool t3,.int .u64 x3,.int .u64 y3] _ (fun j u hj=>by rw [Nat.zero_add,HX0.out.cell];exact hj) und_big rfl info_big ?_) | fail)
   refine (HLS1.out _).mono ?_
   rintro e w1 ⟨rfl,hb1⟩
   have HX1:Hid (Bk w1 gx 217 #[.bool t3,.int .u64 x3,.int .u64 y3]):=Lib.hid (HX0.out.below hb1 HX0.out.lt)
   have HA1:Hid (Bk w1 qb 217 #[.bool t1,.int .u64 x1,.int .u64 y1]):=Lib.hid (HA0.out.below hb1 HA0.out.lt)
   have HC1:Hid (Bk w1 (qb+1) 217 #[.bool t2,.int .u64 x2,.int .u64 y2]):=Lib.hid (HC0.out.below hb1 HC0.out.lt)
   have HBL1:Hid (Below qb w w1):=Lib.hid (HB2.out.trans (hb1.mono (Nat.le_of_lt HA0.out.lt)))
   clear hb1
   rcases HD1.out with ⟨g1,hm1⟩ | ⟨g1,hm1⟩
   ·have HM1:=Lib.hid hm1
    clear hm1
    rw [g1]
    go_upto_region 7 with (first | (refine wpLoadAt rfl 217 _ rfl (gx) 0 rfl #[.bool t3,.int .u64 x3,.int .u64 y3] _ (fun j u hj=>by rw [Nat.zero_add,HX1.out.cell];exact hj) und_big rfl info_big ?_) | (refine wpStoreAt rfl rfl 217 _ _ rfl (qb) 0 rfl #[.bool t3,.int .u64 x3,.int .u64 y3] rfl 217 _ HA1.out (by show 0+3≤3;omega) (one3 _ _ _) info_big ?_;intro wf hkwf howf))
    rw [splA_all #[.bool t1,.int .u64 x1,.int .u64 y1] #[.bool t3,.int .u64 x3,.int .u64 y3] rfl] at hkwf
    have HX1:Hid (Bk wf gx 217 #[.bool t3,.int .u64 x3,.int .u64 y3]):=Lib.hid (HX1.out.only howf (by have:=HGX.out;omega))
    have HC1:Hid (Bk wf (qb+1) 217 #[.bool t2,.int .u64 x2,.int .u64 y2]):=Lib.hid (HC1.out.only howf (by omega))
    have HBL1:Hid (Below qb w wf):=Lib.hid (HBL1.out.trans (howf.below (Nat.le_refl _)))
    have HA1:=Lib.hid hkwf
    clear hkwf howf
    go_upto_region 7 with (fail)
    go_wp2_with (first | (refine wpLoadAt rfl 217 _ rfl (qb+1) 0 rfl #[.bool t2,.int .u64 x2,.int .u64 y2] _ (fun j u hj=>by rw [Nat.zero_add,HC1.out.cell];exact hj) und_big rfl info_big ?_) | (refine wpLoadAt rfl 217 _ rfl (gx) 0 rfl #[.bool t3,.int .u64 x3,.int .u64 y3] _ (fun j u hj=>by rw [Nat.zero_add,HX1.out.cell];exact hj) und_big rfl info_big ?_) | fail)
    refine (HLS2.out _).mono ?_
    rintro e w2 ⟨rfl,hb2⟩
    have HX2:Hid (Bk w2 gx 217 #[.bool t3,.int .u64 x3,.int .u64 y3]):=Lib.hid (HX1.out.below hb2 HX1.out.lt)
    have HA2:Hid (Bk w2 qb 217 #[.bool t3,.int .u64 x3,.int .u64 y3]):=Lib.hid (HA1.out.below hb2 HA1.out.lt)
    have HC2:Hid (Bk w2 (qb+1) 217 #[.bool t2,.int .u64 x2,.int .u64 y2]):=Lib.hid (HC1.out.below hb2 HC1.out.lt)
    have HB2:Hid (Below qb w w2):=Lib.hid (HBL1.out.trans (hb2.mono (Nat.le_of_lt HA1.out.lt)))
    clear hb2
    rcases HD2.out with ⟨r2,hm2⟩ | ⟨r2,hm2⟩
    ·have HM2:=Lib.hid hm2
     clear hm2
     rw [r2]
     go_wp2_with (first | (refine wpLoadAt rfl 217 _ rfl (gx) 0 rfl #[.bool t3,.int .u64 x3,.int .u64 y3] _ (fun j u hj=>by rw [Nat.zero_add,HX2.out.cell];exact hj) und_big rfl info_big ?_) | (refine wpStoreAt rfl rfl 217 _ _ rfl (qb+1) 0 rfl #[.bool t3,.int .u64 x3,.int .u64 y3] rfl 217 _ HC2.out (by show 0+3≤3;omega) (one3 _ _ _) info_big ?_;intro wg hkwg howg))
     rw [splA_all #[.bool t2,.int .u64 x2,.int .u64 y2] #[.bool t3,.int .u64 x3,.int .u64 y3] rfl] at hkwg
     go_roundw
     case rel=>exact ⟨k+1,by omega,by go_num,Lib.hid ⟨HB2.out.trans (howg.below (by omega)),by rw [HM1.out];exact HA2.out.only howg (by omega),by rw [HM2.out];exact hkwg⟩⟩
     case measure=>simp [intOf];omega
    ·have HM2:=Lib.hid hm2
     clear hm2
     rw [r2]
     go_wp2_with fail
     go_roundw
     case rel=>exact ⟨k+1,by omega,by go_num,Lib.hid ⟨HB2.out,by rw [HM1.out];exact HA2.out,by rw [HM2.out];exact HC2.out⟩⟩
     case measure=>simp [intOf];omega
   ·have HM1:=Lib.hid hm1
    clear hm1
    rw [g1]
    go_upto_region 7 with (fail)
    go_wp2_with (first | (refine wpLoadAt rfl 217 _ rfl (qb+1) 0 rfl #[.bool t2,.int .u64 x2,.int .u64 y2] _ (fun j u hj=>by rw [Nat.zero_add,HC1.out.cell];exact hj) und_big rfl info_big ?_) | (refine wpLoadAt rfl 217 _ rfl (gx) 0 rfl #[.bool t3,.int .u64 x3,.int .u64 y3] _ (fun j u hj=>by rw [Nat.zero_add,HX1.out.cell];exact hj) und_big rfl info_big ?_) | fail)
    refine (HLS2.out _).mono ?_
    rintro e w2 ⟨rfl,hb2⟩
    have HX2:Hid (Bk w2 gx 217 #[.bool t3,.int .u64 x3,.int .u64 y3]):=Lib.hid (HX1.out.below hb2 HX1.out.lt)
    have HA2:Hid (Bk w2 qb 217 #[.bool t1,.int .u64 x1,.int .u64 y1]):=Lib.hid (HA1.out.below hb2 HA1.out.lt)
    have HC2:Hid (Bk w2 (qb+1) 217 #[.bool t2,.int .u64 x2,.int .u64 y2]):=Lib.hid (HC1.out.below hb2 HC1.out.lt)
    have HB2:Hid (Below qb w w2):=Lib.hid (HBL1.out.trans (hb2.mono (Nat.le_of_lt HA1.out.lt)))
    clear hb2
    rcases HD2.out with ⟨r2,hm2⟩ | ⟨r2,hm2⟩
    ·have HM2:=Lib.hid hm2
     clear hm2
     rw [r2]
     go_wp2_with (first | (refine wpLoadAt rfl 217 _ rfl (gx) 0 rfl #[.bool t3,.int .u64 x3,.int .u64 y3] _ (fun j u hj=>by rw [Nat.zero_add,HX2.out.cell];exact hj) und_big rfl info_big ?_) | (refine wpStoreAt rfl rfl 217 _ _ rfl (qb+1) 0 rfl #[.bool t3,.int .u64 x3,.int .u64 y3] rfl 217 _ HC2.out (by show 0+3≤3;omega) (one3 _ _ _) info_big ?_;intro wg hkwg howg))
     rw [splA_all #[.bool t2,.int .u64 x2,.int .u64 y2] #[.bool t3,.int .u64 x3,.int .u64 y3] rfl] at hkwg
     go_roundw
     case rel=>exact ⟨k+1,by omega,by go_num,Lib.hid ⟨HB2.out.trans (howg.below (by omega)),by rw [HM1.out];exact HA2.out.only howg (by omega),by rw [HM2.out];exact hkwg⟩⟩
     case measure=>simp [intOf];omega
    ·have HM2:=Lib.hid hm2
     clear hm2
     rw [r2]
     go_wp2_with fail
     go_roundw
     case rel=>exact ⟨k+1,by omega,by go_num,Lib.hid ⟨HB2.out,by rw [HM1.out];exact HA2.out,by rw [HM2.out];exact HC2.out⟩⟩
     case measure=>simp [intOf];omega
  ·obtain rfl:k=n:=by omega
   have hki:¬ (k:Int)<(k:Int):=by omega
   have c0:wo.cell? ⟨qb,0,none⟩=some (.bool t1):=HA.out.cell 0
   have c1:wo.cell? ⟨qb,1,none⟩=some (.int .u64 x1):=HA.out.cell 1
   have c2:wo.cell? ⟨qb,2,none⟩=some (.int .u64 y1):=HA.out.cell 2
   have d0:wo.cell? ⟨qb+1,0,none⟩=some (.bool t2):=HC.out.cell 0
   have d1:wo.cell? ⟨qb+1,1,none⟩=some (.int .u64 x2):=HC.out.cell 1
   have d2:wo.cell? ⟨qb+1,2,none⟩=some (.int .u64 y2):=HC.out.cell 2
   have u0:wo.frozen? ⟨qb,0,none⟩=false:=HA.out.free 0
   have u1:wo.frozen? ⟨qb,1,none⟩=false:=HA.out.free 1
   have u2:wo.frozen? ⟨qb,2,none⟩=false:=HA.out.free 2
   have v0:wo.frozen? ⟨qb+1,0,none⟩=false:=HC.out.free 0
   have v1:wo.frozen? ⟨qb+1,1,none⟩=false:=HC.out.free 1
   have v2:wo.frozen? ⟨qb+1,2,none⟩=false:=HC.out.free 2
   have HV1:=Lib.hid hv1
   have HV2:=Lib.hid hv2
   clear hv1 hv2
   go_wp2_with fail
   go_region
   obtain ⟨W5,hW5⟩:∃ W5,((((((wo.setCell ⟨qb,0,none⟩ (.bool t1)).setCell ⟨qb,1,none⟩ (.int .u64 x1)).setCell ⟨qb,2,none⟩ (.int .u64 y1)).setCell ⟨qb+1,0,none⟩ (.bool t2)).setCell ⟨qb+1,1,none⟩ (.int .u64 x2)).setCell ⟨qb+1,2,none⟩ (.int .u64 y2)).drew=W5:=⟨_,rfl⟩
   have HA5:Hid (Bk W5 qb 217 #[.bool t1,.int .u64 x1,.int .u64 y1]):=Lib.hid (by
    rw [← hW5]
    exact (((((((HA.out.set 0 (.bool t1)).set 1 (.int .u64 x1)).set 2 (.int .u64 y1)).far (p:=⟨qb+1,0,none⟩) (by simp) _).far (p:=⟨qb+1,1,none⟩) (by simp) _).far (p:=⟨qb+1,2,none⟩) (by simp) _)).drewN 1)
   have HC5:Hid (Bk W5 (qb+1) 217 #[.bool t2,.int .u64 x2,.int .u64 y2]):=Lib.hid (by
    rw [← hW5]
    exact ((((((HC.out.far (p:=⟨qb,0,none⟩) (by simp) _).far (p:=⟨qb,1,none⟩) (by simp) _).far (p:=⟨qb,2,none⟩) (by simp) _).set 0 (.bool t2)).set 1 (.int .u64 x2)).set 2 (.int .u64 y2)).drewN 1)
   have HB5:Hid (Below qb w W5):=Lib.hid (by
    rw [← hW5]
    exact ((((((HB.out.setCell (p:=⟨qb,0,none⟩) (Nat.le_refl _) _).setCell (p:=⟨qb,1,none⟩) (Nat.le_refl _) _).setCell (p:=⟨qb,2,none⟩) (Nat.le_refl _) _).setCell (p:=⟨qb+1,0,none⟩) (Nat.le_succ _) _).setCell (p:=⟨qb+1,1,none⟩) (Nat.le_succ _) _).setCell (p:=⟨qb+1,2,none⟩) (Nat.le_succ _) _).drew)
   rw [hW5]
   clear hW5 c0 c1 c2 d0 d1 d2 u0 u1 u2 v0 v1 v2
   go_wp2_with fail
   exact ret_big2 rfl rfl rfl rfl HA5.out HC5.out ⟨by rw [HE1.out,HE2.out],by rw [HQB.out];exact HB5.out⟩

theorem hullS_any (a b:SpanD) (ha:WdS a) (hb:WdS b) (w:World):Calls Tryz.prog 188 #[spanV a,spanV b] w (SpPost (hullB a b) w.heap.size w):=by
 obtain ⟨al,ah⟩:=a
 obtain ⟨bl,bh⟩:=b
 unfold spanV
 dsimp only
 have HCH:Hid ((if (allN 2 fun i=>chkB ((fun i=>match i with | 0=>(⟨al,ah⟩:SpanD) | _=>⟨bl,bh⟩) i))=true then (0:Int) else 2)=if (chkB ⟨al,ah⟩ && chkB ⟨bl,bh⟩)=true then 0 else 2):=Lib.hid (by
  show (if (chkB ⟨al,ah⟩ && (chkB ⟨bl,bh⟩ && true))=true then (0:Int) else 2)=_
  rw [Bool.and_true])
 obtain ⟨qb,hqb⟩:∃ qb,w.heap.size=qb:=⟨_,rfl⟩
 obtain ⟨W0,hW0⟩:∃ W0,(((w.alloc (.cells #[.int .i64 al,.int .i64 ah] 31)).alloc (.cells #[.int .i64 bl,.int .i64 bh] 31)).alloc (.cells #[.int .i64 0,.int .i64 0] 31)).alloc (.cells #[.int .i64 al,.int .i64 ah,.int .i64 bl,.int .i64 bh] 31)=W0:=⟨_,rfl⟩
 have HA0:Hid (Bk W0 qb 31 #[.int .i64 al,.int .i64 ah]):=Lib.hid (by rw [← hW0,← hqb];exact (((Bk.new _ _ _).alloc _).alloc _).alloc _)
 have HB0:Hid (Bk W0 (qb+1) 31 #[.int .i64 bl,.int .i64 bh]):=Lib.hid (by rw [← hW0,← hqb];exact ((Bk.newAt _ _ _ _ (by simp)).alloc _).alloc _)
 have HR0:Hid (Bk W0 (qb+1+1) 31 #[.int .i64 0,.int .i64 0]):=Lib.hid (by rw [← hW0,← hqb];exact (Bk.newAt _ _ _ _ (by simp)).alloc _)
 have HS0:Hid (Bk W0 (qb+1+1+1) 31 #[.int .i64 al,.int .i64 ah,.int .i64 bl,.int .i64 bh]):=Lib.hid (by rw [← hW0,← hqb];exact Bk.newAt _ _ _ _ (by simp))
 have HL0:Hid (Below qb w W0):=Lib.hid (by rw [← hW0,← hqb];exact ((((Below.refl _ w).alloc (Nat.le_refl _) _).alloc (by simp) _).alloc (by simp <;> omega) _).alloc (by simp <;> omega) _)
 have HSP:Hid (SpansAt W0 W0.heap.size (some ⟨qb+1+1+1,0,none⟩) 2 (fun i=>match i with | 0=>(⟨al,ah⟩:SpanD) | _=>⟨bl,bh⟩)):=Lib.hid ⟨by omega,fun _=>⟨_,_,rfl,HS0.out.lt,fun i hi j hj=>by
  match i,j,hi,hj with
  | 0,0,_,_=>exact HS0.out.cell 0
  | 0,1,_,_=>exact HS0.out.cell 1
  | 1,0,_,_=>exact HS0.out.cell 2
  | 1,1,_,_=>exact HS0.out.cell 3⟩⟩
 have HFIN:Hid (∀ w',Below qb w w'→SpPost (hullB ⟨al,ah⟩ ⟨bl,bh⟩) w.heap.size w (.returned (.tuple #[.agg #[.int .i64 (hullB ⟨al,ah⟩ ⟨bl,bh⟩).1.lo,.int .i64 (hullB ⟨al,ah⟩ ⟨bl,bh⟩).1.hi],.int .i64 (hullB ⟨al,ah⟩ ⟨bl,bh⟩).2])) w'):=Lib.hid fun w' h=>⟨rfl,by rw [hqb];exact h⟩
 have HCK:=Lib.hid (checked_any W0 (some ⟨qb+1+1+1,0,none⟩) 2 2 _ HSP.out (by omega))
 obtain ⟨⟨a1,a2⟩,a3,a4⟩:=ha
 obtain ⟨⟨b1,b2⟩,b3,b4⟩:=hb
 dsimp only at a1 a2 a3 a4 b1 b2 b3 b4
 rw [HCH.out] at HCK
 clear HCH HSP a1 a2 a3 a4 b1 b2 b3 b4
 cases hc:(chkB ⟨al,ah⟩ && chkB ⟨bl,bh⟩) with
 | false =>
  have hn:hullB ⟨al,ah⟩ ⟨bl,bh⟩=(zeroS,2):=by unfold hullB;rw [hc];rfl
  rw [hn] at HFIN ⊢
  rw [hc] at HCK
  clear hc hn
  go_enter Tryz.func188,Tryz.ntmps188
  go_wp2_with fail
  clear hW0 hqb
  refine HCK.out.mono ?_
  rintro e wk ⟨rfl,hwk⟩
  have HR:Hid (Bk wk (qb+1+1) 31 #[.int .i64 0,.int .i64 0]):=Lib.hid (HR0.out.below hwk HR0.out.lt)
  have HBW:Hid (Below qb w wk):=Lib.hid (HL0.out.trans (hwk.mono (Nat.le_of_lt HA0.out.lt)))
  clear hwk
  go_wp2_with (refine wpStoreAt rfl rfl 31 _ _ rfl (qb+1+1) 0 rfl #[.int .i64 0,.int .i64 0] rfl 31 _ HR.out (by show 0+2≤2;omega) (one2 _ _) info_span ?_;intro wf hkf hof)
  rw [splA_all #[.int .i64 0,.int .i64 0] #[.int .i64 0,.int .i64 0] rfl] at hkf
  exact ret_span rfl rfl rfl hkf rfl (HFIN.out _ (HBW.out.trans (hof.below (by omega))))
 | true =>
  have hn:hullB ⟨al,ah⟩ ⟨bl,bh⟩=(⟨min al bl,max ah bh⟩,0):=by unfold hullB;rw [hc];rfl
  rw [hn] at HFIN ⊢
  rw [hc] at HCK
  clear hc hn
  go_enter Tryz.func188,Tryz.ntmps188
  go_wp2_with fail
  clear hW0 hqb
  refine HCK.out.mono ?_
  rintro e wk ⟨rfl,hwk⟩
  have HAW:Hid (Bk wk qb 31 #[.int .i64 al,.int .i64 ah]):=Lib.hid (HA0.out.below hwk HA0.out.lt)
  have HBB:Hid (Bk wk (qb+1) 31 #[.int .i64 bl,.int .i64 bh]):=Lib.hid (HB0.out.below hwk HB0.out.lt)
  have HR:Hid (Bk wk (qb+1+1) 31 #[.int .i64 0,.int .i64 0]):=Lib.hid (HR0.out.below hwk HR0.out.lt)
  have HBW:Hid (Below qb w wk):=Lib.hid (HL0.out.trans (hwk.mono (Nat.le_of_lt HA0.out.lt)))
  clear hwk
  have c0:wk.cell? ⟨qb,0,none⟩=some (.int .i64 al):=HAW.out.cell 0
  have c1:wk.cell? ⟨qb,1,none⟩=some (.int .i64 ah):=HAW.out.cell 1
  have d0:wk.cell? ⟨qb+1,0,none⟩=some (.int .i64 bl):=HBB.out.cell 0
  have d1:wk.cell? ⟨qb+1,1,none⟩=some (.int .i64 bh):=HBB.out.cell 1
  go_wp2_with (refine wpStoreAt rfl rfl 31 _ _ rfl (qb+1+1) 0 rfl #[.int .i64 (min al bl),.int .i64 (max ah bh)] rfl 31 _ HR.out (by show 0+2≤2;omega) (one2 _ _) info_span ?_;intro wf hkf hof)
  rw [splA_all #[.int .i64 0,.int .i64 0] #[.int .i64 (min al bl),.int .i64 (max ah bh)] rfl] at hkf
  exact ret_span rfl rfl rfl hkf rfl (HFIN.out _ (HBW.out.trans (hof.below (by omega))))

theorem wide_any (a:SpanD) (ha:WdS a) (w:World):Calls Tryz.prog 189 #[spanV a] w fun e w'=>e=.returned (.tuple #[.int .i64 (wideB a).1,.int .i64 (wideB a).2])∧Below w.heap.size w w':=by
 obtain ⟨lo,hi⟩:=a
 have H1:=Lib.hid (fun w=>check_any ⟨lo,hi⟩ w)
 obtain ⟨qb,hqb⟩:∃ qb,w.heap.size=qb:=⟨_,rfl⟩
 obtain ⟨W0,hW0⟩:∃ W0,w.alloc (.cells #[.int .i64 lo,.int .i64 hi] 31)=W0:=⟨_,rfl⟩
 have HA:Hid (Bk W0 qb 31 #[.int .i64 lo,.int .i64 hi]):=Lib.hid (by rw [← hW0,← hqb];exact Bk.new _ _ _)
 have HB:Hid (Below qb w W0):=Lib.hid (by rw [← hW0,← hqb];exact (Below.refl _ w).alloc (Nat.le_refl _) _)
 have HQ:Hid (w.heap.size=qb):=Lib.hid hqb
 obtain ⟨⟨a1,a2⟩,a3,a4⟩:=ha
 dsimp only at a1 a2 a3 a4
 obtain ⟨R,hR⟩:∃ R,wideB ⟨lo,hi⟩=R:=⟨_,rfl⟩
 rw [hR]
 unfold spanV at H1 ⊢
 dsimp only at H1 ⊢
 cases hc:chkB ⟨lo,hi⟩ with
 | false =>
  have he:errC ⟨lo,hi⟩=2:=by unfold errC;rw [hc];rfl
  have hn:R=(0,2):=by rw [← hR];unfold wideB;rw [hc];rfl
  subst hn
  rw [he] at H1
  clear hc he hR
  go_enter Tryz.func189,Tryz.ntmps189
  go_upto_region 1 with (fail)
  clear hW0 hqb
  go_wp2_with (refine wpLoadAt rfl 31 _ rfl qb 0 rfl #[.int .i64 lo,.int .i64 hi] _ (fun j u hj=>by rw [Nat.zero_add,HA.out.cell];exact hj) und_span rfl info_span ?_)
  refine (H1.out _).mono ?_
  rintro e w1 ⟨rfl,hw1⟩
  have HB1:Hid (Below qb w w1):=Lib.hid (HB.out.trans (hw1.mono (Nat.le_of_lt HA.out.lt)))
  clear hw1
  go_wp2_with fail
  go_ret2
  exact ⟨rfl,by rw [HQ.out];exact HB1.out⟩
 | true =>
  have he:errC ⟨lo,hi⟩=0:=by unfold errC;rw [hc];rfl
  have h3:=chk_iff.1 hc
  dsimp only at h3
  rw [he] at H1
  by_cases g:lo<0
  ·have m1:IntKind.i64.wrap (9223372036854775807+lo)=9223372036854775807+lo:=IntWalk.i64_in _ (by omega)
   have m1':wrap64 (9223372036854775807+lo)=9223372036854775807+lo:=w64_in (by omega) (by omega)
   have g1:decide (lo<0)=true:=decide_eq_true g
   by_cases k:9223372036854775807+lo<hi
   ·have hn:R=(0,4):=by rw [← hR];unfold wideB;rw [hc,if_pos rfl,if_pos ⟨g,k⟩]
    subst hn
    have g2:decide (9223372036854775807+lo<hi)=true:=decide_eq_true k
    clear hc he hR h3 g k a1 a2 a3 a4
    go_enter Tryz.func189,Tryz.ntmps189
    go_upto_region 1 with (fail)
    clear hW0 hqb
    go_wp2_with (refine wpLoadAt rfl 31 _ rfl qb 0 rfl #[.int .i64 lo,.int .i64 hi] _ (fun j u hj=>by rw [Nat.zero_add,HA.out.cell];exact hj) und_span rfl info_span ?_)
    refine (H1.out _).mono ?_
    rintro e w1 ⟨rfl,hw1⟩
    have HB1:Hid (Below qb w w1):=Lib.hid (HB.out.trans (hw1.mono (Nat.le_of_lt HA.out.lt)))
    have c0:w1.cell? ⟨qb,0,none⟩=some (.int .i64 lo):=(HA.out.below hw1 HA.out.lt).cell 0
    have c1:w1.cell? ⟨qb,1,none⟩=some (.int .i64 hi):=(HA.out.below hw1 HA.out.lt).cell 1
    clear hw1
    go_wp2_with fail
    go_ret2
    exact ⟨rfl,by rw [HQ.out];exact HB1.out⟩
   ·have hn:R=(hi - lo,0):=by rw [← hR];unfold wideB;rw [hc,if_pos rfl,if_neg (fun h=>k h.2)]
    subst hn
    have g2:decide (9223372036854775807+lo<hi)=false:=decide_eq_false k
    have m2:IntKind.i64.wrap (hi - lo)=hi - lo:=IntWalk.i64_in _ (by omega)
    have m2':wrap64 (hi - lo)=hi - lo:=w64_in (by omega) (by omega)
    clear hc he hR h3 g k a1 a2 a3 a4
    go_enter Tryz.func189,Tryz.ntmps189
    go_upto_region 1 with (fail)
    clear hW0 hqb
    go_wp2_with (refine wpLoadAt rfl 31 _ rfl qb 0 rfl #[.int .i64 lo,.int .i64 hi] _ (fun j u hj=>by rw [Nat.zero_add,HA.out.cell];exact hj) und_span rfl info_span ?_)
    refine (H1.out _).mono ?_
    rintro e w1 ⟨rfl,hw1⟩
    have HB1:Hid (Below qb w w1):=Lib.hid (HB.out.trans (hw1.mono (Nat.le_of_lt HA.out.lt)))
    have c0:w1.cell? ⟨qb,0,none⟩=some (.int .i64 lo):=(HA.out.below hw1 HA.out.lt).cell 0
    have c1:w1.cell? ⟨qb,1,none⟩=some (.int .i64 hi):=(HA.out.below hw1 HA.out.lt).cell 1
    clear hw1
    go_wp2_with fail
    go_ret2
    exact ⟨rfl,by rw [HQ.out];exact HB1.out⟩
  ·have hn:R=(hi - lo,0):=by rw [← hR];unfold wideB;rw [hc,if_pos rfl,if_neg (fun h=>g h.1)]
   subst hn
   have g1:decide (lo<0)=false:=decide_eq_false g
   have m2:IntKind.i64.wrap (hi - lo)=hi - lo:=IntWalk.i64_in _ (by omega)
   have m2':wrap64 (hi - lo)=hi - lo:=w64_in (by omega) (by omega)
   clear hc he hR h3 g a1 a2 a3 a4
   go_enter Tryz.func189,Tryz.ntmps189
   go_upto_region 1 with (fail)
   clear hW0 hqb
   go_wp2_with (refine wpLoadAt rfl 31 _ rfl qb 0 rfl #[.int .i64 lo,.int .i64 hi] _ (fun j u hj=>by rw [Nat.zero_add,HA.out.cell];exact hj) und_span rfl info_span ?_)
   refine (H1.out _).mono ?_
   rintro e w1 ⟨rfl,hw1⟩
   have HB1:Hid (Below qb w w1):=Lib.hid (HB.out.trans (hw1.mono (Nat.le_of_lt HA.out.lt)))
   have c0:w1.cell? ⟨qb,0,none⟩=some (.int .i64 lo):=(HA.out.below hw1 HA.out.lt).cell 0
   have c1:w1.cell? ⟨qb,1,none⟩=some (.int .i64 hi):=(HA.out.below hw1 HA.out.lt).cell 1
   clear hw1
   go_wp2_with fail
   go_ret2
   exact ⟨rfl,by rw [HQ.out];exact HB1.out⟩

def absB (a:SpanD):SpanD × Int:=if chkB a then (absS a,0) else (zeroS,2)
theorem abs_any (a:SpanD) (ha:WdS a) (w:World):Calls Tryz.prog 174 #[spanV a] w (SpPost (absB a) w.heap.size w):=by
 have HN:=Lib.hid (fun w=>neg_any a ha w)
 obtain ⟨lo,hi⟩:=a
 have H1:=Lib.hid (fun w=>check_any ⟨lo,hi⟩ w)
 obtain ⟨qb,hqb⟩:∃ qb,w.heap.size=qb:=⟨_,rfl⟩
 obtain ⟨W0,hW0⟩:∃ W0,(w.alloc (.cells #[.int .i64 lo,.int .i64 hi] 31)).alloc (.cells #[.int .i64 0,.int .i64 0] 31)=W0:=⟨_,rfl⟩
 have HA:Hid (Bk W0 qb 31 #[.int .i64 lo,.int .i64 hi]):=Lib.hid (by rw [← hW0,← hqb];exact (Bk.new _ _ _).alloc _)
 have HR:Hid (Bk W0 (qb+1) 31 #[.int .i64 0,.int .i64 0]):=Lib.hid (by rw [← hW0,← hqb];exact Bk.newAt _ _ _ _ (by simp))
 have HB:Hid (Below qb w W0):=Lib.hid (by rw [← hW0,← hqb];exact ((Below.refl _ w).alloc (Nat.le_refl _) _).alloc (by simp) _)
 have HFIN:Hid (∀ w',Below qb w w'→SpPost (absB ⟨lo,hi⟩) w.heap.size w (.returned (.tuple #[.agg #[.int .i64 (absB ⟨lo,hi⟩).1.lo,.int .i64 (absB ⟨lo,hi⟩).1.hi],.int .i64 (absB ⟨lo,hi⟩).2])) w'):=Lib.hid fun w' h=>⟨rfl,by rw [hqb];exact h⟩
 obtain ⟨⟨a1,a2⟩,a3,a4⟩:=ha
 dsimp only at a1 a2 a3 a4
 unfold SpPost spanV at HN
 unfold spanV at H1 ⊢
 dsimp only at H1 HN ⊢
 cases hc:chkB ⟨lo,hi⟩ with
 | false =>
  have he:errC ⟨lo,hi⟩=2:=by unfold errC;rw [hc];rfl
  have hn:absB ⟨lo,hi⟩=(zeroS,2):=by unfold absB;rw [hc];rfl
  rw [he] at H1
  rw [hn] at HFIN ⊢
  clear hc he hn a1 a2 a3 a4
  go_enter Tryz.func174,Tryz.ntmps174
  go_upto_region 1 with (fail)
  clear hW0 hqb
  go_wp2_with (refine wpLoadAt rfl 31 _ rfl qb 0 rfl #[.int .i64 lo,.int .i64 hi] _ (fun j u hj=>by rw [Nat.zero_add,HA.out.cell];exact hj) und_span rfl info_span ?_)
  refine (H1.out _).mono ?_
  rintro e w1 ⟨rfl,hw1⟩
  have HR1:Hid (Bk w1 (qb+1) 31 #[.int .i64 0,.int .i64 0]):=Lib.hid (HR.out.below hw1 HR.out.lt)
  have HA1:Hid (Bk w1 qb 31 #[.int .i64 lo,.int .i64 hi]):=Lib.hid (HA.out.below hw1 HA.out.lt)
  have HB1:Hid (Below qb w w1):=Lib.hid (HB.out.trans (hw1.mono (Nat.le_of_lt HA.out.lt)))
  have c0:w1.cell? ⟨qb,0,none⟩=some (.int .i64 lo):=HA1.out.cell 0
  have c1:w1.cell? ⟨qb,1,none⟩=some (.int .i64 hi):=HA1.out.cell 1
  clear hw1
  go_wp2_with (refine wpStoreAt rfl rfl 31 _ _ rfl (qb+1) 0 rfl #[.int .i64 (0),.int .i64 (0)] rfl 31 _ HR1.out (by show 0+2≤2;omega) (one2 _ _) info_span ?_;intro wf hkf hof)
  rw [splA_all #[.int .i64 0,.int .i64 0] #[.int .i64 (0),.int .i64 (0)] rfl] at hkf
  exact ret_span rfl rfl rfl hkf rfl (HFIN.out _ (HB1.out.trans (hof.below (by omega))))
 | true =>
  have he:errC ⟨lo,hi⟩=0:=by unfold errC;rw [hc];rfl
  have h3:=chk_iff.1 hc
  dsimp only at h3
  have hnb:negB ⟨lo,hi⟩=(⟨-hi,-lo⟩,0):=by unfold negB;rw [hc];rfl
  rw [hnb] at HN
  rw [he] at H1
  dsimp only at HN
  by_cases g:0≤lo
  ·have hn:absB ⟨lo,hi⟩=(⟨lo,hi⟩,0):=by unfold absB absS;rw [hc,if_pos rfl,if_pos g]
   rw [hn] at HFIN ⊢
   have g1:decide (0≤lo)=true:=decide_eq_true g
   clear hc he hn hnb h3 g a1 a2 a3 a4
   go_enter Tryz.func174,Tryz.ntmps174
   go_upto_region 1 with (fail)
   clear hW0 hqb
   go_wp2_with (refine wpLoadAt rfl 31 _ rfl qb 0 rfl #[.int .i64 lo,.int .i64 hi] _ (fun j u hj=>by rw [Nat.zero_add,HA.out.cell];exact hj) und_span rfl info_span ?_)
   refine (H1.out _).mono ?_
   rintro e w1 ⟨rfl,hw1⟩
   have HR1:Hid (Bk w1 (qb+1) 31 #[.int .i64 0,.int .i64 0]):=Lib.hid (HR.out.below hw1 HR.out.lt)
   have HA1:Hid (Bk w1 qb 31 #[.int .i64 lo,.int .i64 hi]):=Lib.hid (HA.out.below hw1 HA.out.lt)
   have HB1:Hid (Below qb w w1):=Lib.hid (HB.out.trans (hw1.mono (Nat.le_of_lt HA.out.lt)))
   have c0:w1.cell? ⟨qb,0,none⟩=some (.int .i64 lo):=HA1.out.cell 0
   have c1:w1.cell? ⟨qb,1,none⟩=some (.int .i64 hi):=HA1.out.cell 1
   clear hw1
   go_wp2_with (first | (refine wpLoadAt rfl 31 _ rfl qb 0 rfl #[.int .i64 lo,.int .i64 hi] _ (fun j u hj=>by rw [Nat.zero_add,HA1.out.cell];exact hj) und_span rfl info_span ?_) | (refine wpStoreAt rfl rfl 31 _ _ rfl (qb+1) 0 rfl #[.int .i64 (lo),.int .i64 (hi)] rfl 31 _ HR1.out (by show 0+2≤2;omega) (one2 _ _) info_span ?_;intro wf hkf hof))
   rw [splA_all #[.int .i64 0,.int .i64 0] #[.int .i64 (lo),.int .i64 (hi)] rfl] at hkf
   exact ret_span rfl rfl rfl hkf rfl (HFIN.out _ (HB1.out.trans (hof.below (by omega))))
  ·have g1:decide (0≤lo)=false:=decide_eq_false g
   by_cases k:hi≤0
   ·have hn:absB ⟨lo,hi⟩=(⟨-hi,-lo⟩,0):=by unfold absB absS negS;rw [hc,if_pos rfl,if_neg g,if_pos k]
    rw [hn] at HFIN ⊢
    have g2:decide (hi≤0)=true:=decide_eq_true k
    clear hc he hn hnb h3 g k a1 a2 a3 a4
    go_enter Tryz.func174,Tryz.ntmps174
    go_upto_region 1 with (fail)
    clear hW0 hqb
    go_wp2_with (refine wpLoadAt rfl 31 _ rfl qb 0 rfl #[.int .i64 lo,.int .i64 hi] _ (fun j u hj=>by rw [Nat.zero_add,HA.out.cell];exact hj) und_span rfl info_span ?_)
    refine (H1.out _).mono ?_
    rintro e w1 ⟨rfl,hw1⟩
    have HR1:Hid (Bk w1 (qb+1) 31 #[.int .i64 0,.int .i64 0]):=Lib.hid (HR.out.below hw1 HR.out.lt)
    have HA1:Hid (Bk w1 qb 31 #[.int .i64 lo,.int .i64 hi]):=Lib.hid (HA.out.below hw1 HA.out.lt)
    have HB1:Hid (Below qb w w1):=Lib.hid (HB.out.trans (hw1.mono (Nat.le_of_lt HA.out.lt)))
    have c0:w1.cell? ⟨qb,0,none⟩=some (.int .i64 lo):=HA1.out.cell 0
    have c1:w1.cell? ⟨qb,1,none⟩=some (.int .i64 hi):=HA1.out.cell 1
    clear hw1
    go_wp2_with (refine wpLoadAt rfl 31 _ rfl qb 0 rfl #[.int .i64 lo,.int .i64 hi] _ (fun j u hj=>by rw [Nat.zero_add,HA1.out.cell];exact hj) und_span rfl info_span ?_)
    refine (HN.out _).mono ?_
    rintro e w2 ⟨rfl,hw2⟩
    have HR2:Hid (Bk w2 (qb+1) 31 #[.int .i64 0,.int .i64 0]):=Lib.hid (HR1.out.below hw2 HR1.out.lt)
    have HB1:Hid (Below qb w w2):=Lib.hid (HB1.out.trans (hw2.mono (Nat.le_of_lt HA1.out.lt)))
    clear hw2
    go_wp2_with (refine wpStoreAt rfl rfl 31 _ _ rfl (qb+1) 0 rfl #[.int .i64 (-hi),.int .i64 (-lo)] rfl 31 _ HR2.out (by show 0+2≤2;omega) (one2 _ _) info_span ?_;intro wf hkf hof)
    rw [splA_all #[.int .i64 0,.int .i64 0] #[.int .i64 (-hi),.int .i64 (-lo)] rfl] at hkf
    exact ret_span rfl rfl rfl hkf rfl (HFIN.out _ (HB1.out.trans (hof.below (by omega))))
   ·have hn:absB ⟨lo,hi⟩=(⟨0,max (-lo) hi⟩,0):=by unfold absB absS;rw [hc,if_pos rfl,if_neg g,if_neg k]
    rw [hn] at HFIN ⊢
    have g2:decide (hi≤0)=false:=decide_eq_false k
    have m2:IntKind.i64.wrap (-lo)=-lo:=IntWalk.i64_in _ (by omega)
    have m2':wrap64 (-lo)=-lo:=w64_in (by omega) (by omega)
    clear hc he hn hnb h3 g k a1 a2 a3 a4
    go_enter Tryz.func174,Tryz.ntmps174
    go_upto_region 1 with (fail)
    clear hW0 hqb
    go_wp2_with (refine wpLoadAt rfl 31 _ rfl qb 0 rfl #[.int .i64 lo,.int .i64 hi] _ (fun j u hj=>by rw [Nat.zero_add,HA.out.cell];exact hj) und_span rfl info_span ?_)
    refine (H1.out _).mono ?_
    rintro e w1 ⟨rfl,hw1⟩
    have HR1:Hid (Bk w1 (qb+1) 31 #[.int .i64 0,.int .i64 0]):=Lib.hid (HR.out.below hw1 HR.out.lt)
    have HA1:Hid (Bk w1 qb 31 #[.int .i64 lo,.int .i64 hi]):=Lib.hid (HA.out.below hw1 HA.out.lt)
    have HB1:Hid (Below qb w w1):=Lib.hid (HB.out.trans (hw1.mono (Nat.le_of_lt HA.out.lt)))
    have c0:w1.cell? ⟨qb,0,none⟩=some (.int .i64 lo):=HA1.out.cell 0
    have c1:w1.cell? ⟨qb,1,none⟩=some (.int .i64 hi):=HA1.out.cell 1
    clear hw1
    go_wp2_with (refine wpStoreAt rfl rfl 31 _ _ rfl (qb+1) 0 rfl #[.int .i64 (0),.int .i64 (max (-lo) hi)] rfl 31 _ HR1.out (by show 0+2≤2;omega) (one2 _ _) info_span ?_;intro wf hkf hof)
    rw [splA_all #[.int .i64 0,.int .i64 0] #[.int .i64 (0),.int .i64 (max (-lo) hi)] rfl] at hkf
    exact ret_span rfl rfl rfl hkf rfl (HFIN.out _ (HB1.out.trans (hof.below (by omega))))

theorem within_any (a b:SpanD) (ha:WdS a) (hb:WdS b) (w:World):Calls Tryz.prog 115 #[spanV a,spanV b] w fun e w'=>e=.returned (.bool (withinB a b))∧Below w.heap.size w w':=by
 obtain ⟨al,ah⟩:=a
 obtain ⟨bl,bh⟩:=b
 unfold spanV
 dsimp only
 have HCH:Hid ((if (allN 2 fun i=>chkB ((fun i=>match i with | 0=>(⟨al,ah⟩:SpanD) | _=>⟨bl,bh⟩) i))=true then (0:Int) else 2)=if (chkB ⟨al,ah⟩ && chkB ⟨bl,bh⟩)=true then 0 else 2):=Lib.hid (by
  show (if (chkB ⟨al,ah⟩ && (chkB ⟨bl,bh⟩ && true))=true then (0:Int) else 2)=_
  rw [Bool.and_true])
 obtain ⟨qb,hqb⟩:∃ qb,w.heap.size=qb:=⟨_,rfl⟩
 obtain ⟨W0,hW0⟩:∃ W0,((w.alloc (.cells #[.int .i64 al,.int .i64 ah] 31)).alloc (.cells #[.int .i64 bl,.int .i64 bh] 31)).alloc (.cells #[.int .i64 al,.int .i64 ah,.int .i64 bl,.int .i64 bh] 31)=W0:=⟨_,rfl⟩
 have HA0:Hid (Bk W0 qb 31 #[.int .i64 al,.int .i64 ah]):=Lib.hid (by rw [← hW0,← hqb];exact ((Bk.new _ _ _).alloc _).alloc _)
 have HB0:Hid (Bk W0 (qb+1) 31 #[.int .i64 bl,.int .i64 bh]):=Lib.hid (by rw [← hW0,← hqb];exact (Bk.newAt _ _ _ _ (by simp)).alloc _)
 have HS0:Hid (Bk W0 (qb+1+1) 31 #[.int .i64 al,.int .i64 ah,.int .i64 bl,.int .i64 bh]):=Lib.hid (by rw [← hW0,← hqb];exact Bk.newAt _ _ _ _ (by simp))
 have HL0:Hid (Below qb w W0):=Lib.hid (by rw [← hW0,← hqb];exact (((Below.refl _ w).alloc (Nat.le_refl _) _).alloc (by simp) _).alloc (by simp <;> omega) _)
 have HSP:Hid (SpansAt W0 W0.heap.size (some ⟨qb+1+1,0,none⟩) 2 (fun i=>match i with | 0=>(⟨al,ah⟩:SpanD) | _=>⟨bl,bh⟩)):=Lib.hid ⟨by omega,fun _=>⟨_,_,rfl,HS0.out.lt,fun i hi j hj=>by
  match i,j,hi,hj with
  | 0,0,_,_=>exact HS0.out.cell 0
  | 0,1,_,_=>exact HS0.out.cell 1
  | 1,0,_,_=>exact HS0.out.cell 2
  | 1,1,_,_=>exact HS0.out.cell 3⟩⟩
 have HQ:Hid (w.heap.size=qb):=Lib.hid hqb
 obtain ⟨R,hR⟩:∃ R,withinB ⟨al,ah⟩ ⟨bl,bh⟩=R:=⟨_,rfl⟩
 rw [hR]
 have HCK:=Lib.hid (checked_any W0 (some ⟨qb+1+1,0,none⟩) 2 2 _ HSP.out (by omega))
 obtain ⟨⟨a1,a2⟩,a3,a4⟩:=ha
 obtain ⟨⟨b1,b2⟩,b3,b4⟩:=hb
 dsimp only at a1 a2 a3 a4 b1 b2 b3 b4
 rw [HCH.out] at HCK
 clear HCH HSP a1 a2 a3 a4 b1 b2 b3 b4
 cases hc:(chkB ⟨al,ah⟩ && chkB ⟨bl,bh⟩) with
 | false =>
  have HV:Hid (R=false):=Lib.hid (by rw [← hR];unfold withinB;rw [hc];rfl)
  rw [hc] at HCK
  clear hc hR
  go_enter Tryz.func115,Tryz.ntmps115
  go_wp2_with fail
  clear hW0 hqb
  refine HCK.out.mono ?_
  rintro e wk ⟨rfl,hwk⟩
  have HBW:Hid (Below qb w wk):=Lib.hid (HL0.out.trans (hwk.mono (Nat.le_of_lt HA0.out.lt)))
  have c0:wk.cell? ⟨qb,0,none⟩=some (.int .i64 al):=(HA0.out.below hwk HA0.out.lt).cell 0
  have c1:wk.cell? ⟨qb,1,none⟩=some (.int .i64 ah):=(HA0.out.below hwk HA0.out.lt).cell 1
  have d0:wk.cell? ⟨qb+1,0,none⟩=some (.int .i64 bl):=(HB0.out.below hwk HB0.out.lt).cell 0
  have d1:wk.cell? ⟨qb+1,1,none⟩=some (.int .i64 bh):=(HB0.out.below hwk HB0.out.lt).cell 1
  clear hwk
  go_wp2_with fail
  go_ret
  exact ⟨ret_bool HV.out.symm,by rw [HQ.out];exact HBW.out⟩
 | true =>
  rw [hc] at HCK
  by_cases g:bl≤al
  ·have g1:decide (bl≤al)=true:=decide_eq_true g
   by_cases k:ah≤bh
   ·have g2:decide (ah≤bh)=true:=decide_eq_true k
    have HV:Hid (R=true):=Lib.hid (by rw [← hR];unfold withinB;rw [hc,g1,g2];rfl)
    clear hc hR g k
    go_enter Tryz.func115,Tryz.ntmps115
    go_wp2_with fail
    clear hW0 hqb
    refine HCK.out.mono ?_
    rintro e wk ⟨rfl,hwk⟩
    have HBW:Hid (Below qb w wk):=Lib.hid (HL0.out.trans (hwk.mono (Nat.le_of_lt HA0.out.lt)))
    have c0:wk.cell? ⟨qb,0,none⟩=some (.int .i64 al):=(HA0.out.below hwk HA0.out.lt).cell 0
    have c1:wk.cell? ⟨qb,1,none⟩=some (.int .i64 ah):=(HA0.out.below hwk HA0.out.lt).cell 1
    have d0:wk.cell? ⟨qb+1,0,none⟩=some (.int .i64 bl):=(HB0.out.below hwk HB0.out.lt).cell 0
    have d1:wk.cell? ⟨qb+1,1,none⟩=some (.int .i64 bh):=(HB0.out.below hwk HB0.out.lt).cell 1
    clear hwk
    go_wp2_with fail
    go_ret
    exact ⟨ret_bool HV.out.symm,by rw [HQ.out];exact HBW.out⟩
   ·have g2:decide (ah≤bh)=false:=decide_eq_false k
    have HV:Hid (R=false):=Lib.hid (by rw [← hR];unfold withinB;rw [hc,g1,g2];rfl)
    clear hc hR g k
    go_enter Tryz.func115,Tryz.ntmps115
    go_wp2_with fail
    clear hW0 hqb
    refine HCK.out.mono ?_
    rintro e wk ⟨rfl,hwk⟩
    have HBW:Hid (Below qb w wk):=Lib.hid (HL0.out.trans (hwk.mono (Nat.le_of_lt HA0.out.lt)))
    have c0:wk.cell? ⟨qb,0,none⟩=some (.int .i64 al):=(HA0.out.below hwk HA0.out.lt).cell 0
    have c1:wk.cell? ⟨qb,1,none⟩=some (.int .i64 ah):=(HA0.out.below hwk HA0.out.lt).cell 1
    have d0:wk.cell? ⟨qb+1,0,none⟩=some (.int .i64 bl):=(HB0.out.below hwk HB0.out.lt).cell 0
    have d1:wk.cell? ⟨qb+1,1,none⟩=some (.int .i64 bh):=(HB0.out.below hwk HB0.out.lt).cell 1
    clear hwk
    go_wp2_with fail
    go_ret
    exact ⟨ret_bool HV.out.symm,by rw [HQ.out];exact HBW.out⟩
  ·have g1:decide (bl≤al)=false:=decide_eq_false g
   have HV:Hid (R=false):=Lib.hid (by rw [← hR];unfold withinB;rw [hc,g1];rfl)
   clear hc hR g
   go_enter Tryz.func115,Tryz.ntmps115
   go_wp2_with fail
   clear hW0 hqb
   refine HCK.out.mono ?_
   rintro e wk ⟨rfl,hwk⟩
   have HBW:Hid (Below qb w wk):=Lib.hid (HL0.out.trans (hwk.mono (Nat.le_of_lt HA0.out.lt)))
   have c0:wk.cell? ⟨qb,0,none⟩=some (.int .i64 al):=(HA0.out.below hwk HA0.out.lt).cell 0
   have c1:wk.cell? ⟨qb,1,none⟩=some (.int .i64 ah):=(HA0.out.below hwk HA0.out.lt).cell 1
   have d0:wk.cell? ⟨qb+1,0,none⟩=some (.int .i64 bl):=(HB0.out.below hwk HB0.out.lt).cell 0
   have d1:wk.cell? ⟨qb+1,1,none⟩=some (.int .i64 bh):=(HB0.out.below hwk HB0.out.lt).cell 1
   clear hwk
   go_wp2_with fail
   go_ret
   exact ⟨ret_bool HV.out.symm,by rw [HQ.out];exact HBW.out⟩
end Go.Proofs.YtmkoegljnebdiaaGreat
