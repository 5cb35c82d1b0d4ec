/- What is proved: the texts Oh Oi, one behind the other; each says at its head what it proves, and under which conditions. -/
import Derived.Test.YtmkoegljnebdiaaGreatdPAborts18
namespace Go.Proofs.YtmkoegljnebdiaaGreat
open Go.RowKit
set_option maxRecDepth 100000
set_option maxHeartbeats 16000000

def dropC':Nat→Code→Code
 | 0,c=>c
 | n+1,.seq _ b=>dropC' n b
 | _,c=>c
def restC' (n:Nat):Option Code→Code
 | some c=>dropC' n c
 | none=>.skip
structure LoopAt (w:World) (gt gs gp n nm:Nat) (mA:Option Addr) (ct cs:Array Value) (tb:Nat→TubeD) (z:Nat→StateD) (f:Nat→Int) (md:Nat→ModeD):Prop where
 tb:TbAt w gt n ct tb
 st:Bk w gs 38 cs
 seg:∀ k,k<n→(cs.toList.drop (k * 15)).take 15=(stA (z k)).toList
 pl:IntAt w gp n f
 md:ModesAt w mA nm md
theorem LoopAt.to {w w':World} {gt gs gp n nm:Nat} {mA:Option Addr} {ct cs:Array Value} {tb:Nat→TubeD} {z:Nat→StateD} {f:Nat→Int} {md:Nat→ModeD} (h:LoopAt w gt gs gp n nm mA ct cs tb z f md) (hb:Below w.heap.size w w'):LoopAt w' gt gs gp n nm mA ct cs tb z f md :=
 ⟨h.tb.to hb,h.st.below hb h.st.lt,h.seg,h.pl.to hb,h.md.to hb⟩
structure LoopF (p:PlanetD) (s:StateD) (n nm:Nat) (tb:Nat→TubeD) (y z:Nat→StateD) (f:Nat→Int) (md:Nat→ModeD) (F:Int) (M:Nat→Nat):Prop where
 wp:WdP p
 wm:∀ i,WdM (md i)
 pb:planetB p=true
 mo:∀ i,i<nm→ModeOk (md i)
 ft:FlownTo tb n
 fk:∀ k,k<n→FlK p (y k) (z k) (tb k)
 y0:y 0=s
 ys:∀ k,k+1<n→y (k+1)=z k
 mi:MaskI p md tb F n nm M
 pf:∀ k,k<n→f k ∈ chs (M k)
 n4:n≤4096
 nm3:nm≤3
theorem LoopF.mode {p:PlanetD} {s:StateD} {n nm:Nat} {tb:Nat→TubeD} {y z:Nat→StateD} {f:Nat→Int} {md:Nat→ModeD} {F:Int} {M:Nat→Nat} (h:LoopF p s n nm tb y z f md F M) {k:Nat} (hk:k<n) (hf:0≤f k) :
  ∃ mi:Nat,f k=(mi:Int)∧mi<nm∧bits .andNot .i64 F (md mi).failures=0∧Sure p (md mi) (stOf (tb k)):=by
 have h1:=(chs_neg (h.pf k hk)).2 hf;obtain ⟨h2,h3⟩:=h.mi k hk;refine ⟨(f k).toNat,by omega,?_,h3 _ h1⟩
 rcases Nat.lt_or_ge (f k).toNat nm with q | q
 ·exact q
 ·have h4:(M k).testBit (f k).toNat=false:=Nat.testBit_lt_two_pow (Nat.lt_of_lt_of_le h2 (Nat.pow_le_pow_right (by omega) q))
  rw [h4] at h1;cases h1
theorem none_le (f:Nat→Int):∀ n,noneB f n≤n
 | 0=>Nat.le_refl _
 | n+1=>by
  have:=none_le f n
  unfold noneB;split <;> omega
theorem LoopF.esc {p:PlanetD} {s:StateD} {n nm:Nat} {tb:Nat→TubeD} {y z:Nat→StateD} {f:Nat→Int} {md:Nat→ModeD} {F:Int} {M:Nat→Nat} (h:LoopF p s n nm tb y z f md F M) {w:World} {gt gs gp:Nat} {mA:Option Addr} {ct cs:Array Value} (hw:LoopAt w gt gs gp n nm mA ct cs tb z f md)
  {k mi:Nat} (hk:k<n) (hm:mi<nm) (hs:Sure p (md mi) (stOf (tb k))):Calls Tryz.prog 18 #[planetV p,modeV (md mi),tubeV (stopT (y k) (tb k).m)] w fun e w'=>(∃ v:Int,e=.returned (.tuple #[.int .i64 v,.int .i64 0])∧0≤v)∧Below w.heap.size w w':=by
 have hf:=h.fk k hk;refine (escape18_any p (md mi) (stopT (y k) (tb k).m) h.wp (h.wm mi) (wd_stopT hf.wd hf.wt) h.pb (h.mo mi hm) (hf.ok (h.ft k hk).1) w (hw.md.arcs mi hm)).mono fun e w' hq=>?_
 obtain ⟨v,h1,h2,h3⟩:=hq;refine ⟨⟨v,h1,?_⟩,h3⟩
 rcases Int.lt_or_le v 0 with q | q
 ·exact (hf.law (md mi) (h.mo mi hm) (h.wm mi) hs (h2 q)).elim
 ·exact q
theorem aborts_loop {PQ:Ending→World→Prop} {w W:World} {mA A9:Option Addr} {nm mc n9 c9 n sc tc pc gt gs gp qb:Nat} {gq:Option Addr} {gc:Nat} {ct cs:Array Value} {tb:Nat→TubeD} {y z:Nat→StateD} {f:Nat→Int} {md:Nat→ModeD} {M:Nat→Nat} {F:Int} {mul muh rl rh ol oh sl sh pxl pxh pyl pyh pzl pzh st saxl saxh sayl sayh sazl sazh sbxl sbxh sbyl sbyh sbzl sbzh sml smh:Int} {s0 s4 s5 s6 s7 s10 s11 s12 s14 s15 s17 s18 s19 s20 s21 s22 s23 s24 s25 s26 s27 s28 s29 s30 s31 s32 s33 s34 s35 s36 s37 s38 s39 s40 s41 s42 s43 s44 s45 s46 s47 s48 s49 s50 s51 s52 s53 s54 s55 s56 s57 s58 s59 s60 s61 s62 s63 s64 s65 s66 s67 s68 s69 s70 s71 s72 s73 s74 s75 s76 s77 s78 s79 s80 s81 s82 s83 s84 s85 s86 s87 s88 s89 s90 s91 s92 s93 s94 s95 s96 s97 s98 s99 s100 s101 s102 s103 s104 s105 s106 s107 s108 s109 s110 s111 s112 s113 s114 s115 s116 s117 s118 s119 s120 s121 s122 s123 s124 s125 s126 s127 s128 s129 s130 s131 s132 s133 s134 s135 s136 s137 s138 s139 s140 s141 s142 s143 s144 s145 s146 s147 s148 s149 s150 s151 s152 s153 s154 s155 s156 s157 s158 s159 s160 s161 s162 s163 s164 s165 s166 s167 s168 s169 s170 s171 s172 s173 s174 s175 s176 s177 s178 s179 s180 s181 s182 s183 s184 s185 s186 s187 s188 s189 s190 s191 s192 s193 s194 s195 s196 s197 s198 s199 s200 s201 s202 s203 s204 s205 s206 s207 s208 s209 s210:Value}
  (HL:LoopF ⟨⟨mul,muh⟩,⟨rl,rh⟩,⟨ol,oh⟩,⟨sl,sh⟩,⟨⟨pxl,pxh⟩,⟨pyl,pyh⟩,⟨pzl,pzh⟩⟩⟩ ⟨st,⟨⟨saxl,saxh⟩,⟨sayl,sayh⟩,⟨sazl,sazh⟩⟩,⟨⟨sbxl,sbxh⟩,⟨sbyl,sbyh⟩,⟨sbzl,sbzh⟩⟩,⟨sml,smh⟩⟩ n nm tb y z f md F M)
  (HFIN:Hid (∀ w',Fr w [] [] w'→PQ (.returned (.bool true)) w')) (HF0:Hid (Fr w [] [(qb,72,#[.int .i64 mul,.int .i64 muh,.int .i64 rl,.int .i64 rh,.int .i64 ol,.int .i64 oh,.int .i64 sl,.int .i64 sh,.int .i64 pxl,.int .i64 pxh,.int .i64 pyl,.int .i64 pyh,.int .i64 pzl,.int .i64 pzh,.slice A9 n9 c9,.int .i64 st,.int .i64 saxl,.int .i64 saxh,.int .i64 sayl,.int .i64 sayh,.int .i64 sazl,.int .i64 sazh,.int .i64 sbxl,.int .i64 sbxh,.int .i64 sbyl,.int .i64 sbyh,.int .i64 sbzl,.int .i64 sbzh,.int .i64 sml,.int .i64 smh])] W)) (HAT:LoopAt W gt gs gp n nm mA ct cs tb z f md) :
  Code.wp Tryz.prog (restC' 12 (Tryz.f4).body) (bodyPost Tryz.prog Tryz.f4 PQ) ⟨#[s0,.slice mA nm mc,.int .i64 F,.pointer (some ⟨qb,0,none⟩),s4,s5,s6,s7,.slice (some ⟨gs,0,none⟩) n sc,.slice (some ⟨gt,0,none⟩) n tc,s10,s11,s12,.slice (some ⟨gp,0,none⟩) n pc,s14,s15,.slice gq (noneB f n) gc,s17,s18,s19,s20,s21,s22,s23,s24,s25,s26,s27,s28,s29,s30,s31,s32,s33,s34,s35,s36,s37,s38,s39,s40,s41,s42,s43,s44,s45,s46,s47,s48,s49,s50,s51,s52,s53,s54,s55,s56,s57,s58,s59,s60,s61,s62,s63,s64,s65,s66,s67,s68,s69,s70,s71,s72,s73,s74,s75,s76,s77,s78,s79,s80,s81,s82,s83,s84,s85,s86,s87,s88,s89,s90,s91,s92,s93,s94,s95,s96,s97,s98,s99,s100,s101,s102,s103,s104,s105,s106,s107,s108,s109,s110,s111,s112,s113,s114,s115,s116,s117,s118,s119,s120,s121,s122,s123,s124,s125,s126,s127,s128,s129,s130,s131,s132,s133,s134,s135,s136,s137,s138,s139,s140,s141,s142,s143,s144,s145,s146,s147,s148,s149,s150,s151,s152,s153,s154,s155,s156,s157,s158,s159,s160,s161,s162,s163,s164,s165,s166,s167,s168,s169,s170,s171,s172,s173,s174,s175,s176,s177,s178,s179,s180,s181,s182,s183,s184,s185,s186,s187,s188,s189,s190,s191,s192,s193,s194,s195,s196,s197,s198,s199,s200,s201,s202,s203,s204,s205,s206,s207,s208,s209,s210],[]⟩ W:=by
 have HAW:=hZ (fun w=>awake_any w);have HLL:=hZ HL;have HAT0:=hZ HAT;have hn4:=HL.n4;have hnm:=HL.nm3;have hnone:noneB f n≤n:=none_le f n;have HN4:=hZ hn4;clear HL HAT;conv=>arg 2;whnf
 go_wp2_with fail
 go_loopw [20,141] (fun nv kv wr=>∃ ki:Nat,ki≤n∧nv=.int .i64 (noneB f ki:Nat)∧kv=.int .i64 (ki:Int)∧Hid (Fr w [] [(qb,72,#[.int .i64 mul,.int .i64 muh,.int .i64 rl,.int .i64 rh,.int .i64 ol,.int .i64 oh,.int .i64 sl,.int .i64 sh,.int .i64 pxl,.int .i64 pxh,.int .i64 pyl,.int .i64 pyh,.int .i64 pzl,.int .i64 pzh,.slice A9 n9 c9,.int .i64 st,.int .i64 saxl,.int .i64 saxh,.int .i64 sayl,.int .i64 sayh,.int .i64 sazl,.int .i64 sazh,.int .i64 sbxl,.int .i64 sbxh,.int .i64 sbyl,.int .i64 sbyh,.int .i64 sbzl,.int .i64 sbzh,.int .i64 sml,.int .i64 smh])] wr∧LoopAt wr gt gs gp n nm mA ct cs tb z f md)) (fun _ kv _=>n - (intOf kv).toNat)
 case atStart=>exact ⟨0,Nat.zero_le _,rfl,rfl,hZ ⟨HF0.out,HAT0.out⟩⟩
 case round =>
  obtain ⟨wo,rfl⟩:∃ wo:World,wo=wr:=⟨_,rfl⟩;obtain ⟨ki,hk,rfl,rfl,hs⟩:=hrel;have h0k:(0:Int)≤(ki:Int):=by omega
  by_cases hlt:ki<n
  rotate_left
  ·obtain rfl:ki=n:=by omega
   go_wp2_with fail
   refine (HAW.out _).mono ?_
   rintro e w5 ⟨rfl,hw⟩;have HF9:=hZ (hs.out.1.drop.below hw);clear hw hs;go_wp2_with fail
   exact HFIN.out _ HF9.out
  have HFO:=hZ hs.out.1;have HLA:=hZ hs.out.2;clear hs;have hki:(ki:Int)<(n:Int):=by omega
  have hnk:noneB f ki≤ki:=none_le f ki;have HPC:Hid (wo.cell? ⟨gp,ki,none⟩=some (.int .i64 (f ki))):=hZ (HLA.out.pl.cell ki hlt);have HNE:=hZ (show noneB f (ki+1)=if f ki<0 then noneB f ki+1 else noneB f ki from rfl)
  by_cases hneg:f ki<0
  ·have HSTEP:Hid (noneB f (ki+1)=noneB f ki+1):=hZ (by rw [HNE.out,if_pos hneg])
   obtain ⟨fk,hfk⟩:=eX (f ki);rw [hfk] at HPC hneg;have cpl:=HPC.out;clear hfk HNE;go_wp2_with fail
   go_roundw
   case rel=>exact ⟨ki+1,by omega,by rw [HSTEP.out];go_num,by go_num,hZ ⟨HFO.out,HLA.out⟩⟩
   case measure=>simp [intOf];omega
  have HSTEP:Hid (noneB f (ki+1)=noneB f ki):=hZ (by rw [HNE.out,if_neg hneg])
  obtain ⟨mi,hfm,hmi,hand,hsure⟩:=HLL.out.mode hlt (by omega)
  have HES:=hZ fun w' (hb:Below wo.heap.size wo w')=>HLL.out.esc (HLA.out.to hb) hlt hmi hsure;have HMI:=hZ hmi;obtain ⟨bm,moff,rfl,hbm,_,hmc⟩:=HLA.out.md.el.2 (by omega)
  have HBM:=hZ hbm;have HMC:=hZ (hmc mi hmi);have hfl:wo.cell? ⟨bm,moff+mi * 14+8,none⟩=some (.int .i64 (md mi).failures):=HMC.out 8 _ rfl;obtain ⟨fl,hfl0⟩:=eX ((md mi).failures);rw [hfl0] at hfl hand;rw [hfm] at HPC;have cpl:=HPC.out;have hmi2:(mi:Int)<(nm:Int):=by omega
  have h0m:(0:Int)≤(mi:Int):=by omega
  have HTM:Hid (∀ w',Below wo.heap.size wo w'→∀ j u,(#[Value.int .i64 (tb ki).m.lo,.int .i64 (tb ki).m.hi])[j]?=some u→w'.cell? ⟨gt,ki * 16+14+j,none⟩=some u):=hZ fun w' hb j u hj=>by
   have hj2:j<2:=(Array.getElem?_eq_some_iff.1 hj).1;have h1:=(HLA.out.tb.to hb).cell hlt (14+j) (by omega)
   rw [show ki * 16+14+j=ki * 16+(14+j) by omega,h1]
   match j,hj2 with
   | 0,_=>exact hj
   | 1,_=>exact hj
  obtain ⟨⟨tml,tmh⟩,htm⟩:=eX ((tb ki).m);rw [htm] at HTM HES;have HQB:Hid (Bk wo qb 72 #[.int .i64 mul,.int .i64 muh,.int .i64 rl,.int .i64 rh,.int .i64 ol,.int .i64 oh,.int .i64 sl,.int .i64 sh,.int .i64 pxl,.int .i64 pxh,.int .i64 pyl,.int .i64 pyh,.int .i64 pzl,.int .i64 pzh,.slice A9 n9 c9,.int .i64 st,.int .i64 saxl,.int .i64 saxh,.int .i64 sayl,.int .i64 sayh,.int .i64 sazl,.int .i64 sazh,.int .i64 sbxl,.int .i64 sbxh,.int .i64 sbyl,.int .i64 sbyh,.int .i64 sbzl,.int .i64 sbzh,.int .i64 sml,.int .i64 smh]):=hZ (HFO.out.get 0 rfl);have HF1:Hid (Fr wo [] [] wo):=hZ (Fr.start wo);clear hmc hfl0 hsure hfm HPC hneg HNE htm hbm hmi;by_cases hk0:ki=0
  ·have hk1:¬ (0:Int)<(ki:Int):=by omega
   replace HES:Hid _:=hZ (by have h:=HES.out;rw [hk0,HLL.out.y0] at h;exact h)
   unfold stopT tubeV planetV modeV at HES;dsimp only at HES;clear hk0;obtain ⟨g21,w21,hg21,hw21,HF22⟩:=fA HF1.out #[(0:Int),(0:Int),(0:Int),(0:Int),(0:Int),(0:Int),(0:Int),(0:Int),(0:Int),(0:Int),(0:Int),(0:Int),(0:Int),(0:Int),(0:Int)] 38;go_upto_region 28 with (first
     | (refine lF (HQB.out.below HF1.out.toBelow HQB.out.lt) #[st,saxl,saxh,sayl,sayh,sazl,sazh,sbxl,sbxh,sbyl,sbyh,sbzl,sbzh,sml,smh] u_38 i_38 ?_)
     | (refine sW 0 HF22.out i_38 fun w23 HF24=>?_;clear hw21 hg21))
   refine wr0 (fun ix u _=>match ix with
       | 0=>u=.pointer (some ⟨qb,0,none⟩)
       | 1=>u=.agg #[mul,muh,rl,rh,ol,oh,sl,sh,pxl,pxh,pyl,pyh,pzl,pzh]
       | 2=>u=.slice (some ⟨bm,moff,none⟩) nm mc
       | 3=>u=.int .i64 (mi:Int)
       | 4=>u=.pointer (some ⟨bm,moff+mi * 14,none⟩)
       | 5=>u=.agg (modeA (md mi))
       | 6=>u=.pointer (some ⟨g21,0,none⟩)
       | 7=>u=.int .i64 st
       | 8=>u=.pointer (some ⟨g21,0,none⟩)
       | 9=>u=.int .i64 st
       | 10=>u=.pointer (some ⟨g21,1,none⟩)
       | 11=>u=.agg #[saxl,saxh,sayl,sayh,sazl,sazh]
       | 12=>u=.pointer (some ⟨g21,7,none⟩)
       | 13=>u=.agg #[sbxl,sbxh,sbyl,sbyh,sbzl,sbzh]
       | 14=>u=.slice (some ⟨gt,0,none⟩) n tc
       | 15=>u=.int .i64 (ki:Int)
       | 16=>u=.pointer (some ⟨gt,ki * 16,none⟩)
       | 17=>u=.pointer (some ⟨gt,ki * 16+14,none⟩)
       | 18=>u=.agg #[tml,tmh]
       | 19=>u=.agg #[st,st,saxl,saxh,sayl,sayh,sazl,sazh,sbxl,sbxh,sbyl,sbyh,sbzl,sbzh,tml,tmh]
       | 20=>∃ v:Int,u=.tuple #[.int .i64 v,.int .i64 0]∧0≤v
       | 21=>∃ v:Int,u=.tuple #[.int .i64 v,.int .i64 0]∧0≤v
       | 22=>∃ v:Int,u=.int .i64 v∧0≤v
       | 23=>u=.int .i64 0
       | 24=>∃ v:Int,u=.int .i64 v∧0≤v
       | 25=>u=.int .i64 0
       | _=>True) HF24.out ?_ ?_
   ·refine ⟨?_,?_,?_,?_,?_,?_,?_,?_,?_,?_,?_,?_,?_,?_,?_,?_,?_,?_,?_,?_,?_,?_,?_,?_,?_,?_,trivial⟩
    all_goals intro a w1 vs dn k K S hpre KE DE kk
    ·have e3:=KE 3;go_simp;exact kk _ _
    ·exact oL (eT (dep (DE 0 174))) (HQB.out.below S.fr.toBelow HQB.out.lt) u_36 (kk _ _) i_36
    ·have e1:=KE 1;go_simp;exact kk _ _
    ·have e22:=KE 22;go_simp;exact kk _ _
    ·have e176:=dep (DE 2 176);have e177:=dep (DE 3 177);go_simp;exact kk _ _
    ·have e178:=dep (DE 4 178);exact wpo_loadS 89 (.tmp 178) rfl bm (moff+mi * 14) (by simpa [Act.eval] using e178) (modeA (md mi)) _ (fun j u hj=>(S.fr.toBelow.cell (p:=⟨bm,moff+mi * 14+j,none⟩) HBM.out).trans (HMC.out j u hj)) u_89 rfl i_89 (kk _ _)
    ·have e23:=KE 23;go_simp;exact kk _ _
    ·have e180:=dep (DE 6 180);have ca:w1.cell? ⟨g21,0,none⟩=some (.int .i64 st):=(S.fr.left.get 0 rfl).cell 0;go_simp;exact kk _ _
    ·have e23:=KE 23;go_simp;exact kk _ _
    ·have e182:=dep (DE 8 182);have ca:w1.cell? ⟨g21,0,none⟩=some (.int .i64 st):=(S.fr.left.get 0 rfl).cell 0;go_simp;exact kk _ _
    ·have e23:=KE 23;go_simp;exact kk _ _
    ·exact oL (eT (dep (DE 10 184))) (S.fr.left.get 0 rfl) u_34 (kk _ _) i_34
    ·have e23:=KE 23;go_simp;exact kk _ _
    ·exact oL (eT (dep (DE 12 186))) (S.fr.left.get 0 rfl) u_34 (kk _ _) i_34
    ·have e9:=KE 9;go_simp;exact kk _ _
    ·have e21:=KE 21;go_simp;exact kk _ _
    ·have e188:=dep (DE 14 188);have e189:=dep (DE 15 189);go_simp;exact kk _ _
    ·have e190:=dep (DE 16 190);go_simp;exact kk _ _
    ·have e191:=dep (DE 17 191);exact wpo_loadS 31 (.tmp 191) rfl gt (ki * 16+14) (by simpa [Act.eval] using e191) #[tml,tmh] _ (HTM.out _ S.fr.toBelow) u_span rfl i_span (kk _ _)
    ·have e181:=dep (DE 7 181);have e183:=dep (DE 9 183);have e185:=dep (DE 11 185);have e187:=dep (DE 13 187);have e192:=dep (DE 18 192);go_simp;exact kk _ _
    ·have e175:=dep (DE 1 175);have e179:=dep (DE 5 179);have e193:=dep (DE 19 193);have e175:=dep (DE 1 175);have e179:=dep (DE 5 179);have e193:=dep (DE 19 193);exact oC rfl ((HES.out _ S.fr.toBelow).mono fun e w' ⟨⟨v,he,hv⟩,hb⟩=>⟨_,he,kk _ _ (by simp) hb ⟨v,rfl,hv⟩⟩) (by simp [Act.eval,e175,e179,e193])
    ·obtain ⟨e194,v,hv,hv0⟩:=DE 20 194;rw [hv] at e194;go_simp;exact kk _ _ (by simp) bR ⟨v,rfl,hv0⟩
    ·obtain ⟨e173,v,hv,hv0⟩:=DE 21 173;rw [hv] at e173;go_simp;exact kk _ _ (by simp) bR ⟨v,rfl,hv0⟩
    ·obtain ⟨e173,v,hv,hv0⟩:=DE 21 173;rw [hv] at e173;go_simp;exact kk _ _
    ·obtain ⟨e195,v,hv,hv0⟩:=DE 22 195;rw [hv] at e195;go_simp;exact kk _ _ (by simp) bR ⟨v,rfl,hv0⟩
    ·have e196:=dep (DE 23 196);go_simp;exact kk _ _
   ·intro vs wf HFr HR;have HFr':=HFr;have v25:vs 25=.int .i64 0:=HR 25 _ rfl;obtain ⟨ev,v24,hev⟩:=HR 24 _ rfl;clear HFr HR;have HF25:=hZ HFr';clear HFr';simp only [putAll,Act.put,List.setIfInBounds_toArray,List.set_cons_zero,List.set_cons_succ];simp only [v25,v24];clear v25 v24;obtain ⟨w25,rfl⟩:∃ u:World,u=wf:=⟨_,rfl⟩;have hev2:¬ ev<0:=by omega
    go_wp2_with fail
    go_roundw
    case rel=>exact ⟨ki+1,by omega,by rw [HSTEP.out],by go_num,hZ ⟨HFO.out.below HF25.out.toBelow,HLA.out.to HF25.out.toBelow⟩⟩
    case measure=>simp [intOf];omega
  ·obtain ⟨j,hj⟩:∃ j,ki=j+1:=⟨ki - 1,by omega⟩
   have hk1:(0:Int)<(ki:Int):=by omega
   have hjn:(j:Int)<(n:Int):=by omega
   have h0j:(0:Int)≤(j:Int):=by omega
   have w1:IntKind.i64.wrap ((ki:Int) - 1)=(j:Int):=by rw [show (ki:Int) - 1=(j:Int) by omega];exact IntWalk.i64_in _ (by omega)
   have w2:wrap64 ((ki:Int) - 1)=(j:Int):=by rw [show (ki:Int) - 1=(j:Int) by omega];exact w64_in (by omega) (by omega)
   have hyz:y ki=z j:=by rw [hj];exact HLL.out.ys j (by omega)
   have HSG:=hZ (HLA.out.seg j (by omega))
   rw [hyz] at HES;obtain ⟨zj,hzj⟩:=eX (z j);rw [hzj] at HES HSG;obtain ⟨zt,⟨⟨zaxl,zaxh⟩,⟨zayl,zayh⟩,⟨zazl,zazh⟩⟩,⟨⟨zbxl,zbxh⟩,⟨zbyl,zbyh⟩,⟨zbzl,zbzh⟩⟩,⟨zml,zmh⟩⟩:=zj;unfold stopT tubeV planetV modeV at HES;unfold stA stateV at HSG;dsimp only [Value.cells] at HES HSG;clear hyz hzj hj hk0;obtain ⟨g21,w21,hg21,hw21,HF22⟩:=fA HF1.out #[(0:Int),(0:Int),(0:Int),(0:Int),(0:Int),(0:Int),(0:Int),(0:Int),(0:Int),(0:Int),(0:Int),(0:Int),(0:Int),(0:Int),(0:Int)] 38;go_upto_region 28 with (first
     | (refine lF (HQB.out.below HF1.out.toBelow HQB.out.lt) #[st,saxl,saxh,sayl,sayh,sazl,sazh,sbxl,sbxh,sbyl,sbyh,sbzl,sbzh,sml,smh] u_38 i_38 ?_)
     | (refine wpLoadF rfl 38 _ rfl gs (j * 15) rfl _ _ (HLA.out.st.below HF24.out.toBelow HLA.out.st.lt) #[zt,zaxl,zaxh,zayl,zayh,zazl,zazh,zbxl,zbxh,zbyl,zbyh,zbzl,zbzh,zml,zmh] (HSG.out) _ u_38 rfl i_38 ?_)
     | (refine sW 0 HF22.out i_38 fun w23 HF24=>?_;clear hw21 hg21)
     | (refine sW 0 HF24.out i_38 fun w25 HF26=>?_))
   refine wr0 (fun ix u _=>match ix with
       | 0=>u=.pointer (some ⟨qb,0,none⟩)
       | 1=>u=.agg #[mul,muh,rl,rh,ol,oh,sl,sh,pxl,pxh,pyl,pyh,pzl,pzh]
       | 2=>u=.slice (some ⟨bm,moff,none⟩) nm mc
       | 3=>u=.int .i64 (mi:Int)
       | 4=>u=.pointer (some ⟨bm,moff+mi * 14,none⟩)
       | 5=>u=.agg (modeA (md mi))
       | 6=>u=.pointer (some ⟨g21,0,none⟩)
       | 7=>u=.int .i64 zt
       | 8=>u=.pointer (some ⟨g21,0,none⟩)
       | 9=>u=.int .i64 zt
       | 10=>u=.pointer (some ⟨g21,1,none⟩)
       | 11=>u=.agg #[zaxl,zaxh,zayl,zayh,zazl,zazh]
       | 12=>u=.pointer (some ⟨g21,7,none⟩)
       | 13=>u=.agg #[zbxl,zbxh,zbyl,zbyh,zbzl,zbzh]
       | 14=>u=.slice (some ⟨gt,0,none⟩) n tc
       | 15=>u=.int .i64 (ki:Int)
       | 16=>u=.pointer (some ⟨gt,ki * 16,none⟩)
       | 17=>u=.pointer (some ⟨gt,ki * 16+14,none⟩)
       | 18=>u=.agg #[tml,tmh]
       | 19=>u=.agg #[zt,zt,zaxl,zaxh,zayl,zayh,zazl,zazh,zbxl,zbxh,zbyl,zbyh,zbzl,zbzh,tml,tmh]
       | 20=>∃ v:Int,u=.tuple #[.int .i64 v,.int .i64 0]∧0≤v
       | 21=>∃ v:Int,u=.tuple #[.int .i64 v,.int .i64 0]∧0≤v
       | 22=>∃ v:Int,u=.int .i64 v∧0≤v
       | 23=>u=.int .i64 0
       | 24=>∃ v:Int,u=.int .i64 v∧0≤v
       | 25=>u=.int .i64 0
       | _=>True) HF26.out ?_ ?_
   ·refine ⟨?_,?_,?_,?_,?_,?_,?_,?_,?_,?_,?_,?_,?_,?_,?_,?_,?_,?_,?_,?_,?_,?_,?_,?_,?_,?_,trivial⟩
    all_goals intro a w1 vs dn k K S hpre KE DE kk
    ·have e3:=KE 3;go_simp;exact kk _ _
    ·exact oL (eT (dep (DE 0 174))) (HQB.out.below S.fr.toBelow HQB.out.lt) u_36 (kk _ _) i_36
    ·have e1:=KE 1;go_simp;exact kk _ _
    ·have e22:=KE 22;go_simp;exact kk _ _
    ·have e176:=dep (DE 2 176);have e177:=dep (DE 3 177);go_simp;exact kk _ _
    ·have e178:=dep (DE 4 178);exact wpo_loadS 89 (.tmp 178) rfl bm (moff+mi * 14) (by simpa [Act.eval] using e178) (modeA (md mi)) _ (fun j u hj=>(S.fr.toBelow.cell (p:=⟨bm,moff+mi * 14+j,none⟩) HBM.out).trans (HMC.out j u hj)) u_89 rfl i_89 (kk _ _)
    ·have e23:=KE 23;go_simp;exact kk _ _
    ·have e180:=dep (DE 6 180);have ca:w1.cell? ⟨g21,0,none⟩=some (.int .i64 zt):=(S.fr.left.get 0 rfl).cell 0;go_simp;exact kk _ _
    ·have e23:=KE 23;go_simp;exact kk _ _
    ·have e182:=dep (DE 8 182);have ca:w1.cell? ⟨g21,0,none⟩=some (.int .i64 zt):=(S.fr.left.get 0 rfl).cell 0;go_simp;exact kk _ _
    ·have e23:=KE 23;go_simp;exact kk _ _
    ·exact oL (eT (dep (DE 10 184))) (S.fr.left.get 0 rfl) u_34 (kk _ _) i_34
    ·have e23:=KE 23;go_simp;exact kk _ _
    ·exact oL (eT (dep (DE 12 186))) (S.fr.left.get 0 rfl) u_34 (kk _ _) i_34
    ·have e9:=KE 9;go_simp;exact kk _ _
    ·have e21:=KE 21;go_simp;exact kk _ _
    ·have e188:=dep (DE 14 188);have e189:=dep (DE 15 189);go_simp;exact kk _ _
    ·have e190:=dep (DE 16 190);go_simp;exact kk _ _
    ·have e191:=dep (DE 17 191);exact wpo_loadS 31 (.tmp 191) rfl gt (ki * 16+14) (by simpa [Act.eval] using e191) #[tml,tmh] _ (HTM.out _ S.fr.toBelow) u_span rfl i_span (kk _ _)
    ·have e181:=dep (DE 7 181);have e183:=dep (DE 9 183);have e185:=dep (DE 11 185);have e187:=dep (DE 13 187);have e192:=dep (DE 18 192);go_simp;exact kk _ _
    ·have e175:=dep (DE 1 175);have e179:=dep (DE 5 179);have e193:=dep (DE 19 193);have e175:=dep (DE 1 175);have e179:=dep (DE 5 179);have e193:=dep (DE 19 193);exact oC rfl ((HES.out _ S.fr.toBelow).mono fun e w' ⟨⟨v,he,hv⟩,hb⟩=>⟨_,he,kk _ _ (by simp) hb ⟨v,rfl,hv⟩⟩) (by simp [Act.eval,e175,e179,e193])
    ·obtain ⟨e194,v,hv,hv0⟩:=DE 20 194;rw [hv] at e194;go_simp;exact kk _ _ (by simp) bR ⟨v,rfl,hv0⟩
    ·obtain ⟨e173,v,hv,hv0⟩:=DE 21 173;rw [hv] at e173;go_simp;exact kk _ _ (by simp) bR ⟨v,rfl,hv0⟩
    ·obtain ⟨e173,v,hv,hv0⟩:=DE 21 173;rw [hv] at e173;go_simp;exact kk _ _
    ·obtain ⟨e195,v,hv,hv0⟩:=DE 22 195;rw [hv] at e195;go_simp;exact kk _ _ (by simp) bR ⟨v,rfl,hv0⟩
    ·have e196:=dep (DE 23 196);go_simp;exact kk _ _
   ·intro vs wf HFr HR;have HFr':=HFr;have v25:vs 25=.int .i64 0:=HR 25 _ rfl;obtain ⟨ev,v24,hev⟩:=HR 24 _ rfl;clear HFr HR;have HF27:=hZ HFr';clear HFr';simp only [putAll,Act.put,List.setIfInBounds_toArray,List.set_cons_zero,List.set_cons_succ];simp only [v25,v24];clear v25 v24;obtain ⟨w27,rfl⟩:∃ u:World,u=wf:=⟨_,rfl⟩;have hev2:¬ ev<0:=by omega
    go_wp2_with fail
    go_roundw
    case rel=>exact ⟨ki+1,by omega,by rw [HSTEP.out],by go_num,hZ ⟨HFO.out.below HF27.out.toBelow,HLA.out.to HF27.out.toBelow⟩⟩
    case measure=>simp [intOf];omega

theorem aborts_phases {PQ:Ending→World→Prop} {w W:World} {mA A9:Option Addr} {nm mc n9 c9 n sc tc pc gt gs gp qb:Nat} {gq:Option Addr} {gc:Nat} {ct cs:Array Value} {tb:Nat→TubeD} {y z:Nat→StateD} {f:Nat→Int} {md:Nat→ModeD} {M:Nat→Nat} {F:Int} {mul muh rl rh ol oh sl sh pxl pxh pyl pyh pzl pzh st saxl saxh sayl sayh sazl sazh sbxl sbxh sbyl sbyh sbzl sbzh sml smh:Int} {s0 s4 s5 s6 s7 s10 s11 s12 s15 s17 s19 s20 s21 s22 s23 s24 s25 s26 s27 s28 s29 s30 s31 s32 s33 s34 s35 s36 s37 s38 s39 s40 s41 s42 s43 s44 s45 s46 s47 s48 s49 s50 s51 s52 s53 s54 s55 s56 s57 s58 s59 s60 s61 s62 s63 s64 s65 s66 s67 s68 s69 s70 s71 s72 s73 s74 s75 s76 s77 s78 s79 s80 s81 s82 s83 s84 s85 s86 s87 s88 s89 s90 s91 s92 s93 s94 s95 s96 s97 s98 s99 s100 s101 s102 s103 s104 s105 s106 s107 s108 s109 s110 s111 s112 s113 s114 s115 s116 s117 s118 s119 s120 s121 s122 s123 s124 s125 s126 s127 s128 s129 s130 s131 s132 s133 s134 s135 s136 s137 s138 s139 s140 s141 s142 s143 s144 s145 s146 s147 s148 s149 s150 s151 s152 s153 s154 s155 s156 s157 s158 s159 s160 s161 s162 s163 s164 s165 s166 s167 s168 s169 s170 s171 s172 s173 s174 s175 s176 s177 s178 s179 s180 s181 s182 s183 s184 s185 s186 s187 s188 s189 s190 s191 s192 s193 s194 s195 s196 s197 s198 s199 s200 s201 s202 s203 s204 s205 s206 s207 s208 s209 s210:Value}
  (HL:LoopF ⟨⟨mul,muh⟩,⟨rl,rh⟩,⟨ol,oh⟩,⟨sl,sh⟩,⟨⟨pxl,pxh⟩,⟨pyl,pyh⟩,⟨pzl,pzh⟩⟩⟩ ⟨st,⟨⟨saxl,saxh⟩,⟨sayl,sayh⟩,⟨sazl,sazh⟩⟩,⟨⟨sbxl,sbxh⟩,⟨sbyl,sbyh⟩,⟨sbzl,sbzh⟩⟩,⟨sml,smh⟩⟩ n nm tb y z f md F M) {ch gh N hc nl:Nat} {ze:Int} (hch:ch<N) (hN63:(N:Int)≤9223372036854775807) (hnl:n=nl+1) (hgh:gh<W.heap.size) (hp0:W.cell? ⟨gh,3,none⟩=some (.int .i64 st)) (hp1:W.cell? ⟨gh,ch * 5+4,none⟩=some (.int .i64 ze)) (hse:W.cell? ⟨gs,nl * 15,none⟩=some (.int .i64 ze))
  (HFIN:Hid (∀ w',Fr w [] [] w'→PQ (.returned (.bool true)) w')) (HF0:Hid (Fr w [] [(qb,72,#[.int .i64 mul,.int .i64 muh,.int .i64 rl,.int .i64 rh,.int .i64 ol,.int .i64 oh,.int .i64 sl,.int .i64 sh,.int .i64 pxl,.int .i64 pxh,.int .i64 pyl,.int .i64 pyh,.int .i64 pzl,.int .i64 pzh,.slice A9 n9 c9,.int .i64 st,.int .i64 saxl,.int .i64 saxh,.int .i64 sayl,.int .i64 sayh,.int .i64 sazl,.int .i64 sazh,.int .i64 sbxl,.int .i64 sbxh,.int .i64 sbyl,.int .i64 sbyh,.int .i64 sbzl,.int .i64 sbzh,.int .i64 sml,.int .i64 smh])] W)) (HAT:LoopAt W gt gs gp n nm mA ct cs tb z f md) :
  Code.wp Tryz.prog (restC' 11 (Tryz.f4).body) (bodyPost Tryz.prog Tryz.f4 PQ) ⟨#[s0,.slice mA nm mc,.int .i64 F,.pointer (some ⟨qb,0,none⟩),s4,s5,s6,s7,.slice (some ⟨gs,0,none⟩) n sc,.slice (some ⟨gt,0,none⟩) n tc,s10,s11,s12,.slice (some ⟨gp,0,none⟩) n pc,.int .i64 (ch:Int),s15,.slice gq (noneB f n) gc,s17,.slice (some ⟨gh,0,none⟩) N hc,s19,s20,s21,s22,s23,s24,s25,s26,s27,s28,s29,s30,s31,s32,s33,s34,s35,s36,s37,s38,s39,s40,s41,s42,s43,s44,s45,s46,s47,s48,s49,s50,s51,s52,s53,s54,s55,s56,s57,s58,s59,s60,s61,s62,s63,s64,s65,s66,s67,s68,s69,s70,s71,s72,s73,s74,s75,s76,s77,s78,s79,s80,s81,s82,s83,s84,s85,s86,s87,s88,s89,s90,s91,s92,s93,s94,s95,s96,s97,s98,s99,s100,s101,s102,s103,s104,s105,s106,s107,s108,s109,s110,s111,s112,s113,s114,s115,s116,s117,s118,s119,s120,s121,s122,s123,s124,s125,s126,s127,s128,s129,s130,s131,s132,s133,s134,s135,s136,s137,s138,s139,s140,s141,s142,s143,s144,s145,s146,s147,s148,s149,s150,s151,s152,s153,s154,s155,s156,s157,s158,s159,s160,s161,s162,s163,s164,s165,s166,s167,s168,s169,s170,s171,s172,s173,s174,s175,s176,s177,s178,s179,s180,s181,s182,s183,s184,s185,s186,s187,s188,s189,s190,s191,s192,s193,s194,s195,s196,s197,s198,s199,s200,s201,s202,s203,s204,s205,s206,s207,s208,s209,s210],[]⟩ W:=by
 have HCELL:Hid (∀ w',Below W.heap.size W w'→w'.cell? ⟨gh,3,none⟩=some (.int .i64 st)∧w'.cell? ⟨gh,ch * 5+4,none⟩=some (.int .i64 ze)∧w'.cell? ⟨gs,nl * 15,none⟩=some (.int .i64 ze)):=hZ fun w' hb =>
  ⟨(hb.cell (p:=⟨gh,3,none⟩) hgh).trans hp0,(hb.cell (p:=⟨gh,ch * 5+4,none⟩) hgh).trans hp1,(hb.cell (p:=⟨gs,nl * 15,none⟩) HAT.st.lt).trans hse⟩
 have HQB:Hid (Bk W qb 72 #[.int .i64 mul,.int .i64 muh,.int .i64 rl,.int .i64 rh,.int .i64 ol,.int .i64 oh,.int .i64 sl,.int .i64 sh,.int .i64 pxl,.int .i64 pxh,.int .i64 pyl,.int .i64 pyh,.int .i64 pzl,.int .i64 pzh,.slice A9 n9 c9,.int .i64 st,.int .i64 saxl,.int .i64 saxh,.int .i64 sayl,.int .i64 sayh,.int .i64 sazl,.int .i64 sazh,.int .i64 sbxl,.int .i64 sbxh,.int .i64 sbyl,.int .i64 sbyh,.int .i64 sbzl,.int .i64 sbzh,.int .i64 sml,.int .i64 smh]):=hZ (HF0.out.get 0 rfl);have HNX:=fun W' (hf:Fr W [] [] W')=>HF0.out.below hf.toBelow;have HAX:=fun W' (hf:Fr W [] [] W')=>HAT.to hf.toBelow;have HNX:=hZ HNX;have HAX:=hZ HAX;have HLL:=hZ HL;have hn4:=HL.n4;have HF1:Hid (Fr W [] [] W):=hZ (Fr.start W);have h0N:(0:Int)<(N:Int):=by omega
 have h0N2:0<N:=by omega
 have hln2:nl<n:=by omega
 have h0c:(0:Int)≤(ch:Int):=by omega
 have hcN:(ch:Int)<(N:Int):=by omega
 have h0l:(0:Int)≤(nl:Int):=by omega
 have hln:(nl:Int)<(n:Int):=by omega
 have w1:IntKind.i64.wrap ((n:Int) - 1)=(nl:Int):=by rw [show (n:Int) - 1=(nl:Int) by omega];exact IntWalk.i64_in _ (by omega)
 have w2:wrap64 ((n:Int) - 1)=(nl:Int):=by rw [show (n:Int) - 1=(nl:Int) by omega];exact w64_in (by omega) (by omega)
 clear HL HAT hN63 hnl hgh hp0 hp1 hse hn4;conv=>arg 2;whnf
 refine wp_seq_k fun K hkk=>?_
 have HKK:=hZ hkk;clear hkk;go_upto_region 15 with (fail);refine wr0 (rV [.slice (some ⟨gh,0,none⟩) N hc,.pointer (some ⟨gh,0,none⟩),.pointer (some ⟨gh,3,none⟩),.int .i64 st,.pointer (some ⟨qb,15,none⟩),.pointer (some ⟨qb,15,none⟩),.int .i64 st,.bool false,.bool false,.slice (some ⟨gh,0,none⟩) N hc,.int .i64 (ch:Int),.pointer (some ⟨gh,ch * 5,none⟩),.pointer (some ⟨gh,ch * 5+4,none⟩),.int .i64 ze,.slice (some ⟨gs,0,none⟩) n sc,.slice (some ⟨gs,0,none⟩) n sc,.int .i64 (n:Int),.int .i64 (nl:Int),.pointer (some ⟨gs,nl * 15,none⟩),.pointer (some ⟨gs,nl * 15,none⟩),.int .i64 ze,.bool false,.bool false]) HF1.out ?_ ?_
 ·refine ⟨?_,?_,?_,?_,?_,?_,?_,?_,?_,?_,?_,?_,?_,?_,?_,?_,?_,?_,?_,?_,?_,?_,?_,trivial⟩
  all_goals intro a w1 vs dn k K S hpre KE DE kk
  ·have e18:=KE 18;go_simp;exact kk _ _
  ·have e116:=dep (DE 0 116);go_simp;exact kk _ _
  ·have e117:=dep (DE 1 117);go_simp;exact kk _ _
  ·have e118:=dep (DE 2 118);have ca:=(HCELL.out w1 S.fr.toBelow).1;go_simp;exact kk _ _
  ·have e3:=KE 3;go_simp;exact kk _ _
  ·have e120:=dep (DE 4 120);go_simp;exact kk _ _
  ·have e121:=dep (DE 5 121);have ca:w1.cell? ⟨qb,15,none⟩=some (.int .i64 st):=(HQB.out.below S.fr.toBelow HQB.out.lt).cell 15;go_simp;exact kk _ _
  ·have e119:=dep (DE 3 119);have e122:=dep (DE 6 122);go_simp;exact kk _ _
  ·have e123:=dep (DE 7 123);go_simp;exact kk _ _
  ·have e18:=KE 18;refine wY 8 false (dep (DE 8 124)) ?_
   go_simp;exact kk _ _
  ·have e14:=KE 14;refine wY 8 false (dep (DE 8 124)) ?_
   go_simp;exact kk _ _
  ·have e125:=dep (DE 9 125);have e126:=dep (DE 10 126);refine wY 8 false (dep (DE 8 124)) ?_
   go_simp;exact kk _ _
  ·have e127:=dep (DE 11 127);refine wY 8 false (dep (DE 8 124)) ?_
   go_simp;exact kk _ _
  ·have e128:=dep (DE 12 128);have ca:=(HCELL.out w1 S.fr.toBelow).2.1;refine wY 8 false (dep (DE 8 124)) ?_
   go_simp;exact kk _ _
  ·have e8:=KE 8;refine wY 8 false (dep (DE 8 124)) ?_
   go_simp;exact kk _ _
  ·have e8:=KE 8;refine wY 8 false (dep (DE 8 124)) ?_
   go_simp;exact kk _ _
  ·have e131:=dep (DE 15 131);refine wY 8 false (dep (DE 8 124)) ?_
   go_simp;exact kk _ _
  ·have e132:=dep (DE 16 132);refine wY 8 false (dep (DE 8 124)) ?_
   go_simp;exact kk _ _
  ·have e130:=dep (DE 14 130);have e133:=dep (DE 17 133);refine wY 8 false (dep (DE 8 124)) ?_
   go_simp;exact kk _ _
  ·have e134:=dep (DE 18 134);refine wY 8 false (dep (DE 8 124)) ?_
   go_simp;exact kk _ _
  ·have e135:=dep (DE 19 135);have ca:=(HCELL.out w1 S.fr.toBelow).2.2;refine wY 8 false (dep (DE 8 124)) ?_
   go_simp;exact kk _ _
  ·have e129:=dep (DE 13 129);have e136:=dep (DE 20 136);refine wY 8 false (dep (DE 8 124)) ?_
   go_simp;exact kk _ _
  ·have e124:=dep (DE 8 124);have e137:=dep (DE 21 137);go_simp;exact kk _ _
 ·intro vs w1 HFr HR;have v22:vs 22=.bool false:=HR 22 _ rfl;have HF1:=hZ HFr;clear HFr HR;simp only [putAll,Act.put,List.setIfInBounds_toArray,List.set_cons_zero,List.set_cons_succ,v22];clear v22;go_wp2_with fail
  refine HKK.out _ _ ?_
  exact aborts_loop HLL.out HFIN (hZ (HNX.out _ HF1.out)) (HAX.out _ HF1.out)
theorem plan_post {n:Nat} {M:Nat→Nat} {w w':World} {e:Ending} (h0:0<n) (h:PlanPost n M w e w'):∃ gp pc f,e=.returned (.tuple #[.slice (some ⟨gp,0,none⟩) n pc,.int .i64 (chgF f n),.int .i64 0])∧(∀ i,i<n→f i ∈ chs (M i))∧IntAt w' gp n f∧Below w.heap.size w w':=by
 obtain ⟨u,cur,f,h1,h2,h3,h4⟩:=h;rcases h3.2 with ⟨_,q⟩ | ⟨g,cap,rfl,q1,q2,q3,q4⟩
 ·omega
 ·have hk:Bk w' g 3 cur:=h4.get 0 rfl;refine ⟨g,cap,f,h1,h2,⟨hk.lt,fun k hk2=>?_⟩,h4.toBelow⟩
  rw [hk.cell k,← Array.getElem?_toList];have h5:=congrArg (·[k]?) q4;rw [List.getElem?_take,if_pos (by omega)] at h5
  rw [h5];simp [ints,hk2]
theorem gaps_post {n:Nat} {w w':World} {e:Ending} (h:∃ u cur xs,e=.returned (.tuple #[u,.int .i64 0])∧LstAt 1 u cur n xs∧Fr w [] (lstE 3 u cur) w'):∃ gq gc,e=.returned (.tuple #[.slice gq n gc,.int .i64 0])∧Below w.heap.size w w':=by
 obtain ⟨u,cur,xs,h1,h3,h4⟩:=h;rcases h3.2 with ⟨rfl,rfl⟩ | ⟨g,cap,rfl,_⟩
 ·exact ⟨none,0,h1,h4.toBelow⟩
 ·exact ⟨_,cap,h1,h4.toBelow⟩
theorem phases_post {f:Nat→Int} {t:Nat→TubeD} {n:Nat} {w w':World} {e:Ending} (h0:0<n) (h:PhasesPost f t n w e w'):∃ gh hc,e=.returned (.tuple #[.slice (some ⟨gh,0,none⟩) (runN f n) hc,.int .i64 0])∧gh<w'.heap.size ∧
  w'.cell? ⟨gh,3,none⟩=some (.int .i64 (t 0).frm)∧w'.cell? ⟨gh,(runN f n - 1) * 5+4,none⟩=some (.int .i64 (t (n - 1)).to)∧Below w.heap.size w w':=by
 obtain ⟨u,cur,h1,h3,h4⟩:=h;have hN:=runN_le f n h0;have hc:=chg_nonneg f n;rcases h3.2 with ⟨_,q⟩ | ⟨g,cap,rfl,q1,q2,q3,q4⟩
 ·omega
 ·have hk:Bk w' g 87 cur:=h4.get 0 rfl;have hcell:∀ x,x<runN f n→∀ j,j<5→w'.cell? ⟨g,x * 5+j,none⟩=(phA f t (runP f n x))[j]?:=fun x hx j hj=>by
   have hg:((List.range (runN f n)).map (runP f n))[x]?=some (runP f n x):=by simp [hx]
   have hs:=lst_seg (phA f t) (fun _=>rfl) h3 hg hx;rw [hk.cell,← Array.getElem?_toList,← Array.getElem?_toList,← hs,List.getElem?_take,if_pos (by exact hj),List.getElem?_drop]
  refine ⟨g,cap,h1,hk.lt,?_,?_,h4.toBelow⟩
  ·have:=hcell 0 (by omega) 3 (by omega)
   rw [show 0 * 5+3=3 from rfl] at this
   rw [this];refine Eq.trans (b:=some (.int .i64 (t (runP f n 0).1).frm)) rfl ?_
   rw [runP_first f n h0]
  ·rw [hcell (runN f n - 1) (by omega) 4 (by omega)]
   refine Eq.trans (b:=some (.int .i64 (t (runP f n (runN f n - 1)).2).to)) rfl ?_
   rw [runP_last f n h0]
theorem aborts_plan {PQ:Ending→World→Prop} {w W:World} {mA A9:Option Addr} {nm mc n9 c9 n sc tc gt gs qb:Nat} {ct cs:Array Value} {tb:Nat→TubeD} {y z:Nat→StateD} {md:Nat→ModeD} {M:Nat→Nat} {F:Int} {mul muh rl rh ol oh sl sh pxl pxh pyl pyh pzl pzh st saxl saxh sayl sayh sazl sazh sbxl sbxh sbyl sbyh sbzl sbzh sml smh:Int} {s0 s4 s5 s6 s7 s10 s12 s13 s14 s15 s16 s17 s18 s19 s20 s21 s22 s23 s24 s25 s26 s27 s28 s29 s30 s31 s32 s33 s34 s35 s36 s37 s38 s39 s40 s41 s42 s43 s44 s45 s46 s47 s48 s49 s50 s51 s52 s53 s54 s55 s56 s57 s58 s59 s60 s61 s62 s63 s64 s65 s66 s67 s68 s69 s70 s71 s72 s73 s74 s75 s76 s77 s78 s79 s80 s81 s82 s83 s84 s85 s86 s87 s88 s89 s90 s91 s92 s93 s94 s95 s96 s97 s98 s99 s100 s101 s102 s103 s104 s105 s106 s107 s108 s109 s110 s111 s112 s113 s114 s115 s116 s117 s118 s119 s120 s121 s122 s123 s124 s125 s126 s127 s128 s129 s130 s131 s132 s133 s134 s135 s136 s137 s138 s139 s140 s141 s142 s143 s144 s145 s146 s147 s148 s149 s150 s151 s152 s153 s154 s155 s156 s157 s158 s159 s160 s161 s162 s163 s164 s165 s166 s167 s168 s169 s170 s171 s172 s173 s174 s175 s176 s177 s178 s179 s180 s181 s182 s183 s184 s185 s186 s187 s188 s189 s190 s191 s192 s193 s194 s195 s196 s197 s198 s199 s200 s201 s202 s203 s204 s205 s206 s207 s208 s209 s210:Value}
  {gM:Nat} (h1n:0<n) (hM16:∀ k,k<n→M k<16) (HL:∀ f:Nat→Int,(∀ k,k<n→f k ∈ chs (M k))→LoopF ⟨⟨mul,muh⟩,⟨rl,rh⟩,⟨ol,oh⟩,⟨sl,sh⟩,⟨⟨pxl,pxh⟩,⟨pyl,pyh⟩,⟨pzl,pzh⟩⟩⟩ ⟨st,⟨⟨saxl,saxh⟩,⟨sayl,sayh⟩,⟨sazl,sazh⟩⟩,⟨⟨sbxl,sbxh⟩,⟨sbyl,sbyh⟩,⟨sbzl,sbzh⟩⟩,⟨sml,smh⟩⟩ n nm tb y z f md F M)
  (HFIN:Hid (∀ w',Fr w [] [] w'→PQ (.returned (.bool true)) w')) (HF0:Hid (Fr w [] [(qb,72,#[.int .i64 mul,.int .i64 muh,.int .i64 rl,.int .i64 rh,.int .i64 ol,.int .i64 oh,.int .i64 sl,.int .i64 sh,.int .i64 pxl,.int .i64 pxh,.int .i64 pyl,.int .i64 pyh,.int .i64 pzl,.int .i64 pzh,.slice A9 n9 c9,.int .i64 st,.int .i64 saxl,.int .i64 saxh,.int .i64 sayl,.int .i64 sayh,.int .i64 sazl,.int .i64 sazh,.int .i64 sbxl,.int .i64 sbxh,.int .i64 sbyl,.int .i64 sbyh,.int .i64 sbzl,.int .i64 sbzh,.int .i64 sml,.int .i64 smh])] W)) (HAT:LoopAt W gt gs gM n nm mA ct cs tb z (fun k=>(M k:Nat)) md) :
  Code.wp Tryz.prog (restC' 7 (Tryz.f4).body) (bodyPost Tryz.prog Tryz.f4 PQ) ⟨#[s0,.slice mA nm mc,.int .i64 F,.pointer (some ⟨qb,0,none⟩),s4,s5,s6,s7,.slice (some ⟨gs,0,none⟩) n sc,.slice (some ⟨gt,0,none⟩) n tc,s10,.slice (some ⟨gM,0,none⟩) n n,s12,s13,s14,s15,s16,s17,s18,s19,s20,s21,s22,s23,s24,s25,s26,s27,s28,s29,s30,s31,s32,s33,s34,s35,s36,s37,s38,s39,s40,s41,s42,s43,s44,s45,s46,s47,s48,s49,s50,s51,s52,s53,s54,s55,s56,s57,s58,s59,s60,s61,s62,s63,s64,s65,s66,s67,s68,s69,s70,s71,s72,s73,s74,s75,s76,s77,s78,s79,s80,s81,s82,s83,s84,s85,s86,s87,s88,s89,s90,s91,s92,s93,s94,s95,s96,s97,s98,s99,s100,s101,s102,s103,s104,s105,s106,s107,s108,s109,s110,s111,s112,s113,s114,s115,s116,s117,s118,s119,s120,s121,s122,s123,s124,s125,s126,s127,s128,s129,s130,s131,s132,s133,s134,s135,s136,s137,s138,s139,s140,s141,s142,s143,s144,s145,s146,s147,s148,s149,s150,s151,s152,s153,s154,s155,s156,s157,s158,s159,s160,s161,s162,s163,s164,s165,s166,s167,s168,s169,s170,s171,s172,s173,s174,s175,s176,s177,s178,s179,s180,s181,s182,s183,s184,s185,s186,s187,s188,s189,s190,s191,s192,s193,s194,s195,s196,s197,s198,s199,s200,s201,s202,s203,s204,s205,s206,s207,s208,s209,s210],[]⟩ W:=by
 obtain ⟨HX,hHX⟩:∃ P:(Nat→Int)→Prop,(fun f=>LoopF ⟨⟨mul,muh⟩,⟨rl,rh⟩,⟨ol,oh⟩,⟨sl,sh⟩,⟨⟨pxl,pxh⟩,⟨pyl,pyh⟩,⟨pzl,pzh⟩⟩⟩ ⟨st,⟨⟨saxl,saxh⟩,⟨sayl,sayh⟩,⟨sazl,sazh⟩⟩,⟨⟨sbxl,sbxh⟩,⟨sbyl,sbyh⟩,⟨sbzl,sbzh⟩⟩,⟨sml,smh⟩⟩ n nm tb y z f md F M)=P:=⟨_,rfl⟩;have HLL:=hZ HL;have hex:∃ f:Nat→Int,∀ k,k<n→f k ∈ chs (M k):=by
  refine ⟨fun k=>(chs (M k)).headD 0,fun k hk=>?_⟩
  have:=chs_ne (M k) (hM16 k hk)
  show (chs (M k)).headD 0 ∈ chs (M k)
  cases hq:chs (M k) with
  | nil=>exact absurd hq this
  | cons x l=>exact List.mem_cons_self
 obtain ⟨f0,hf0⟩:=hex;have hn4:=(HL f0 hf0).n4;have hft:=(HL f0 hf0).ft;have HY0:=hZ ((HL f0 hf0).y0);have HFK:=hZ ((HL f0 hf0).fk);have HAT0:=hZ HAT;have HPL:=hZ fun w' (hb:Below W.heap.size W w')=>(plan15_any gM n n M hn4 h1n hM16 w' (HAT.pl.to hb)).mono fun e w'' h=>plan_post h1n h;have HGA:=hZ fun w' (hb:Below W.heap.size W w')=>(gaps_any gM n n (fun k=>(M k:Nat)) hn4 w' (HAT.pl.to hb) (fun k hk=>by have:=hM16 k hk;omega)).mono fun e w'' h=>gaps_post h
 have HPH:=hZ fun gp pc f (hf:∀ i,i<n→f i ∈ chs (M i)) w' (hb:Below W.heap.size W w') (hp:IntAt w' gp n f)=>(phases_any gp pc gt tc n f ct tb hn4 h1n (fun k hk=>chs_in _ (hM16 k hk) (hf k hk)) hft w' hp (HAT.tb.to hb)).mono fun e w'' h=>phases_post h1n h;have HM16:=hZ hM16;have H1N:=hZ h1n;have HN4:=hZ hn4;have HSEG:=hZ HAT.seg;have HF1:Hid (Fr W [] [] W):=hZ (Fr.start W);clear hHX HL hf0 hft HAT hM16 hn4 h1n;conv=>arg 2;whnf
 go_wp2_with fail
 refine (HPL.out _ HF1.out.toBelow).mono ?_
 rintro e w2 ⟨gp,pc,f,rfl,hf,hpl,hw⟩;have HF2:=hZ (HF1.out.below hw);have HPI:=hZ hpl;have HPF:=hZ hf;clear hw hpl hf;obtain ⟨cz,hcz⟩:=eX (chgF f n);have HCZ:Hid (0≤cz∧cz≤4096∧(runN f n:Int)=cz+1):=hZ (by
  have h1:=chg_nonneg f n;have h2:=runN_le f n H1N.out;have h3:=HN4.out;omega)
 rw [hcz];clear hcz;go_wp2_with fail
 refine (HGA.out _ HF2.out.toBelow).mono ?_
 rintro e w3 ⟨gq,gc,rfl,hw⟩;have HF3:=hZ (HF2.out.below hw);have HPI3:=hZ (HPI.out.to hw);clear hw;rw [show zerosB (fun k=>(M k:Nat)) n=noneB f n from (none_zeros n HPF.out).symm]
 go_wp2_with fail
 refine (HPH.out gp pc f HPF.out _ HF3.out.toBelow HPI3.out).mono ?_
 rintro e w4 ⟨gh,hc,rfl,hgh,hp0,hp1,hw⟩;have HF4:=hZ (HF3.out.below hw);have HPI4:=hZ (HPI3.out.to hw);have HH:=hZ (And.intro hgh (And.intro hp0 hp1));clear hw hgh hp0 hp1;obtain ⟨ch,hch⟩:∃ ch:Nat,cz=(ch:Int):=⟨cz.toNat,by have:=HCZ.out;omega⟩
 subst hch;obtain ⟨N,hN⟩:=eX (runN f n);rw [hN] at HCZ HH ⊢;clear hN;have hNc:N=ch+1:=by have:=HCZ.out;omega
 have hc4:(ch:Int)≤4096:=HCZ.out.2.1;have h0c:(0:Int)≤(ch:Int):=by omega
 subst hNc;have w1:IntKind.i64.wrap ((ch:Int)+1)=((ch+1:Nat):Int):=by rw [show (ch:Int)+1=((ch+1:Nat):Int) by omega];exact IntWalk.i64_in _ (by omega)
 have w2:wrap64 ((ch:Int)+1)=((ch+1:Nat):Int):=by rw [show (ch:Int)+1=((ch+1:Nat):Int) by omega];exact w64_in (by omega) (by omega)
 generalize hNN:ch+1=N at w1 w2 HH ⊢
 go_upto_region 13 with (fail);rename_i K1 hk1 K0 hk0
 have HK1:=hZ hk1;clear hk1;have HNc:=hZ hNN;clear hNN;have hNb:(N:Int)≤4097:=by have:=HNc.out;omega
 go_wp2_with fail
 refine HK1.out _ _ ?_
 obtain ⟨nl,hnl⟩:∃ nl,n=nl+1:=⟨n - 1,by have:=H1N.out;omega⟩
 have hHL:=HLL.out f HPF.out;have hAT:=(HAT0.out.to HF4.out.toBelow);have hb:=HH.out;rw [← HNc.out] at hb;have hk0:=HFK.out 0 H1N.out;have hkl:=HFK.out nl (by omega)
 rw [hk0.frm,HY0.out] at hb;rw [show n - 1=nl by omega,hkl.till] at hb
 have hse:w4.cell? ⟨gs,nl * 15,none⟩=some (.int .i64 (z nl).t):=by
  have h1:=hAT.seg nl (by omega)
  have h2:=congrArg (·[0]?) h1;rw [List.getElem?_take,if_pos (by omega),List.getElem?_drop,Nat.add_zero] at h2
  rw [hAT.st.cell,← Array.getElem?_toList,h2];rfl
 exact aborts_phases hHL (by have:=HNc.out;omega) (by omega) hnl hb.1 hb.2.1 hb.2.2 hse HFIN (hZ (HF0.out.below HF4.out.toBelow)) ⟨hAT.tb,hAT.st,hAT.seg,HPI4.out,hAT.md⟩
end Go.Proofs.YtmkoegljnebdiaaGreat
