/- What is proved: the texts Oj Rd Rt, one behind the other; each says at its head what it proves, and under which conditions. -/
import Derived.Test.YtmkoegljnebdiaaGreatRows
import Derived.ProofKit
import Derived.OpenShut
import Derived.JoinedOf
import Derived.JoinedCond
import Derived.SizedLaws
import Derived.ChangeSame
import Derived.Carry
import Derived.Test.YtmkoegljnebdiaaGreatdPAborts19
namespace Go.Proofs.YtmkoegljnebdiaaGreat
open Go.RowKit
set_option maxRecDepth 100000
set_option maxHeartbeats 16000000

theorem lst_sliceN {sz:Nat} {u:Value} {cur:Array Value} {n:Nat} {xs:List Value} (h:LstAt sz u cur n xs):∃ q c,u=.slice q n c:=by
 rcases h.2 with ⟨rfl,rfl⟩ | ⟨g0,cap,rfl,_⟩ <;> exact ⟨_,_,rfl⟩
theorem arcs_at {w w':World} {cur:Array Value} {n c9:Nat} {v:Nat→ArcR} {A A9:Option Addr} (hn:n≤4) (hl:LstAt 15 (.slice A9 n c9) cur n (arcsC v n)) (hf:Fr w [] (lstE 46 (.slice A9 n c9) cur) w') (hA:ArcsAt w w.heap.size A n v):ArcsAt w' w'.heap.size A9 n (fun i=>oneR (v i)):=by
 obtain ⟨A',cap,e,h⟩:=arcs_of (by omega) hl hf hA
 injection e with e1 _ _
 rw [e1];exact h
theorem fly_post {p:PlanetD} {n:Nat} {v:Nat→ArcR} {s:StateD} {w w':World} {e:Ending} (wp:WdP p) (wv:∀ i,WdA (v i).a) (ws:I64W s) (hn4:n≤4096) (h:FlyL p n (fun i=>oneR (v i)) s w e w') :
  (∃ r,r ≠ 0∧e=.returned (.tuple #[.slice none 0 0,.slice none 0 0,.int .i64 r])∧Below w.heap.size w w') ∨
  (∃ us q c,e=.returned (.tuple #[us,.slice q 0 c,.int .i64 0])∧Below w.heap.size w w') ∨
  (0<n∧∃ gs sc gt tc cs ct,∃ (y z:Nat→StateD) (tb:Nat→TubeD),e=.returned (.tuple #[.slice (some ⟨gs,0,none⟩) n sc,.slice (some ⟨gt,0,none⟩) n tc,.int .i64 0])∧(∀ k,k<n→FlK p (y k) (z k) (tb k))∧y 0=s∧(∀ k,k+1<n→y (k+1)=z k) ∧
   TbAt w' gt n ct tb∧Bk w' gs 38 cs∧(∀ k,k<n→(cs.toList.drop (k * 15)).take 15=(stA (z k)).toList)∧n≤tc∧tc≤maxLen∧Below w.heap.size w w'):=by
 rcases h with ⟨r,h1,h2,h3⟩ | ⟨S,st,sg,us,cs,ut,ct,hg,hf,rfl,hl1,hl2,hfr⟩
 ·exact .inl ⟨r,h1,h2,h3⟩
 ·obtain ⟨hs1,hs2,hk⟩:=flight_law wp wv ws hg hf;have hb:=hfr.toBelow;rcases Nat.eq_zero_or_pos n with h0 | h0
  ·refine .inr (.inl ?_)
   obtain ⟨q,m,c,rfl⟩:=lst_slice hl2;rcases hl2.2 with ⟨h5,_⟩ | ⟨g,cap,h5,_⟩
   ·injection h5 with h6 h7 h8
    subst h7;exact ⟨us,q,c,rfl,hb⟩
   ·injection h5 with h6 h7 h8
    rw [hs2,h0] at h7;subst h7;exact ⟨us,q,c,rfl,hb⟩
  ·refine .inr (.inr ⟨h0,?_⟩)
   obtain ⟨gt,tc,rfl,ht1,ht2,ht3⟩:=tubes_of (by omega) (by omega) hl2 hfr
   rw [← hs1] at hl1;obtain ⟨gs,sc,rfl,hb1,hb2⟩:=stops_of (by omega) hl1 hfr
   rw [hs2] at ht1 ht3 ⊢;rw [hs1];refine ⟨gs,sc,gt,tc,cs,ct,fun k=>if k=0 then s else st.getD (k - 1) noSt,fun k=>st.getD k noSt,fun k=>sg.flatten.getD k noTb,rfl,fun k hkn=>?_,rfl,fun k _=>?_,ht3,hb1,fun k hkn=>?_,ht1,ht2,hb⟩
   ·obtain ⟨y,zz,b1,b2,b3⟩:=hk k hkn;have e1:(if k=0 then s else st.getD (k - 1) noSt)=y:=by
     rcases b1 with ⟨c1,c2⟩ | ⟨c1,c2⟩
     ·rw [if_pos c1,c2]
     ·rw [if_neg (by omega),List.getD_eq_getElem?_getD,c2];rfl
    have e2:st.getD k noSt=zz:=by rw [List.getD_eq_getElem?_getD,b2];rfl
    dsimp only;rw [e1,e2];exact b3
   ·dsimp only;rw [if_neg (by omega),Nat.add_sub_cancel]
   ·obtain ⟨y,zz,b1,b2,b3⟩:=hk k hkn;have e2:st.getD k noSt=zz:=by rw [List.getD_eq_getElem?_getD,b2];rfl
    dsimp only;rw [e2];exact hb2 k zz b2
theorem aborts_ready {PQ:Ending→World→Prop} {w W:World} {mA A9:Option Addr} {nm mc n9 c9 n sc tc gt gs qb:Nat} {ct cs:Array Value} {tb:Nat→TubeD} {y z:Nat→StateD} {md:Nat→ModeD} {F:Int} {mul muh rl rh ol oh sl sh pxl pxh pyl pyh pzl pzh st saxl saxh sayl sayh sazl sazh sbxl sbxh sbyl sbyh sbzl sbzh sml smh:Int} {s0 s4 s5 s6 s7 s10 s11 s12 s13 s14 s15 s16 s17 s18 s19 s20 s21 s22 s23 s24 s25 s26 s27 s28 s29 s30 s31 s32 s33 s34 s35 s36 s37 s38 s39 s40 s41 s42 s43 s44 s45 s46 s47 s48 s49 s50 s51 s52 s53 s54 s55 s56 s57 s58 s59 s60 s61 s62 s63 s64 s65 s66 s67 s68 s69 s70 s71 s72 s73 s74 s75 s76 s77 s78 s79 s80 s81 s82 s83 s84 s85 s86 s87 s88 s89 s90 s91 s92 s93 s94 s95 s96 s97 s98 s99 s100 s101 s102 s103 s104 s105 s106 s107 s108 s109 s110 s111 s112 s113 s114 s115 s116 s117 s118 s119 s120 s121 s122 s123 s124 s125 s126 s127 s128 s129 s130 s131 s132 s133 s134 s135 s136 s137 s138 s139 s140 s141 s142 s143 s144 s145 s146 s147 s148 s149 s150 s151 s152 s153 s154 s155 s156 s157 s158 s159 s160 s161 s162 s163 s164 s165 s166 s167 s168 s169 s170 s171 s172 s173 s174 s175 s176 s177 s178 s179 s180 s181 s182 s183 s184 s185 s186 s187 s188 s189 s190 s191 s192 s193 s194 s195 s196 s197 s198 s199 s200 s201 s202 s203 s204 s205 s206 s207 s208 s209 s210:Value}
  (h1n:0<n) (hn4:n≤4096) (hnm:nm≤3) (wp:WdP ⟨⟨mul,muh⟩,⟨rl,rh⟩,⟨ol,oh⟩,⟨sl,sh⟩,⟨⟨pxl,pxh⟩,⟨pyl,pyh⟩,⟨pzl,pzh⟩⟩⟩) (wm:∀ i,WdM (md i)) (hfk:∀ k,k<n→FlK ⟨⟨mul,muh⟩,⟨rl,rh⟩,⟨ol,oh⟩,⟨sl,sh⟩,⟨⟨pxl,pxh⟩,⟨pyl,pyh⟩,⟨pzl,pzh⟩⟩⟩ (y k) (z k) (tb k)) (hy0:y 0=⟨st,⟨⟨saxl,saxh⟩,⟨sayl,sayh⟩,⟨sazl,sazh⟩⟩,⟨⟨sbxl,sbxh⟩,⟨sbyl,sbyh⟩,⟨sbzl,sbzh⟩⟩,⟨sml,smh⟩⟩) (hys:∀ k,k+1<n→y (k+1)=z k) (htc1:n≤tc) (htc2:tc≤maxLen)
  (HFIN:Hid (∀ w',Fr w [] [] w'→PQ (.returned (.bool true)) w')) (HF0:Hid (Fr w [] [(qb,72,#[.int .i64 mul,.int .i64 muh,.int .i64 rl,.int .i64 rh,.int .i64 ol,.int .i64 oh,.int .i64 sl,.int .i64 sh,.int .i64 pxl,.int .i64 pxh,.int .i64 pyl,.int .i64 pyh,.int .i64 pzl,.int .i64 pzh,.slice A9 n9 c9,.int .i64 st,.int .i64 saxl,.int .i64 saxh,.int .i64 sayl,.int .i64 sayh,.int .i64 sazl,.int .i64 sazh,.int .i64 sbxl,.int .i64 sbxh,.int .i64 sbyl,.int .i64 sbyh,.int .i64 sbzl,.int .i64 sbzh,.int .i64 sml,.int .i64 smh])] W)) (HAT:TbAt W gt n ct tb∧Bk W gs 38 cs∧(∀ k,k<n→(cs.toList.drop (k * 15)).take 15=(stA (z k)).toList)∧ModesAt W mA nm md) :
  Code.wp Tryz.prog (restC' 5 (Tryz.f4).body) (bodyPost Tryz.prog Tryz.f4 PQ) ⟨#[s0,.slice mA nm mc,.int .i64 F,.pointer (some ⟨qb,0,none⟩),s4,s5,s6,s7,.slice (some ⟨gs,0,none⟩) n sc,.slice (some ⟨gt,0,none⟩) n tc,s10,s11,s12,s13,s14,s15,s16,s17,s18,s19,s20,s21,s22,s23,s24,s25,s26,s27,s28,s29,s30,s31,s32,s33,s34,s35,s36,s37,s38,s39,s40,s41,s42,s43,s44,s45,s46,s47,s48,s49,s50,s51,s52,s53,s54,s55,s56,s57,s58,s59,s60,s61,s62,s63,s64,s65,s66,s67,s68,s69,s70,s71,s72,s73,s74,s75,s76,s77,s78,s79,s80,s81,s82,s83,s84,s85,s86,s87,s88,s89,s90,s91,s92,s93,s94,s95,s96,s97,s98,s99,s100,s101,s102,s103,s104,s105,s106,s107,s108,s109,s110,s111,s112,s113,s114,s115,s116,s117,s118,s119,s120,s121,s122,s123,s124,s125,s126,s127,s128,s129,s130,s131,s132,s133,s134,s135,s136,s137,s138,s139,s140,s141,s142,s143,s144,s145,s146,s147,s148,s149,s150,s151,s152,s153,s154,s155,s156,s157,s158,s159,s160,s161,s162,s163,s164,s165,s166,s167,s168,s169,s170,s171,s172,s173,s174,s175,s176,s177,s178,s179,s180,s181,s182,s183,s184,s185,s186,s187,s188,s189,s190,s191,s192,s193,s194,s195,s196,s197,s198,s199,s200,s201,s202,s203,s204,s205,s206,s207,s208,s209,s210],[]⟩ W:=by
 have HAW:=hZ (fun w=>awake_any w);have HRD:=fun w' (hb:Below W.heap.size W w')=>ready_any ⟨⟨mul,muh⟩,⟨rl,rh⟩,⟨ol,oh⟩,⟨sl,sh⟩,⟨⟨pxl,pxh⟩,⟨pyl,pyh⟩,⟨pzl,pzh⟩⟩⟩ mA nm mc md gt n tc ct tb F wp wm (fun i hi=>(hfk i hi).wt) hnm w' (HAT.2.2.2.to hb) (HAT.1.to hb) htc1 htc2;unfold planetV at HRD;dsimp only at HRD;replace HRD:=hZ HRD;have HNX:Hid (∀ (M:Nat→Nat),FlownTo tb n→planetB ⟨⟨mul,muh⟩,⟨rl,rh⟩,⟨ol,oh⟩,⟨sl,sh⟩,⟨⟨pxl,pxh⟩,⟨pyl,pyh⟩,⟨pzl,pzh⟩⟩⟩=true→(∀ i,i<nm→ModeOk (md i))→MaskI ⟨⟨mul,muh⟩,⟨rl,rh⟩,⟨ol,oh⟩,⟨sl,sh⟩,⟨⟨pxl,pxh⟩,⟨pyl,pyh⟩,⟨pzl,pzh⟩⟩⟩ md tb F n nm M→((∀ k,k<n→M k<16)∧∀ f:Nat→Int,(∀ k,k<n→f k ∈ chs (M k))→LoopF ⟨⟨mul,muh⟩,⟨rl,rh⟩,⟨ol,oh⟩,⟨sl,sh⟩,⟨⟨pxl,pxh⟩,⟨pyl,pyh⟩,⟨pzl,pzh⟩⟩⟩ ⟨st,⟨⟨saxl,saxh⟩,⟨sayl,sayh⟩,⟨sazl,sazh⟩⟩,⟨⟨sbxl,sbxh⟩,⟨sbyl,sbyh⟩,⟨sbzl,sbzh⟩⟩,⟨sml,smh⟩⟩ n nm tb y z f md F M)):=hZ fun M h1 h2 h3 h4 =>
  ⟨fun k hk=>Nat.lt_of_lt_of_le (h4 k hk).1 (Nat.le_trans (Nat.pow_le_pow_right (by omega) hnm) (by decide)),fun f hf=>⟨wp,wm,h2,h3,h1,hfk,hy0,hys,h4,hf,hn4,hnm⟩⟩
 have HAT0:=hZ HAT;have H1N:=hZ h1n;have HF1:Hid (Fr W [] [] W):=hZ (Fr.start W);clear h1n hn4 hnm wp wm hfk hy0 hys htc1 htc2 HAT;conv=>arg 2;whnf
 go_wp2_with (refine lF (gN HF0 0) #[mul,muh,rl,rh,ol,oh,sl,sh,pxl,pxh,pyl,pyh,pzl,pzh] u_36 i_36 ?_)
 refine (HRD.out _ HF1.out.toBelow).mono ?_
 rintro e w2 (⟨rfl,hw⟩ | ⟨gM,M,rfl,hft,hpb,hmo,hmi,hfr⟩)
 ·have HF2:=hZ (HF0.out.below hw);clear hw;go_wp2_with fail
  refine mB HF2.out (HAW.out _) fun w3 HF3=>?_;go_wp2_with fail
  exact HFIN.out _ HF3.out.drop
 ·have hb:=hfr.toBelow;have hbk:Bk w2 gM 3 (valA n fun k=>.int .i64 (M k:Nat)):=hfr.get 0 rfl;have hia:IntAt w2 gM n fun k=>(M k:Nat):=⟨hbk.lt,fun k hk=>by rw [hbk.cell k,valA_get _ _ _ hk]⟩
  have HM:=hZ (HNX.out M hft hpb hmo hmi);have HAT2:Hid (LoopAt w2 gt gs gM n nm mA ct cs tb z (fun k=>(M k:Nat)) md):=hZ ⟨HAT0.out.1.to hb,HAT0.out.2.1.below hb HAT0.out.2.1.lt,HAT0.out.2.2.1,hia,HAT0.out.2.2.2.to hb⟩;have HF2:=hZ (HF0.out.below hb);clear hft hpb hmo hmi hfr hb hbk hia;go_upto_region 8 with (fail);rename_i K1 hk1 K0 hk0
  have HK1:=hZ hk1;clear hk1;go_wp2_with fail
  refine HK1.out _ _ ?_
  exact aborts_plan H1N.out HM.out.1 HM.out.2 HFIN HF2 HAT2.out
theorem topAborts_any (p:PlanetD) (A:Option Addr) (n c:Nat) (v:Nat→ArcR) (s:StateD) (mA:Option Addr) (nm mc:Nat) (md:Nat→ModeD) (F:Int) (wp:WdP p) (wv:∀ i,WdA (v i).a) (ws:I64W s) (wm:∀ i,WdM (md i)) (w:World) (hA:ArcsAt w w.heap.size A n v) (hM:nm≤18→ModesAt w mA nm md) (hnm:nm≤9223372036854775807) :
  Calls Tryz.prog 4 #[.agg (tripA p (.slice A n c) s),.slice mA nm mc,.int .i64 F] w fun e w'=>e=.returned (.bool true)∧Below w.heap.size w w':=by
 refine pQ fun PQ hPQ=>?_
 have HFIN:Hid (∀ w',Fr w [] [] w'→PQ (.returned (.bool true)) w'):=hZ fun w' h=>by rw [← hPQ];exact ⟨rfl,h.toBelow⟩
 have HAW:=hZ (fun w=>awake_any w);have HLG:=hZ fun w' (hb:Below w.heap.size w w')=>long13_any mA nm mc md 6 wm w' (fun h=>(hM h).to hb);unfold AnyB at HLG;have HBR:=fun w' (hb:Below w.heap.size w w')=>(brief_any p A n c v s w' (fun _=>hA.to hb)).mono (R':=fun e w''=>(∃ u,u.oneCell'=true∧e=.returned (.tuple #[.agg (tripA p u s),.bool false])∧Below w'.heap.size w' w'') ∨
  ∃ A9 c9 cur,e=.returned (.tuple #[.agg (tripA p (.slice A9 n c9) s),.bool true])∧n≤4∧LstAt 15 (.slice A9 n c9) cur n (arcsC v n)∧Fr w' [] (lstE 46 (.slice A9 n c9) cur) w'') fun e w'' h=>by
   rcases h with ⟨u,h0,h1,h2⟩ | ⟨u,cur,h1,h2,_,h4,h5⟩
   ·exact .inl ⟨u,h0,h1,h2⟩
   ·obtain ⟨A9,c9,rfl⟩:=lst_sliceN h4;exact .inr ⟨A9,c9,cur,h1,h2,h4,h5⟩
 have HAA:=hZ fun (h4:n≤4) A9 c9 cur w' (hl:LstAt 15 (.slice A9 n c9) cur n (arcsC v n)) (hf:Fr w [] (lstE 46 (.slice A9 n c9) cur) w')=>arcs_at h4 hl hf hA;have wv':∀ i,WdA ((fun i=>oneR (v i)) i).a:=fun i=>⟨(wv i).time,(wv i).time,(wv i).thrust,(wv i).flow,(wv i).dir,(wv i).drag,(wv i).drop⟩;have HFY:=fun (h4:n≤4) A9 c9 w' (ha:ArcsAt w' w'.heap.size A9 n (fun i=>oneR (v i)))=>(flyL_any p s A9 n c9 (fun i=>oneR (v i)) wp wv' ws w' ha).mono fun e w'' h=>fly_post wp wv ws (show n≤4096 by omega) h
 have HMD:=hZ hM;have HWM:=hZ wm;clear hPQ hM wm hA wv wv';obtain ⟨⟨mul,muh⟩,⟨rl,rh⟩,⟨ol,oh⟩,⟨sl,sh⟩,⟨⟨pxl,pxh⟩,⟨pyl,pyh⟩,⟨pzl,pzh⟩⟩⟩:=p;obtain ⟨st,⟨⟨saxl,saxh⟩,⟨sayl,sayh⟩,⟨sazl,sazh⟩⟩,⟨⟨sbxl,sbxh⟩,⟨sbyl,sbyh⟩,⟨sbzl,sbzh⟩⟩,⟨sml,smh⟩⟩:=s;have HWP:=hZ wp;clear wp ws;unfold tripA planetV stA stateV at HBR ⊢;unfold planetV stateV at HFY;dsimp only [Value.cells] at HBR HFY ⊢;simp only [List.append_toArray,List.cons_append,List.nil_append] at HBR HFY ⊢;replace HBR:=hZ HBR;replace HFY:=hZ HFY;obtain ⟨qb,W0,hqb,hW0,HF0⟩:=fM (Fr.start w) [(#[.int .i64 mul,.int .i64 muh,.int .i64 rl,.int .i64 rh,.int .i64 ol,.int .i64 oh,.int .i64 sl,.int .i64 sh,.int .i64 pxl,.int .i64 pxh,.int .i64 pyl,.int .i64 pyh,.int .i64 pzl,.int .i64 pzh,.slice A n c,.int .i64 st,.int .i64 saxl,.int .i64 saxh,.int .i64 sayl,.int .i64 sayh,.int .i64 sazl,.int .i64 sazh,.int .i64 sbxl,.int .i64 sbxh,.int .i64 sbyl,.int .i64 sbyh,.int .i64 sbzl,.int .i64 sbzh,.int .i64 sml,.int .i64 smh],72)];go_enter Tryz.func4,Tryz.ntmps4;go_upto_region 1 with (fail);clear hW0 hqb;go_wp2_with (refine lF (gN HF0 0) #[.int .i64 mul,.int .i64 muh,.int .i64 rl,.int .i64 rh,.int .i64 ol,.int .i64 oh,.int .i64 sl,.int .i64 sh,.int .i64 pxl,.int .i64 pxh,.int .i64 pyl,.int .i64 pyh,.int .i64 pzl,.int .i64 pzh,.slice A n c,.int .i64 st,.int .i64 saxl,.int .i64 saxh,.int .i64 sayl,.int .i64 sayh,.int .i64 sazl,.int .i64 sazh,.int .i64 sbxl,.int .i64 sbxh,.int .i64 sbyl,.int .i64 sbyh,.int .i64 sbzl,.int .i64 sbzh,.int .i64 sml,.int .i64 smh] u_72 i_72 ?_)
 refine (HBR.out _ HF0.out.drop.toBelow).mono ?_
 rintro e w30 (⟨u,hu1,rfl,hw⟩ | ⟨A9,c9,cur,rfl,h4,hl,hw⟩)
 ·
  have HF31:Hid (Fr w [] [(qb,72,#[.int .i64 mul,.int .i64 muh,.int .i64 rl,.int .i64 rh,.int .i64 ol,.int .i64 oh,.int .i64 sl,.int .i64 sh,.int .i64 pxl,.int .i64 pxh,.int .i64 pyl,.int .i64 pyh,.int .i64 pzl,.int .i64 pzh,.slice A n c,.int .i64 st,.int .i64 saxl,.int .i64 saxh,.int .i64 sayl,.int .i64 sayh,.int .i64 sazl,.int .i64 sazh,.int .i64 sbxl,.int .i64 sbxh,.int .i64 sbyl,.int .i64 sbyh,.int .i64 sbzl,.int .i64 sbzh,.int .i64 sml,.int .i64 smh])] w30):=hZ (HF0.out.below hw);clear hw;go_wp2_with (refine wpStoreF rfl rfl 72 _ _ rfl qb 0 rfl #[.int .i64 mul,.int .i64 muh,.int .i64 rl,.int .i64 rh,.int .i64 ol,.int .i64 oh,.int .i64 sl,.int .i64 sh,.int .i64 pxl,.int .i64 pxh,.int .i64 pyl,.int .i64 pyh,.int .i64 pzl,.int .i64 pzh,u,.int .i64 st,.int .i64 saxl,.int .i64 saxh,.int .i64 sayl,.int .i64 sayh,.int .i64 sazl,.int .i64 sazh,.int .i64 sbxl,.int .i64 sbxh,.int .i64 sbyl,.int .i64 sbyh,.int .i64 sbzl,.int .i64 sbzh,.int .i64 sml,.int .i64 smh] rfl _ _ #[.int .i64 mul,.int .i64 muh,.int .i64 rl,.int .i64 rh,.int .i64 ol,.int .i64 oh,.int .i64 sl,.int .i64 sh,.int .i64 pxl,.int .i64 pxh,.int .i64 pyl,.int .i64 pyh,.int .i64 pzl,.int .i64 pzh,u,.int .i64 st,.int .i64 saxl,.int .i64 saxh,.int .i64 sayl,.int .i64 sayh,.int .i64 sazl,.int .i64 sazh,.int .i64 sbxl,.int .i64 sbxh,.int .i64 sbyl,.int .i64 sbyh,.int .i64 sbzl,.int .i64 sbzh,.int .i64 sml,.int .i64 smh] (HF31.out.get 0 rfl) rfl (by show 0+30≤30;omega) (one_all (by simp only [List.all_cons,List.all_nil,hu1];rfl)) i_72 ?_;intro w32 hk ho;have HF33:Hid (Fr w [] [(qb,72,#[.int .i64 mul,.int .i64 muh,.int .i64 rl,.int .i64 rh,.int .i64 ol,.int .i64 oh,.int .i64 sl,.int .i64 sh,.int .i64 pxl,.int .i64 pxh,.int .i64 pyl,.int .i64 pyh,.int .i64 pzl,.int .i64 pzh,u,.int .i64 st,.int .i64 saxl,.int .i64 saxh,.int .i64 sayl,.int .i64 sayh,.int .i64 sazl,.int .i64 sazh,.int .i64 sbxl,.int .i64 sbxh,.int .i64 sbyl,.int .i64 sbyh,.int .i64 sbzl,.int .i64 sbzh,.int .i64 sml,.int .i64 smh])] w32):=hZ (HF31.out.only 0 rfl ho hk);clear ho hk)
  refine mB HF33.out (HAW.out _) fun w90 HF90=>?_;go_wp2_with fail
  exact HFIN.out _ HF90.out.drop
 ·
  have HF61:Hid (Fr w [] ([(qb,72,#[.int .i64 mul,.int .i64 muh,.int .i64 rl,.int .i64 rh,.int .i64 ol,.int .i64 oh,.int .i64 sl,.int .i64 sh,.int .i64 pxl,.int .i64 pxh,.int .i64 pyl,.int .i64 pyh,.int .i64 pzl,.int .i64 pzh,.slice A n c,.int .i64 st,.int .i64 saxl,.int .i64 saxh,.int .i64 sayl,.int .i64 sayh,.int .i64 sazl,.int .i64 sazh,.int .i64 sbxl,.int .i64 sbxh,.int .i64 sbyl,.int .i64 sbyh,.int .i64 sbzl,.int .i64 sbzh,.int .i64 sml,.int .i64 smh])] ++ lstE 46 (.slice A9 n c9) cur) w30):=hZ (HF0.out.more hw);have HLS:=hZ hl;have H4:=hZ h4;clear hw hl;go_wp2_with (refine wpStoreF rfl rfl 72 _ _ rfl qb 0 rfl #[.int .i64 mul,.int .i64 muh,.int .i64 rl,.int .i64 rh,.int .i64 ol,.int .i64 oh,.int .i64 sl,.int .i64 sh,.int .i64 pxl,.int .i64 pxh,.int .i64 pyl,.int .i64 pyh,.int .i64 pzl,.int .i64 pzh,.slice A9 n c9,.int .i64 st,.int .i64 saxl,.int .i64 saxh,.int .i64 sayl,.int .i64 sayh,.int .i64 sazl,.int .i64 sazh,.int .i64 sbxl,.int .i64 sbxh,.int .i64 sbyl,.int .i64 sbyh,.int .i64 sbzl,.int .i64 sbzh,.int .i64 sml,.int .i64 smh] rfl _ _ #[.int .i64 mul,.int .i64 muh,.int .i64 rl,.int .i64 rh,.int .i64 ol,.int .i64 oh,.int .i64 sl,.int .i64 sh,.int .i64 pxl,.int .i64 pxh,.int .i64 pyl,.int .i64 pyh,.int .i64 pzl,.int .i64 pzh,.slice A9 n c9,.int .i64 st,.int .i64 saxl,.int .i64 saxh,.int .i64 sayl,.int .i64 sayh,.int .i64 sazl,.int .i64 sazh,.int .i64 sbxl,.int .i64 sbxh,.int .i64 sbyl,.int .i64 sbyh,.int .i64 sbzl,.int .i64 sbzh,.int .i64 sml,.int .i64 smh] (HF61.out.get 0 rfl) rfl (by show 0+30≤30;omega) (one_all rfl) i_72 ?_;intro w62 hk ho;have HF63:=fNT (HF61.out.only 0 rfl ho hk);clear ho hk)
  have HB5:=hZ HF63.out.toBelow;have HAR:=hZ (HAA.out H4.out A9 c9 cur _ HLS.out (HF63.out.sub (List.sublist_append_right _ _)));have HF0:=hZ (HF63.out.sub (List.sublist_append_left _ _));refine (HLG.out _ HB5.out).mono ?_
  rintro e w70 ⟨lb,rfl,hw⟩;have HF71:Hid (Fr w [] [(qb,72,#[.int .i64 mul,.int .i64 muh,.int .i64 rl,.int .i64 rh,.int .i64 ol,.int .i64 oh,.int .i64 sl,.int .i64 sh,.int .i64 pxl,.int .i64 pxh,.int .i64 pyl,.int .i64 pyh,.int .i64 pzl,.int .i64 pzh,.slice A9 n c9,.int .i64 st,.int .i64 saxl,.int .i64 saxh,.int .i64 sayl,.int .i64 sayh,.int .i64 sazl,.int .i64 sazh,.int .i64 sbxl,.int .i64 sbxh,.int .i64 sbyl,.int .i64 sbyh,.int .i64 sbzl,.int .i64 sbzh,.int .i64 sml,.int .i64 smh])] w70):=hZ (HF0.out.below hw);have HAR7:=hZ (HAR.out.to hw);clear hw;cases lb with
  | true =>
   go_wp2_with fail
   refine mB HF71.out (HAW.out _) fun w90 HF90=>?_;go_wp2_with fail
   exact HFIN.out _ HF90.out.drop
  | false =>
   by_cases hnm3:3<nm
   ·have hi3:(3:Int)<(nm:Int):=by omega
    go_wp2_with fail
    refine mB HF71.out (HAW.out _) fun w90 HF90=>?_;go_wp2_with fail
    exact HFIN.out _ HF90.out.drop
   have hi3:¬ (3:Int)<(nm:Int):=by omega
   have HN3:=hZ hnm3;clear hnm3;have c72:=cA (gN HF71 0) 14;go_wp2_with (first
     | (refine lF (gN HF71 0) #[mul,muh,rl,rh,ol,oh,sl,sh,pxl,pxh,pyl,pyh,pzl,pzh] u_36 i_36 ?_)
     | (refine lF (gN HF71 0) #[st,saxl,saxh,sayl,sayh,sazl,sazh,sbxl,sbxh,sbyl,sbyh,sbzl,sbzh,sml,smh] u_38 i_38 ?_))
   clear c72;refine (HFY.out H4.out A9 c9 _ HAR7.out).mono ?_
   rintro e w80 (⟨r,hr,rfl,hw⟩ | ⟨us,q,c8,rfl,hw⟩ | ⟨h1n,gs,sc,gt,tc,cs,ct,y,z,tb,rfl,hfk,hy0,hys,htb,hst,hseg,htc1,htc2,hw⟩)
   ·
    have hrb:(r != 0)=true:=by simpa using hr
    have HR:=hZ hr;clear hr;have HF81:Hid (Fr w [] [(qb,72,#[.int .i64 mul,.int .i64 muh,.int .i64 rl,.int .i64 rh,.int .i64 ol,.int .i64 oh,.int .i64 sl,.int .i64 sh,.int .i64 pxl,.int .i64 pxh,.int .i64 pyl,.int .i64 pyh,.int .i64 pzl,.int .i64 pzh,.slice A9 n c9,.int .i64 st,.int .i64 saxl,.int .i64 saxh,.int .i64 sayl,.int .i64 sayh,.int .i64 sazl,.int .i64 sazh,.int .i64 sbxl,.int .i64 sbxh,.int .i64 sbyl,.int .i64 sbyh,.int .i64 sbzl,.int .i64 sbzh,.int .i64 sml,.int .i64 smh])] w80):=hZ (HF71.out.below hw);clear hw;go_wp2_with fail
    refine mB HF81.out (HAW.out _) fun w90 HF90=>?_;go_wp2_with fail
    exact HFIN.out _ HF90.out.drop
   ·
    have HF81:Hid (Fr w [] [(qb,72,#[.int .i64 mul,.int .i64 muh,.int .i64 rl,.int .i64 rh,.int .i64 ol,.int .i64 oh,.int .i64 sl,.int .i64 sh,.int .i64 pxl,.int .i64 pxh,.int .i64 pyl,.int .i64 pyh,.int .i64 pzl,.int .i64 pzh,.slice A9 n c9,.int .i64 st,.int .i64 saxl,.int .i64 saxh,.int .i64 sayl,.int .i64 sayh,.int .i64 sazl,.int .i64 sazh,.int .i64 sbxl,.int .i64 sbxh,.int .i64 sbyl,.int .i64 sbyh,.int .i64 sbzl,.int .i64 sbzh,.int .i64 sml,.int .i64 smh])] w80):=hZ (HF71.out.below hw);clear hw;go_wp2_with fail
    refine mB HF81.out (HAW.out _) fun w90 HF90=>?_;go_wp2_with fail
    exact HFIN.out _ HF90.out.drop
   ·
    have HF81:Hid (Fr w [] [(qb,72,#[.int .i64 mul,.int .i64 muh,.int .i64 rl,.int .i64 rh,.int .i64 ol,.int .i64 oh,.int .i64 sl,.int .i64 sh,.int .i64 pxl,.int .i64 pxh,.int .i64 pyl,.int .i64 pyh,.int .i64 pzl,.int .i64 pzh,.slice A9 n c9,.int .i64 st,.int .i64 saxl,.int .i64 saxh,.int .i64 sayl,.int .i64 sayh,.int .i64 sazl,.int .i64 sazh,.int .i64 sbxl,.int .i64 sbxh,.int .i64 sbyl,.int .i64 sbyh,.int .i64 sbzl,.int .i64 sbzh,.int .i64 sml,.int .i64 smh])] w80):=hZ (HF71.out.below hw);have hn0:((n:Int) == 0)=false:=by simp;omega
    have hn1:¬ (n:Int)=0:=by omega
    have hn2:¬ n=0:=by omega
    have HX:=hZ (And.intro hfk (And.intro hy0 (And.intro hys (And.intro htb (And.intro hst (And.intro hseg (And.intro htc1 htc2)))))));have H1N:=hZ h1n;clear hfk hy0 hys htb hst hseg htc1 htc2 hw h1n;go_upto_region 5 with (fail);rename_i K1 hk1 K0 hk0
    have HK1:=hZ hk1;clear hk1;go_wp2_with fail
    refine HK1.out _ _ ?_
    exact aborts_ready H1N.out (by have:=H4.out;omega) (by have:=HN3.out;omega) HWP.out HWM.out HX.out.1 HX.out.2.1 HX.out.2.2.1 HX.out.2.2.2.2.2.2.1 HX.out.2.2.2.2.2.2.2 HFIN HF81 ⟨HX.out.2.2.2.1,HX.out.2.2.2.2.1,HX.out.2.2.2.2.2.1,(HMD.out (by have:=HN3.out;omega)).to HF81.out.toBelow⟩
end Go.Proofs.YtmkoegljnebdiaaGreat
namespace Go.Proofs.YtmkoegljnebdiaaGreat
open Go.ChangeShapes Go.WideShapes Go.ChangeAt Go.RowKit
set_option maxRecDepth 100000
set_option maxHeartbeats 16000000

section
variable {H:Type} {enc:TypeId × Value→H} {P:Program} {w:World} {t e:TypeId} {cs:List Value}
def Rd (enc:TypeId × Value→H) (P:Program) (w:World) (t:TypeId) (cs:List Value):Prop:=∃ fuel x,DataW.trod enc P w 0 (fun _=>true) true fuel t cs=some x
theorem Rd.of_trod {v:Value} {d:DataW H} {ps:List MemPlace} (h:DataW.Trod enc P w 0 (fun _=>true) true t v d ps):Rd enc P w t v.cells.toList:=by
 obtain ⟨n,hn⟩:=h;exact ⟨n,_,hn⟩
theorem Rd.int {k:IntKind} (h:Rd enc P w t cs) (ht:P.underlying t=some (.int k)):∃ n,cs=[.int k n]∧(Lit.int k n).wf=true:=by
 obtain ⟨fuel,x,h⟩:=h;cases fuel with
 | zero=>simp [DataW.trod] at h
 | succ m =>
  unfold DataW.trod at h;rw [ht] at h;split at h <;> simp_all
theorem Rd.bool (h:Rd enc P w t cs) (ht:P.underlying t=some .bool):∃ b,cs=[.bool b]:=by
 obtain ⟨fuel,x,h⟩:=h;cases fuel with
 | zero=>simp [DataW.trod] at h
 | succ m =>
  unfold DataW.trod at h;rw [ht] at h;split at h <;> simp_all
theorem Rd.string (h:Rd enc P w t cs) (ht:P.underlying t=some .string):∃ s,cs=[.string s]∧s.size≤maxLen:=by
 obtain ⟨fuel,x,h⟩:=h;cases fuel with
 | zero=>simp [DataW.trod] at h
 | succ m =>
  unfold DataW.trod at h;rw [ht] at h;split at h <;> simp_all
theorem Rd.struct {fs:Array Field} (h:Rd enc P w t cs) (ht:P.underlying t=some (.struct fs)):cs.length=P.cellsOf t∧∀ f ∈ fs.toList,Rd enc P w f.type ((cs.drop f.offset).take (P.cellsOf f.type)):=by
 obtain ⟨fuel,x,h⟩:=h;cases fuel with
 | zero=>simp [DataW.trod] at h
 | succ m =>
  unfold DataW.trod at h;rw [ht] at h;split at h <;> simp_all
  obtain ⟨hl,xs,hp,_⟩:=h;refine fun f hf=>?_
  obtain ⟨i,hi⟩:=List.getElem?_of_mem (Array.mem_toList_iff.2 hf);have hg:=mapM_some_get hp i f hi;have hlen:=mapM_some_length hp;have:i<xs.length:=by rw [hlen];exact (List.getElem?_eq_some_iff.1 hi).1
  exact ⟨m,xs[i],by rw [hg];exact List.getElem?_eq_getElem this⟩
theorem Rd.fields {fs:Array Field} {l:List (TypeId × Nat)} (h:Rd enc P w t cs) (ht:P.underlying t=some (.struct fs)) (hl:fs.toList.map (fun f=>(f.type,f.offset))=l) :
  cs.length=P.cellsOf t∧∀ q ∈ l,Rd enc P w q.1 ((cs.drop q.2).take (P.cellsOf q.1)):=by
 obtain ⟨h1,h2⟩:=h.struct ht;refine ⟨h1,fun q hq=>?_⟩
 rw [← hl] at hq;obtain ⟨f,hf,rfl⟩:=List.mem_map.1 hq;exact h2 f hf
theorem Rd.array {n:Nat} (h:Rd enc P w t cs) (ht:P.underlying t=some (.array n e)):cs.length=P.cellsOf t∧∀ i,i<n→Rd enc P w e ((cs.drop (i * P.cellsOf e)).take (P.cellsOf e)):=by
 obtain ⟨fuel,x,h⟩:=h;obtain ⟨xs,m,_,_,h1,h2,h3⟩:=DataW.trod_array ht h;refine ⟨h1,fun i hi=>?_⟩
 exact ⟨m,xs[i]'(by omega),by rw [h3 i hi];exact List.getElem?_eq_getElem _⟩
theorem cells_get {base n:Nat} {a:Addr} {l:List Value} (h:w.cells? base a n=some l):l.length=n∧∀ j,j<n→w.cell? (a.add j)=l[j]?:=by
 unfold World.cells? at h;split at h
 ·exact ⟨by simpa using mapM_some_length h,fun j hj=>mapM_some_get h j j (by simp [hj])⟩
 ·cases h
theorem Rd.slice (h:Rd enc P w t cs) (ht:P.underlying t=some (.slice e)) :
  cs=[.slice none 0 0] ∨ ∃ a len cap,cs=[.slice (some a) len cap]∧len≤maxLen∧∀ i,i<len→∃ l,w.cells? 0 (a.add (i * P.cellsOf e)) (P.cellsOf e)=some l∧Rd enc P w e l:=by
 obtain ⟨fuel,x,h⟩:=h;cases fuel with
 | zero=>simp [DataW.trod] at h
 | succ m =>
  unfold DataW.trod at h;rw [ht] at h;split at h <;> simp_all
  rename_i a len cap _
  obtain ⟨⟨h1,h2⟩,h3⟩:=h;refine ⟨a,len,⟨rfl,rfl⟩,by omega,fun i hi=>?_⟩
  obtain ⟨elems,he,_⟩:=Option.bind_eq_some_iff.1 h3;have hg:=mapM_some_get he i i (by simp [hi])
  have hlen:=mapM_some_length he;have hi2:i<elems.length:=by rw [hlen];simpa using hi
  rw [List.getElem?_eq_getElem hi2] at hg;obtain ⟨l,hl,hr⟩:=Option.bind_eq_some_iff.1 hg;exact ⟨l,hl,m,_,hr⟩
theorem Rd.list {Y:Type} (C:Y→Nat→Value) (Q:Y→Prop) (y0:Y) {k:Nat} (h:Rd enc P w t cs) (ht:P.underlying t=some (.slice e)) (hk:P.cellsOf e=k) (hk0:0<k)
  (hrow:∀ l,l.length=k→Rd enc P w e l→∃ y,Q y∧∀ j,j<k→l[j]?=some (C y j)) :
  ∃ (A:Option Addr) (c:Nat) (l:List Y),cs=[.slice A l.length c]∧(∀ y ∈ l,Q y)∧Sl w w.heap.size k A l.length fun i=>C (l.getD i y0):=by
 rcases h.slice ht with rfl | ⟨a,len,cap,rfl,hm,hi⟩
 ·exact ⟨none,0,[],rfl,fun y hy=>by simp at hy,Sl.nil _ _ _ _ _⟩
 ·rw [hk] at hi;have hex:∀ i,∃ y,i<len→Q y∧∀ j,j<k→w.cell? ((a.add (i * k)).add j)=some (C y j):=fun i=>by
   by_cases hlt:i<len
   ·obtain ⟨l,hl,hr⟩:=hi i hlt;obtain ⟨h1,h2⟩:=cells_get hl;obtain ⟨y,hq,hy⟩:=hrow l h1 hr;exact ⟨y,fun _=>⟨hq,fun j hj=>(h2 j hj).trans (hy j hj)⟩⟩
   ·exact ⟨y0,fun h=>absurd h hlt⟩
  obtain ⟨f,hf⟩:=Classical.axiomOfChoice hex;have hlen:((List.range len).map f).length=len:=by simp
  have hget:∀ i,i<len→((List.range len).map f).getD i y0=f i:=fun i hlt=>by simp [hlt]
  refine ⟨some a,cap,(List.range len).map f,by rw [hlen],fun y hy=>?_,?_,fun h0=>?_⟩
  ·obtain ⟨i,h1,rfl⟩:=List.mem_map.1 hy;exact (hf i (by simpa using h1)).1
  ·rw [hlen];unfold maxLen at hm;omega
  ·rw [hlen] at h0;have h1:=(hf 0 h0).2 0 hk0;simp only [Nat.zero_mul,Addr.add] at h1;obtain ⟨b,off,sp⟩:=a;have hsp:sp=none:=by
    cases sp with
    | none=>rfl
    | some s=>simp [World.cell?] at h1;split at h1 <;> cases h1
   subst hsp;refine ⟨b,off,rfl,World.block_lt_of_cell? w _ h1,fun i hi2 j hj=>?_⟩
   rw [hlen] at hi2;show w.cell? _=some (C (((List.range len).map f).getD i y0) j)
   rw [hget i hi2];have:=(hf i hi2).2 j hj
   rwa [Addr.add_lit,Addr.add_lit] at this
theorem i64_bd {n:Int} (h:(Lit.int .i64 n).wf=true):-9223372036854775808≤n∧n≤9223372036854775807:=by
 simpa [Lit.wf,IntKind.min,IntKind.max,IntKind.signed,IntKind.bits] using h

/-! The last step. -/
theorem trodAll_stays (hl:laidOutB P=true) {W W':World} {base:Nat} {sp:Nat→Bool}:∀ (ts:List TypeId) {vs:List Value} {ds:List (DataW H)} {ps:List MemPlace},(∀ t ∈ ts,P.readableRec t=true∧t<P.types.size) →
  DataW.TrodAll enc P W base (fun _=>true) true ts vs ds ps→(∀ p ∈ ps,W.sameAt W' p)→(∀ p ∈ ps,sp p.block=true)→DataW.TrodAll enc P W' base sp true ts vs ds ps
 | [],vs,ds,ps,_,h,_,_=>by
  cases vs <;> cases ds <;> simp_all [DataW.TrodAll]
 | t :: ts,vs,ds,ps,ht,h,hs,hsp=>by
  obtain ⟨v,vs',d,ds',p,q,rfl,rfl,rfl,h1,h2⟩:=trodAll_cons h;exact trodAll_cons_mk (WideElems.Trod_stays hl (ht t (List.mem_cons_self ..)).1 (ht t (List.mem_cons_self ..)).2 h1 (fun x hx=>hs x (List.mem_append_left _ hx)) (fun x hx=>hsp x (List.mem_append_left _ hx)))
   (trodAll_stays hl ts (fun t' h'=>ht t' (List.mem_cons_of_mem _ h')) h2 (fun x hx=>hs x (List.mem_append_right _ hx)) (fun x hx=>hsp x (List.mem_append_right _ hx)))
theorem law_post {f:Func} {s:ChangeSpec} {bt:TypeId} {W W':World} {args:Array Value} {ds gs:List (DataW H)} {before:List MemPlace}
  (hl:laidOutB P=true) (hps:∀ t ∈ f.params.toList,P.readableRec t=true∧t<P.types.size) (hrt:f.resultTypes=#[bt]) (hbt:P.underlying bt=some .bool) (hv:s.vars=[])
  (hW:DataW.Whole enc P f.params.toList s.vars false W args.toList ds gs before) (hres:(s.fn H (ds ++ gs)).results=[.lit (.bool true)]) (hargs:(s.fn H (ds ++ gs)).args=ds) (hvars:(s.fn H (ds ++ gs)).vars=[])
  (hb:Below W.heap.size W W'):s.post enc P f false true false false W args (.bool true) W':=by
 have hW':=hW;have hlt:∀ p ∈ before,p.block<W.heap.size:=fun p hp=>hW.lt p hp;have hold:∀ p ∈ before,(fun b=>decide (b<W.heap.size)) p.block=true:=fun p hp=>by simpa using hlt p hp
 obtain ⟨p,q,hA,hV,rfl,hz,hn⟩:=hW;rw [hv] at hV;obtain ⟨rfl,rfl⟩:=trodVars_none hV;have hr:∀ (b:Nat) (sp:Nat→Bool) (hd:Bool),DataW.TrodAll enc P W' b sp hd f.resultTypes.toList ((Value.bool true).resultList f.resultTypes.size) (s.fn H (ds ++ [])).results []:=fun b sp hd=>by
  rw [hrt,hres];exact trodAll_mk1 (shut_bool hbt _)
 have ha:∀ sp:Nat→Bool,(∀ x ∈ p,sp x.block=true)→DataW.TrodAll enc P W' 0 sp true f.params.toList args.toList (s.fn H (ds ++ [])).args p:=fun sp hsp=>by
  rw [hargs];exact trodAll_stays hl _ hps hA (fun x hx=>hb.same (hlt x (List.mem_append_left _ hx))) hsp
 have hvs:∀ sp:Nat→Bool,DataW.TrodVars enc P W' sp s.vars (s.fn H (ds ++ [])).vars []:=fun sp=>by rw [hv,hvars];rfl
 refine ⟨ds,[],p ++ [],[],p,[],hW',hr _ _ _,ha _ (fun x hx=>hold x (List.mem_append_left _ hx)),hvs _,World.keptBut_mono (fun x hx=>⟨hx,?_⟩) (hb.frame (· ∈ p ++ [])),fun _=>?_⟩
 ·exact Or.inr (List.mem_append.1 hx)
 ·refine ⟨?_,_,_,([] ++ p) ++ [],⟨[] ++ p,[],trodAll_append (ha _ (fun _ _=>rfl)) (hr _ _ _),hvs _,rfl,?_,?_⟩,?_⟩
  ·exact ok_one hrt rfl (okWide_bool_mk hbt _)
  ·intro b off hp;have hin:MemPlace.cell b off ∈ p ++ []:=by simpa using hp
   rw [hb.frozen (hlt _ hin)];exact hz b off hin
  ·intro ha;cases ha
  ·intro x hx _;simpa using hx
end

theorem ownKnobL:ownKnob Tryz.prog.godebug=none:=by kernel_rfl
def structOf (P:Program) (t:TypeId):Array Field:=match P.underlying t with | some (.struct f)=>f | _=>#[]
theorem okWide_str {P:Program} {w:World} {base:Nat} {t:TypeId} {v:Value} {fs:Array Field} (hu:P.underlying t=some (.struct fs)) (h:Value.okWide P w .any base t v):∃ cs,v=.agg cs:=by
 simp only [Value.okWide,hu] at h;obtain ⟨cs,rfl,_⟩:=h;exact ⟨cs,rfl⟩
theorem okWide_sl {P:Program} {w:World} {base:Nat} {t e:TypeId} {v:Value} (hu:P.underlying t=some (.slice e)) (h:Value.okWide P w .any base t v) (u:Value) (hc:v.cells.toList=[u]):v=u:=by
 simp only [Value.okWide,hu,Cell.okWide] at h;cases v <;> simp [Value.cells] at hc <;> first | exact hc | (simp [Cell.ok,hu] at h)
theorem okWide_int {P:Program} {w:World} {base:Nat} {t:TypeId} {v:Value} {k:IntKind} (hu:P.underlying t=some (.int k)) (h:Value.okWide P w .any base t v) (u:Value) (hc:v.cells.toList=[u]):v=u:=by
 simp only [Value.okWide,hu,Cell.okWide] at h;cases v <;> simp [Value.cells] at hc <;> first | exact hc | (simp [Cell.ok,hu] at h)
theorem piece {L l:List Value} {a b c:Nat} (h:(L.drop a).take b=l) (hc:a+b=c):L.drop a=l ++ L.drop c:=by
 rw [← h,← hc,← List.drop_drop,List.take_append_drop]
theorem toList_getD {a:Array Value} {j:Nat} (h:j<a.size):a.toList[j]?=some (a.getD j undef):=by
 rw [Array.getElem?_toList,Array.getElem?_eq_getElem h];simp [Array.getD,h]
section
variable {H:Type} {enc:TypeId × Value→H} {w:World} {L:List Value} {base:Nat} {v:Value}
theorem rd_num (h:Rd enc Tryz.prog w 29 L):∃ n:Int,I64 n∧L=[.int .i64 n]:=by
 obtain ⟨n,e,hw⟩:=h.int (show Tryz.prog.underlying 29=some (.int .i64) by kernel_rfl)
 exact ⟨n,i64_bd hw,e⟩
theorem rd_int (h:Rd enc Tryz.prog w 3 L):∃ n:Int,I64 n∧L=[.int .i64 n]:=by
 obtain ⟨n,e,hw⟩:=h.int (show Tryz.prog.underlying 3=some (.int .i64) by kernel_rfl)
 exact ⟨n,i64_bd hw,e⟩
def spL (a:SpanD):List Value:=[.int .i64 a.lo,.int .i64 a.hi]
def bxL (b:BoxD):List Value:=spL b.x ++ (spL b.y ++ spL b.z)
theorem rd_span (h:Rd enc Tryz.prog w 31 L):∃ a:SpanD,WdS a∧L=spL a:=by
 obtain ⟨hl,h2⟩:=h.fields (l:=[(29,0),(29,1)]) (show Tryz.prog.underlying 31=some (.struct (structOf Tryz.prog 31)) by kernel_rfl) (by kernel_rfl)
 rw [show Tryz.prog.cellsOf 31=2 from by kernel_rfl] at hl
 have g0:=h2 (29,0) (by simp)
 rw [show Tryz.prog.cellsOf 29=1 from by kernel_rfl] at g0
 obtain ⟨x0,w0,e0⟩:=rd_num g0;have d0:=piece e0 (c:=1) rfl;have g1:=h2 (29,1) (by simp)
 rw [show Tryz.prog.cellsOf 29=1 from by kernel_rfl] at g1
 obtain ⟨x1,w1,e1⟩:=rd_num g1;have d1:=piece e1 (c:=2) rfl;have de:L.drop 2=[]:=List.drop_eq_nil_of_le (by omega)
 rw [de] at d1;rw [d1] at d0;rw [List.drop_zero] at d0;exact ⟨⟨x0,x1⟩,⟨w0,w1⟩,d0⟩
theorem rd_box (h:Rd enc Tryz.prog w 34 L):∃ b:BoxD,WdB b∧L=bxL b:=by
 obtain ⟨hl,h2⟩:=h.array (n:=3) (e:=31) (by kernel_rfl)
 rw [show Tryz.prog.cellsOf 34=6 from by kernel_rfl] at hl
 rw [show Tryz.prog.cellsOf 31=2 from by kernel_rfl] at h2
 obtain ⟨x0,w0,e0⟩:=rd_span (h2 0 (by omega))
 obtain ⟨x1,w1,e1⟩:=rd_span (h2 1 (by omega))
 obtain ⟨x2,w2,e2⟩:=rd_span (h2 2 (by omega))
 have d0:=piece e0 (c:=2) rfl;have d1:=piece (a:=2) e1 (c:=4) rfl;have d2:=piece (a:=4) e2 (c:=6) rfl;have de:L.drop 6=[]:=List.drop_eq_nil_of_le (by omega)
 rw [de] at d2;rw [d2] at d1;rw [show 0 * 2=0 from rfl,d1,List.drop_zero] at d0
 exact ⟨⟨x0,x1,x2⟩,⟨w0,w1,w2⟩,by rw [d0,List.append_nil];rfl⟩
theorem rd_planet (h:Rd enc Tryz.prog w 36 L):∃ p:PlanetD,WdP p∧L=(planetV p).cells.toList:=by
 obtain ⟨hl,h2⟩:=h.fields (l:=[(31,0),(31,2),(31,4),(31,6),(34,8)]) (show Tryz.prog.underlying 36=some (.struct (structOf Tryz.prog 36)) by kernel_rfl) (by kernel_rfl)
 rw [show Tryz.prog.cellsOf 36=14 from by kernel_rfl] at hl
 have g0:=h2 (31,0) (by simp)
 rw [show Tryz.prog.cellsOf 31=2 from by kernel_rfl] at g0
 obtain ⟨x0,w0,e0⟩:=rd_span g0;have d0:=piece e0 (c:=2) rfl;have g1:=h2 (31,2) (by simp)
 rw [show Tryz.prog.cellsOf 31=2 from by kernel_rfl] at g1
 obtain ⟨x1,w1,e1⟩:=rd_span g1;have d1:=piece e1 (c:=4) rfl;have g2:=h2 (31,4) (by simp)
 rw [show Tryz.prog.cellsOf 31=2 from by kernel_rfl] at g2
 obtain ⟨x2,w2,e2⟩:=rd_span g2;have d2:=piece e2 (c:=6) rfl;have g3:=h2 (31,6) (by simp)
 rw [show Tryz.prog.cellsOf 31=2 from by kernel_rfl] at g3
 obtain ⟨x3,w3,e3⟩:=rd_span g3;have d3:=piece e3 (c:=8) rfl;have g4:=h2 (34,8) (by simp)
 rw [show Tryz.prog.cellsOf 34=6 from by kernel_rfl] at g4
 obtain ⟨x4,w4,e4⟩:=rd_box g4;have d4:=piece e4 (c:=14) rfl;have de:L.drop 14=[]:=List.drop_eq_nil_of_le (by omega)
 rw [de] at d4;rw [d4] at d3;rw [d3] at d2;rw [d2] at d1;rw [d1] at d0;rw [List.drop_zero] at d0;exact ⟨⟨x0,x1,x2,x3,x4⟩,⟨w0,w1,w2,w3,w4⟩,d0⟩
theorem rd_state (h:Rd enc Tryz.prog w 38 L):∃ s:StateD,I64W s∧L=(stA s).toList:=by
 obtain ⟨hl,h2⟩:=h.fields (l:=[(29,0),(34,1),(34,7),(31,13)]) (show Tryz.prog.underlying 38=some (.struct (structOf Tryz.prog 38)) by kernel_rfl) (by kernel_rfl)
 rw [show Tryz.prog.cellsOf 38=15 from by kernel_rfl] at hl
 have g0:=h2 (29,0) (by simp)
 rw [show Tryz.prog.cellsOf 29=1 from by kernel_rfl] at g0
 obtain ⟨x0,w0,e0⟩:=rd_num g0;have d0:=piece e0 (c:=1) rfl;have g1:=h2 (34,1) (by simp)
 rw [show Tryz.prog.cellsOf 34=6 from by kernel_rfl] at g1
 obtain ⟨x1,w1,e1⟩:=rd_box g1;have d1:=piece e1 (c:=7) rfl;have g2:=h2 (34,7) (by simp)
 rw [show Tryz.prog.cellsOf 34=6 from by kernel_rfl] at g2
 obtain ⟨x2,w2,e2⟩:=rd_box g2;have d2:=piece e2 (c:=13) rfl;have g3:=h2 (31,13) (by simp)
 rw [show Tryz.prog.cellsOf 31=2 from by kernel_rfl] at g3
 obtain ⟨x3,w3,e3⟩:=rd_span g3;have d3:=piece e3 (c:=15) rfl;have de:L.drop 15=[]:=List.drop_eq_nil_of_le (by omega)
 rw [de] at d3;rw [d3] at d2;rw [d2] at d1;rw [d1] at d0;rw [List.drop_zero] at d0;exact ⟨⟨x0,x1,x2,x3⟩,⟨w0,w1,w2,w3⟩,d0⟩
theorem rd_point (h:Rd enc Tryz.prog w 237 L):∃ q:PointD,WdS q.value∧L=.int .i64 q.at_ :: spL q.value:=by
 obtain ⟨hl,h2⟩:=h.fields (l:=[(29,0),(31,1)]) (show Tryz.prog.underlying 237=some (.struct (structOf Tryz.prog 237)) by kernel_rfl) (by kernel_rfl)
 rw [show Tryz.prog.cellsOf 237=3 from by kernel_rfl] at hl
 have g0:=h2 (29,0) (by simp)
 rw [show Tryz.prog.cellsOf 29=1 from by kernel_rfl] at g0
 obtain ⟨x0,w0,e0⟩:=rd_num g0;have d0:=piece e0 (c:=1) rfl;have g1:=h2 (31,1) (by simp)
 rw [show Tryz.prog.cellsOf 31=2 from by kernel_rfl] at g1
 obtain ⟨x1,w1,e1⟩:=rd_span g1;have d1:=piece e1 (c:=3) rfl;have de:L.drop 3=[]:=List.drop_eq_nil_of_le (by omega)
 rw [de] at d1;rw [d1] at d0;rw [List.drop_zero] at d0;exact ⟨⟨x0,x1⟩,w1,d0⟩
def ptC (q:PointD) (j:Nat):Value:=match j with | 0=>.int .i64 q.at_ | 1=>.int .i64 q.value.lo | _=>.int .i64 q.value.hi
theorem rd_points (h:Rd enc Tryz.prog w 44 L):∃ q:(Option Addr × Nat) × List PointD,((∀ i,WdS (ptL q.2 i).value)∧PtsAt w w.heap.size q.1.1 q.2.length (ptL q.2))∧L=[.slice q.1.1 q.2.length q.1.2]:=by
 obtain ⟨A,c,l,e,hq,hs⟩:=h.list (e:=237) ptC (fun q=>WdS q.value) ⟨0,zeroS⟩ (by kernel_rfl) (k:=3) (by kernel_rfl) (by omega) (fun l _ hr=>by
  obtain ⟨q,h1,rfl⟩:=rd_point hr;exact ⟨q,h1,fun j hj=>by
   match j,hj with
   | 0,_=>rfl
   | 1,_=>rfl
   | 2,_=>rfl⟩)
 refine ⟨((A,c),l),⟨fun i=>?_,hs⟩,e⟩
 unfold ptL;rw [List.getD_eq_getElem?_getD];cases hi:l[i]? with
 | none=>exact wd_zero
 | some q=>exact hq q (List.mem_of_getElem? hi)
theorem rd_arc (h:Rd enc Tryz.prog w 46 L):∃ y:ArcR,(WdA y.a∧PtsAt w w.heap.size y.A y.a.drag.length (ptL y.a.drag))∧L=(arcA y).toList:=by
 obtain ⟨hl,h2⟩:=h.fields (l:=[(29,0),(29,1),(31,2),(31,4),(34,6),(44,12),(31,13)]) (show Tryz.prog.underlying 46=some (.struct (structOf Tryz.prog 46)) by kernel_rfl) (by kernel_rfl)
 rw [show Tryz.prog.cellsOf 46=15 from by kernel_rfl] at hl
 have g0:=h2 (29,0) (by simp)
 rw [show Tryz.prog.cellsOf 29=1 from by kernel_rfl] at g0
 obtain ⟨x0,w0,e0⟩:=rd_num g0;have d0:=piece e0 (c:=1) rfl;have g1:=h2 (29,1) (by simp)
 rw [show Tryz.prog.cellsOf 29=1 from by kernel_rfl] at g1
 obtain ⟨x1,w1,e1⟩:=rd_num g1;have d1:=piece e1 (c:=2) rfl;have g2:=h2 (31,2) (by simp)
 rw [show Tryz.prog.cellsOf 31=2 from by kernel_rfl] at g2
 obtain ⟨x2,w2,e2⟩:=rd_span g2;have d2:=piece e2 (c:=4) rfl;have g3:=h2 (31,4) (by simp)
 rw [show Tryz.prog.cellsOf 31=2 from by kernel_rfl] at g3
 obtain ⟨x3,w3,e3⟩:=rd_span g3;have d3:=piece e3 (c:=6) rfl;have g4:=h2 (34,6) (by simp)
 rw [show Tryz.prog.cellsOf 34=6 from by kernel_rfl] at g4
 obtain ⟨x4,w4,e4⟩:=rd_box g4;have d4:=piece e4 (c:=12) rfl;have g5:=h2 (44,12) (by simp)
 rw [show Tryz.prog.cellsOf 44=1 from by kernel_rfl] at g5
 obtain ⟨x5,w5,e5⟩:=rd_points g5;have d5:=piece e5 (c:=13) rfl;have g6:=h2 (31,13) (by simp)
 rw [show Tryz.prog.cellsOf 31=2 from by kernel_rfl] at g6
 obtain ⟨x6,w6,e6⟩:=rd_span g6;have d6:=piece e6 (c:=15) rfl;have de:L.drop 15=[]:=List.drop_eq_nil_of_le (by omega)
 rw [de] at d6;rw [d6] at d5;rw [d5] at d4;rw [d4] at d3;rw [d3] at d2;rw [d2] at d1;rw [d1] at d0;rw [List.drop_zero] at d0;exact ⟨⟨⟨x0,x1,x2,x3,x4,x5.2,x6⟩,x5.1.1,x5.1.2⟩,⟨⟨w0,w1,w2,w3,w4,w5.1,w6⟩,w5.2⟩,d0⟩
theorem i640:I64 0:=by unfold I64;omega
def arc0:ArcR:=⟨⟨0,0,zeroS,zeroS,zeroB3,[],zeroS⟩,none,0⟩
theorem wd_arc0:WdA arc0.a:=⟨i640,i640,wd_zero,wd_zero,⟨wd_zero,wd_zero,wd_zero⟩,fun _=>wd_zero,wd_zero⟩
theorem rd_arcs (h:Rd enc Tryz.prog w 47 L):∃ q:((Option Addr × Nat) × Nat) × (Nat→ArcR),((∀ i,WdA (q.2 i).a)∧ArcsAt w w.heap.size q.1.1.1 q.1.2 q.2)∧L=[.slice q.1.1.1 q.1.2 q.1.1.2]:=by
 obtain ⟨A,c,l,e,hq,hs⟩:=h.list (e:=46) (fun (y:ArcR) j=>(arcA y).getD j undef) (fun y=>WdA y.a∧PtsAt w w.heap.size y.A y.a.drag.length (ptL y.a.drag)) arc0 (by kernel_rfl) (k:=15) (by kernel_rfl) (by omega) (fun l _ hr=>by
  obtain ⟨y,h1,rfl⟩:=rd_arc hr;exact ⟨y,h1,fun j hj=>toList_getD hj⟩)
 have hm:∀ i,WdA (l.getD i arc0).a∧(i<l.length→PtsAt w w.heap.size (l.getD i arc0).A (l.getD i arc0).a.drag.length (ptL (l.getD i arc0).a.drag)):=fun i=>by
  rw [List.getD_eq_getElem?_getD];cases hi:l[i]? with
  | none=>exact ⟨wd_arc0,fun h=>absurd (List.getElem?_eq_none_iff.1 hi) (by omega)⟩
  | some q=>exact ⟨(hq q (List.mem_of_getElem? hi)).1,fun _=>(hq q (List.mem_of_getElem? hi)).2⟩
 exact ⟨(((A,c),l.length),fun i=>l.getD i arc0),⟨fun i=>(hm i).1,hs,fun i hi=>(hm i).2 hi⟩,e⟩
theorem rd_trip (h:Rd enc Tryz.prog w 72 L):∃ (p:PlanetD) (A:Option Addr) (n c:Nat) (y:Nat→ArcR) (s:StateD),(WdP p∧(∀ i,WdA (y i).a)∧I64W s∧ArcsAt w w.heap.size A n y)∧L=(tripA p (.slice A n c) s).toList:=by
 obtain ⟨hl,h2⟩:=h.fields (l:=[(36,0),(47,14),(38,15)]) (show Tryz.prog.underlying 72=some (.struct (structOf Tryz.prog 72)) by kernel_rfl) (by kernel_rfl)
 rw [show Tryz.prog.cellsOf 72=30 from by kernel_rfl] at hl
 have g0:=h2 (36,0) (by simp)
 rw [show Tryz.prog.cellsOf 36=14 from by kernel_rfl] at g0
 obtain ⟨x0,w0,e0⟩:=rd_planet g0;have d0:=piece e0 (c:=14) rfl;have g1:=h2 (47,14) (by simp)
 rw [show Tryz.prog.cellsOf 47=1 from by kernel_rfl] at g1
 obtain ⟨x1,w1,e1⟩:=rd_arcs g1;have d1:=piece e1 (c:=15) rfl;have g2:=h2 (38,15) (by simp)
 rw [show Tryz.prog.cellsOf 38=15 from by kernel_rfl] at g2
 obtain ⟨x2,w2,e2⟩:=rd_state g2;have d2:=piece e2 (c:=30) rfl;have de:L.drop 30=[]:=List.drop_eq_nil_of_le (by omega)
 rw [de] at d2;rw [d2] at d1;rw [d1] at d0;rw [List.drop_zero] at d0;exact ⟨x0,x1.1.1.1,x1.1.2,x1.1.1.2,x1.2,x2,⟨w0,w1.1,w2,w1.2⟩,by rw [d0];simp [tripA]⟩
theorem rd_mode (h:Rd enc Tryz.prog w 89 L):∃ m:ModeD,(WdM m∧ArcsAt w w.heap.size m.A m.n m.v)∧L=(modeA m).toList:=by
 obtain ⟨hl,h2⟩:=h.fields (l:=[(31,0),(31,2),(31,4),(29,6),(29,7),(3,8),(29,9),(47,10),(29,11),(29,12),(29,13)]) (show Tryz.prog.underlying 89=some (.struct (structOf Tryz.prog 89)) by kernel_rfl) (by kernel_rfl)
 rw [show Tryz.prog.cellsOf 89=14 from by kernel_rfl] at hl
 have g0:=h2 (31,0) (by simp)
 rw [show Tryz.prog.cellsOf 31=2 from by kernel_rfl] at g0
 obtain ⟨x0,w0,e0⟩:=rd_span g0;have d0:=piece e0 (c:=2) rfl;have g1:=h2 (31,2) (by simp)
 rw [show Tryz.prog.cellsOf 31=2 from by kernel_rfl] at g1
 obtain ⟨x1,w1,e1⟩:=rd_span g1;have d1:=piece e1 (c:=4) rfl;have g2:=h2 (31,4) (by simp)
 rw [show Tryz.prog.cellsOf 31=2 from by kernel_rfl] at g2
 obtain ⟨x2,w2,e2⟩:=rd_span g2;have d2:=piece e2 (c:=6) rfl;have g3:=h2 (29,6) (by simp)
 rw [show Tryz.prog.cellsOf 29=1 from by kernel_rfl] at g3
 obtain ⟨x3,w3,e3⟩:=rd_num g3;have d3:=piece e3 (c:=7) rfl;have g4:=h2 (29,7) (by simp)
 rw [show Tryz.prog.cellsOf 29=1 from by kernel_rfl] at g4
 obtain ⟨x4,w4,e4⟩:=rd_num g4;have d4:=piece e4 (c:=8) rfl;have g5:=h2 (3,8) (by simp)
 rw [show Tryz.prog.cellsOf 3=1 from by kernel_rfl] at g5
 obtain ⟨x5,w5,e5⟩:=rd_int g5;have d5:=piece e5 (c:=9) rfl;have g6:=h2 (29,9) (by simp)
 rw [show Tryz.prog.cellsOf 29=1 from by kernel_rfl] at g6
 obtain ⟨x6,w6,e6⟩:=rd_num g6;have d6:=piece e6 (c:=10) rfl;have g7:=h2 (47,10) (by simp)
 rw [show Tryz.prog.cellsOf 47=1 from by kernel_rfl] at g7
 obtain ⟨x7,w7,e7⟩:=rd_arcs g7;have d7:=piece e7 (c:=11) rfl;have g8:=h2 (29,11) (by simp)
 rw [show Tryz.prog.cellsOf 29=1 from by kernel_rfl] at g8
 obtain ⟨x8,w8,e8⟩:=rd_num g8;have d8:=piece e8 (c:=12) rfl;have g9:=h2 (29,12) (by simp)
 rw [show Tryz.prog.cellsOf 29=1 from by kernel_rfl] at g9
 obtain ⟨x9,w9,e9⟩:=rd_num g9;have d9:=piece e9 (c:=13) rfl;have g10:=h2 (29,13) (by simp)
 rw [show Tryz.prog.cellsOf 29=1 from by kernel_rfl] at g10
 obtain ⟨x10,w10,e10⟩:=rd_num g10;have d10:=piece e10 (c:=14) rfl;have de:L.drop 14=[]:=List.drop_eq_nil_of_le (by omega)
 rw [de] at d10;rw [d10] at d9;rw [d9] at d8;rw [d8] at d7;rw [d7] at d6;rw [d6] at d5;rw [d5] at d4;rw [d4] at d3;rw [d3] at d2;rw [d2] at d1;rw [d1] at d0;rw [List.drop_zero] at d0;exact ⟨⟨x0,x1,x2,x3,x4,x5,x6,x7.1.2,x7.2,x7.1.1.1,x7.1.1.2,x8,x9,x10⟩,⟨⟨w0,w1,w2,w5,w6,w8,w7.1⟩,w7.2⟩,d0⟩
theorem arg_trip (ho:Value.okWide Tryz.prog w .any base 72 v) (h:Rd enc Tryz.prog w 72 v.cells.toList) :
  ∃ (p:PlanetD) (A:Option Addr) (n c:Nat) (y:Nat→ArcR) (s:StateD),v=.agg (tripA p (.slice A n c) s)∧WdP p∧(∀ i,WdA (y i).a)∧I64W s∧ArcsAt w w.heap.size A n y:=by
 obtain ⟨cs,rfl⟩:=okWide_str (show Tryz.prog.underlying 72=some (.struct (structOf Tryz.prog 72)) by kernel_rfl) ho
 obtain ⟨p,A,n,c,y,s,h1,e⟩:=rd_trip h;exact ⟨p,A,n,c,y,s,congrArg Value.agg (Array.toList_inj.1 e),h1⟩
def mode0:ModeD:=⟨zeroS,zeroS,zeroS,0,0,0,0,0,fun _=>arc0,none,0,0,0,0⟩
theorem modeA_size (m:ModeD):(modeA m).size=14:=rfl
theorem wd_mode0:WdM mode0:=⟨wd_zero,wd_zero,wd_zero,i640,i640,i640,fun _=>wd_arc0⟩
theorem arg_modes (ho:Value.okWide Tryz.prog w .any base 73 v) (h:Rd enc Tryz.prog w 73 v.cells.toList) :
  ∃ (A:Option Addr) (n c:Nat) (m:Nat→ModeD),v=.slice A n c∧n≤9223372036854775807∧(∀ i,WdM (m i))∧(n≤18→ModesAt w A n m):=by
 obtain ⟨A,c,l,e,hq,hs⟩:=h.list (e:=89) (fun (y:ModeD) j=>(modeA y).getD j undef) (fun m=>WdM m∧ArcsAt w w.heap.size m.A m.n m.v) mode0 (by kernel_rfl) (k:=14) (by kernel_rfl) (by omega) (fun l _ hr=>by
  obtain ⟨y,h1,rfl⟩:=rd_mode hr;exact ⟨y,h1,fun j hj=>toList_getD (by rw [modeA_size];exact hj)⟩)
 have hm:∀ i,WdM (l.getD i mode0)∧(i<l.length→ArcsAt w w.heap.size (l.getD i mode0).A (l.getD i mode0).n (l.getD i mode0).v):=fun i=>by
  rw [List.getD_eq_getElem?_getD];cases hi:l[i]? with
  | none=>exact ⟨wd_mode0,fun h=>absurd (List.getElem?_eq_none_iff.1 hi) (by omega)⟩
  | some q=>exact ⟨(hq q (List.mem_of_getElem? hi)).1,fun _=>(hq q (List.mem_of_getElem? hi)).2⟩
 refine ⟨A,l.length,c,fun i=>l.getD i mode0,okWide_sl (e:=89) (by kernel_rfl) ho _ e,hs.1,fun i=>(hm i).1,fun h18=>⟨⟨by omega,fun h0=>?_⟩,fun i hi=>(hm i).2 hi⟩⟩
 obtain ⟨b,off,h1,h2,h3⟩:=hs.2 h0;refine ⟨b,off,h1,h2,Nat.le_refl _,fun k hk j u hj=>?_⟩
 have hj14:j<14:=by have h9:=(Array.getElem?_eq_some_iff.1 hj).1;rwa [modeA_size] at h9
 rw [h3 k hk j hj14];dsimp only;rw [Array.getD_eq_getD_getElem?,hj];rfl
theorem arg_int (ho:Value.okWide Tryz.prog w .any base 3 v) (h:Rd enc Tryz.prog w 3 v.cells.toList):∃ n:Int,v=.int .i64 n∧I64 n:=by
 obtain ⟨n,h1,e⟩:=rd_int h;exact ⟨n,okWide_int (show Tryz.prog.underlying 3=some (.int .i64) by kernel_rfl) ho _ e,h1⟩
end
end Go.Proofs.YtmkoegljnebdiaaGreat
