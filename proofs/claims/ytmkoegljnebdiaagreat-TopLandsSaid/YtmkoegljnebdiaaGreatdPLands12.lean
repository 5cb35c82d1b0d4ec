/- What is proved: the texts Qc, one behind the other; each says at its head what it proves, and under which conditions. -/
import Derived.Test.YtmkoegljnebdiaaGreatdPLands11
namespace Go.Proofs.YtmkoegljnebdiaaGreat
open Go.RowKit Go.Shelf
set_option maxRecDepth 100000
set_option maxHeartbeats 16000000

theorem loopA_any {PQ:Ending→World→Prop} {w W:World} {x0 x1 x2 x3 x4 x5 x6 x7 off:Int} {nm:ByteArray} {A:Option Addr} {n c:Nat} {qb b36 b38 b46 gt b56 cap N:Nat} {cur:Array Value} {l:List TubeD} {T st g2 ml mh xl xh yl yh jl jh al ah bl bh cl ch pl ph LX LY:Int} {s0 s1 s4 s6 s8 s9 s10 s11 s12 s14 s15 s16 s18 s22 s23 s24 s25 s26 s27 s28 s29 s30 s31 s32 s33 s34 s35 s36 s37 s38 s39 s40 s41 s42 s43 s44 s45 s46 s47 s48 s49 s50 s51 s52 s53 s54 s55 s56 s57 s58 s59 s60 s61 s62 s63 s64 s65 s66 s67 s68 s69 s70 s71 s72 s73 s74 s75 s76 s77 s78 s79 s80 s81 s82 s83 s84 s85 s86 s87 s88 s89 s90 s91 s92 s93 s94 s95 s96 s97 s98 s99 s100 s101 s102 s103 s104 s105 s106 s107 s108 s109 s110 s111 s112 s113 s114 s115 s116 s117 s118 s119 s120 s121 s122 s123 s124 s125 s126 s127 s128 s129 s130 s131 s132 s133 s134 s135 s136 s137 s138 s139 s140 s141 s142 s143 s144 s145 s146 s147 s148 s149 s150 s151 s152 s153 s154 s155 s156 s157 s158 s159 s160 s161 s162 s163 s164 s165 s166 s167 s168 s169 s170 s171 s172 s173 s174 s175 s176 s177 s178 s179 s180 s181 s182 s183 s184 s185 s186 s187 s188 s189 s190 s191 s192 s193 s194 s195 s196 s197 s198 s199 s200 s201 s202 s203 s204 s205 s206 s207 s208 s209 s210 s211 s212 s213 s214 s215 s216 s217 s218 s219 s220 s221 s222 s223 s224 s225 s226 s227 s228 s229 s230 s231 s232 s233 s234 s235 s236 s237 s238 s239 s240 s241 s242 s243 s244 s245 s246 s247 s248 s249 s250 s251 s252 s253 s254 s255 s256 s257 s258 s259 s260 s261 s262 s263 s264 s265 s266 s267 s268 s269:Value}
  (HFIN:Hid (∀ w',Fr w [] [] w'→PQ (.returned (.bool true)) w'))
  (HAW:Hid (∀ w,Calls Tryz.prog 5 #[] w fun e w'=>e=.returned (.bool true)∧Below w.heap.size w w'))
  (HAp:Hid (∀ B w',Bk w' B 24 #[.int .u8 x0,.int .u8 x1,.int .u8 x2,.int .u8 x3,.int .u8 x4,.int .u8 x5,.int .u8 x6,.int .u8 x7,.int .u16 off]→Calls Tryz.prog 6 #[.int .i64 g2,.pointer (some ⟨B,0,none⟩)] w' fun e w''=>e=.returned (.agg #[.int .i64 pl,.int .i64 ph])∧Below w'.heap.size w' w''))
  (HWPP:Hid (WdS ⟨pl,ph⟩))
  (HBN:Hid (N≤15))
  (HLEN:Hid (l.length=N))
  (HSG:Hid (∀ (i:Nat) tb,l[i]?=some tb→(cur.toList.drop (i * 16)).take 16=(tbA tb).toList))
  (HTB:Hid (∀ (i:Nat) (tb:TubeD),l[i]?=some tb→(WdB tb.p∧WdB tb.v)∧∀ r,impactI ⟨tb.p.x,tb.p.y,⟨max 0 tb.p.z.lo,max 0 tb.p.z.hi⟩,tb.v.x,tb.v.y,tb.v.z,⟨pl,ph⟩,zeroS,zeroS⟩=(r,0)→r.a.x≤LX∧LX≤r.b.x∧r.a.y≤LY∧LY≤r.b.y))
  (HF0:Hid (Fr w [] [(qb,24,#[.int .u8 x0,.int .u8 x1,.int .u8 x2,.int .u8 x3,.int .u8 x4,.int .u8 x5,.int .u8 x6,.int .u8 x7,.int .u16 off]),(qb+1,27,#[.string nm,.slice A n c]),(b36,36,iC [0,0,0,0,0,0,0,0,0,0,0,0,ml,mh]),(b38,38,iC [0,xl,xh,yl,yh,jl,jh,al,ah,bl,bh,cl,ch,4294967296,4294967296]),(b46,46,#[.int .i64 (T * 4294967296),.int .i64 (st * 4294967296),.int .i64 0,.int .i64 0,.int .i64 0,.int .i64 0,.int .i64 0,.int .i64 0,.int .i64 0,.int .i64 0,.int .i64 0,.int .i64 0,.slice none 0 0,.int .i64 0,.int .i64 0]),(gt,58,cur),(b56,56,iC [LX,LY])] W)) :
  Code.wp Tryz.prog (behind 14 (Tryz.f3).body) (bodyPost Tryz.prog Tryz.f3 PQ) ⟨#[s0,s1,.pointer (some ⟨qb,0,none⟩),.pointer (some ⟨qb+1,0,none⟩),s4,.int .i64 (N:Int),s6,.int .i64 g2,s8,s9,s10,s11,s12,.func (.func 6) #[] #[.pointer (some ⟨qb,0,none⟩)],s14,s15,s16,.slice (some ⟨gt,0,none⟩) N cap,s18,.pointer none,.int .i64 2,.pointer (some ⟨b56,0,none⟩),s22,s23,s24,s25,s26,s27,s28,s29,s30,s31,s32,s33,s34,s35,s36,s37,s38,s39,s40,s41,s42,s43,s44,s45,s46,s47,s48,s49,s50,s51,s52,s53,s54,s55,s56,s57,s58,s59,s60,s61,s62,s63,s64,s65,s66,s67,s68,s69,s70,s71,s72,s73,s74,s75,s76,s77,s78,s79,s80,s81,s82,s83,s84,s85,s86,s87,s88,s89,s90,s91,s92,s93,s94,s95,s96,s97,s98,s99,s100,s101,s102,s103,s104,s105,s106,s107,s108,s109,s110,s111,s112,s113,s114,s115,s116,s117,s118,s119,s120,s121,s122,s123,s124,s125,s126,s127,s128,s129,s130,s131,s132,s133,s134,s135,s136,s137,s138,s139,s140,s141,s142,s143,s144,s145,s146,s147,s148,s149,s150,s151,s152,s153,s154,s155,s156,s157,s158,s159,s160,s161,s162,s163,s164,s165,s166,s167,s168,s169,s170,s171,s172,s173,s174,s175,s176,s177,s178,s179,s180,s181,s182,s183,s184,s185,s186,s187,s188,s189,s190,s191,s192,s193,s194,s195,s196,s197,s198,s199,s200,s201,s202,s203,s204,s205,s206,s207,s208,s209,s210,s211,s212,s213,s214,s215,s216,s217,s218,s219,s220,s221,s222,s223,s224,s225,s226,s227,s228,s229,s230,s231,s232,s233,s234,s235,s236,s237,s238,s239,s240,s241,s242,s243,s244,s245,s246,s247,s248,s249,s250,s251,s252,s253,s254,s255,s256,s257,s258,s259,s260,s261,s262,s263,s264,s265,s266,s267,s268,s269],[]⟩ W:=by
 conv=>arg 2;whnf
 go_wp2_with fail
 have HREL:Hid (false=false∧Fr w [] [(qb,24,#[.int .u8 x0,.int .u8 x1,.int .u8 x2,.int .u8 x3,.int .u8 x4,.int .u8 x5,.int .u8 x6,.int .u8 x7,.int .u16 off]),(qb+1,27,#[.string nm,.slice A n c]),(b36,36,iC [0,0,0,0,0,0,0,0,0,0,0,0,ml,mh]),(b38,38,iC [0,xl,xh,yl,yh,jl,jh,al,ah,bl,bh,cl,ch,4294967296,4294967296]),(b46,46,#[.int .i64 (T * 4294967296),.int .i64 (st * 4294967296),.int .i64 0,.int .i64 0,.int .i64 0,.int .i64 0,.int .i64 0,.int .i64 0,.int .i64 0,.int .i64 0,.int .i64 0,.int .i64 0,.slice none 0 0,.int .i64 0,.int .i64 0]),(gt,58,cur),(b56,56,iC [LX,LY])] W):=Lib.hid ⟨rfl,HF0.out⟩
 go_loopw [22,23] (fun ov iv wr=>∃ (b:Bool) (i:Nat),ov=.bool b∧i≤N∧iv=.int .i64 (i:Int)∧Hid (b=false∧Fr w [] [(qb,24,#[.int .u8 x0,.int .u8 x1,.int .u8 x2,.int .u8 x3,.int .u8 x4,.int .u8 x5,.int .u8 x6,.int .u8 x7,.int .u16 off]),(qb+1,27,#[.string nm,.slice A n c]),(b36,36,iC [0,0,0,0,0,0,0,0,0,0,0,0,ml,mh]),(b38,38,iC [0,xl,xh,yl,yh,jl,jh,al,ah,bl,bh,cl,ch,4294967296,4294967296]),(b46,46,#[.int .i64 (T * 4294967296),.int .i64 (st * 4294967296),.int .i64 0,.int .i64 0,.int .i64 0,.int .i64 0,.int .i64 0,.int .i64 0,.int .i64 0,.int .i64 0,.int .i64 0,.int .i64 0,.slice none 0 0,.int .i64 0,.int .i64 0]),(gt,58,cur),(b56,56,iC [LX,LY])] wr)) (fun _ iv _=>N - (intOf iv).toNat)
 case atStart=>exact ⟨false,0,rfl,Nat.zero_le _,rfl,HREL⟩
 case round =>
  obtain ⟨wo,rfl⟩:∃ wo:World,wo=wr:=⟨_,rfl⟩
  obtain ⟨b,i,rfl,hi,rfl,hs⟩:=hrel
  obtain ⟨rfl,hfr⟩:=hs.out
  have HFR:=Lib.hid hfr
  clear hs HREL hfr
  have h0i:(0:Int)≤(i:Int):=by omega
  have bNN:=HBN.out
  by_cases hlt:i<N
  ·have hki:(i:Int)<(N:Int):=by omega
   obtain ⟨tb,htb⟩:∃ tb,l[i]?=some tb:=⟨_,List.getElem?_eq_getElem (by rw [HLEN.out];exact hlt)⟩
   have hseg:=HSG.out i tb htb
   obtain ⟨⟨wtp,wtv⟩,hlaw⟩:=HTB.out i tb htb
   have himp:=fun w=>impact_any ⟨tb.p.x,tb.p.y,⟨max 0 tb.p.z.lo,max 0 tb.p.z.hi⟩,tb.v.x,tb.v.y,tb.v.z,⟨pl,ph⟩,zeroS,zeroS⟩ wtp.1 wtp.2.1 (by have:=wtp.2.2;unfold WdS at this ⊢;dsimp only;omega) wtv.1 wtv.2.1 wtv.2.2 HWPP.out wd_zero wd_zero w
   obtain ⟨⟨⟨⟨rax,ray⟩,rbx,rby⟩,e9⟩,him⟩:∃ z,impactI ⟨tb.p.x,tb.p.y,⟨max 0 tb.p.z.lo,max 0 tb.p.z.hi⟩,tb.v.x,tb.v.y,tb.v.z,⟨pl,ph⟩,zeroS,zeroS⟩=z:=⟨_,rfl⟩
   rw [him] at himp hlaw
   have HLW:Hid (e9=0→(rax≤LX∧LX≤rbx∧ray≤LY∧LY≤rby)∧rectB ⟨⟨rax,ray⟩,⟨rbx,rby⟩⟩=true):=Lib.hid fun h=>by subst h;exact ⟨hlaw _ rfl,impact_rect him⟩
   clear him hlaw wtp wtv htb
   obtain ⟨yf,yg,⟨⟨ypxl,ypxh⟩,⟨ypyl,ypyh⟩,⟨ypzl,ypzh⟩⟩,⟨⟨yvxl,yvxh⟩,⟨yvyl,yvyh⟩,⟨yvzl,yvzh⟩⟩,⟨yml,ymh⟩⟩:=tb
   unfold tbA tubeV at hseg
   unfold fallV fallA rectV zeroS at himp
   dsimp only [Value.cells] at hseg himp
   have HSEG:=Lib.hid hseg
   have HIM:=Lib.hid himp
   have HHI:=Lib.hid hlt
   clear hseg himp hlt
   obtain ⟨g1,hg1⟩:∃ g,wo.heap.size=g:=⟨_,rfl⟩
   obtain ⟨w1,hw1⟩:∃ u,wo.alloc (.cells #[.int .i64 0,.int .i64 0,.int .i64 0,.int .i64 0,.int .i64 0,.int .i64 0,.int .i64 0,.int .i64 0,.int .i64 0,.int .i64 0,.int .i64 0,.int .i64 0,.int .i64 0,.int .i64 0,.int .i64 0,.int .i64 0] 58)=u:=⟨_,rfl⟩
   have HF2:=Lib.hid (frE hw1 (HFR.out.alloc hg1.symm 58 #[.int .i64 0,.int .i64 0,.int .i64 0,.int .i64 0,.int .i64 0,.int .i64 0,.int .i64 0,.int .i64 0,.int .i64 0,.int .i64 0,.int .i64 0,.int .i64 0,.int .i64 0,.int .i64 0,.int .i64 0,.int .i64 0]))
   go_upto_region 23 with (first
     | (refine wpLoadF rfl 58 _ rfl gt (i * 16) rfl _ _ (HFR.out.get 5 rfl) #[.int .i64 yf,.int .i64 yg,.int .i64 ypxl,.int .i64 ypxh,.int .i64 ypyl,.int .i64 ypyh,.int .i64 ypzl,.int .i64 ypzh,.int .i64 yvxl,.int .i64 yvxh,.int .i64 yvyl,.int .i64 yvyh,.int .i64 yvzl,.int .i64 yvzh,.int .i64 yml,.int .i64 ymh] (HSEG.out) _ und_58 rfl info_58 ?_)
     | (refine wpStoreF rfl rfl 58 _ _ rfl g1 0 rfl #[.int .i64 yf,.int .i64 yg,.int .i64 ypxl,.int .i64 ypxh,.int .i64 ypyl,.int .i64 ypyh,.int .i64 ypzl,.int .i64 ypzh,.int .i64 yvxl,.int .i64 yvxh,.int .i64 yvyl,.int .i64 yvyh,.int .i64 yvzl,.int .i64 yvzh,.int .i64 yml,.int .i64 ymh] rfl _ _ (iC [yf,yg,ypxl,ypxh,ypyl,ypyh,ypzl,ypzh,yvxl,yvxh,yvyl,yvyh,yvzl,yvzh,yml,ymh]) (HF2.out.get 7 rfl) rfl (by show 0+16≤16;omega) (one_all rfl) info_58 ?_;intro w3 hk ho;clear hw1 hg1;have HF4:=Lib.hid (HF2.out.only 7 rfl ho hk);clear ho hk;have c5:w3.cell? ⟨g1,6,none⟩=some (.int .i64 ypzl):=(HF4.out.get 7 rfl).cell 6;have c6:w3.cell? ⟨g1,7,none⟩=some (.int .i64 ypzh):=(HF4.out.get 7 rfl).cell 7;obtain ⟨g7,hg7⟩:∃ g,w3.heap.size=g:=⟨_,rfl⟩;obtain ⟨w7,hw7⟩:∃ u,w3.alloc (.cells #[.int .i64 0,.int .i64 0] 31)=u:=⟨_,rfl⟩;have HF8:=Lib.hid (frE hw7 (HF4.out.alloc hg7.symm 31 #[.int .i64 0,.int .i64 0])))
     | (refine wpStoreF rfl rfl 31 _ _ rfl g7 0 rfl #[.int .i64 (max 0 ypzl),.int .i64 (max 0 ypzh)] rfl _ _ (iC [max 0 ypzl,max 0 ypzh]) (HF8.out.get 8 rfl) rfl (by show 0+2≤2;omega) (one_all rfl) info_span ?_;intro w9 hk ho;clear c5 c6 hw7 hg7;have HF10:=Lib.hid (HF8.out.only 8 rfl ho hk);clear ho hk))
   refine wp_region_fr [Kind.p,Kind.p,Kind.p,Kind.p,Kind.p,Kind.p,Kind.p,Kind.p,Kind.p,Kind.p,Kind.p,Kind.p,Kind.p,Kind.p,Kind.p,Kind.p,Kind.p,Kind.p,Kind.p,Kind.p,Kind.a 0,Kind.c 0] [21] [(20,60,fun k=>(if k≤0 then iC [0,0,0,0,0,0,0,0,0,0,0,0,0,0,0,0,0,0] else iC [ypxl,ypxh,ypyl,ypyh,max 0 ypzl,max 0 ypzh,yvxl,yvxh,yvyl,yvyh,yvzl,yvzh,pl,ph,0,0,0,0]))] w (fun _=>[]) (fun _=>_)
      (fun ix u _=>match ix with
       | 0=>u=.pointer (some ⟨g1,2,none⟩)
       | 1=>u=.pointer (some ⟨g1,2,none⟩)
       | 2=>u=.agg #[.int .i64 ypxl,.int .i64 ypxh]
       | 3=>u=.pointer (some ⟨g1,2,none⟩)
       | 4=>u=.pointer (some ⟨g1,4,none⟩)
       | 5=>u=.agg #[.int .i64 ypyl,.int .i64 ypyh]
       | 6=>u=.agg #[.int .i64 (max 0 ypzl),.int .i64 (max 0 ypzh)]
       | 7=>u=.pointer (some ⟨g1,8,none⟩)
       | 8=>u=.pointer (some ⟨g1,8,none⟩)
       | 9=>u=.agg #[.int .i64 yvxl,.int .i64 yvxh]
       | 10=>u=.pointer (some ⟨g1,8,none⟩)
       | 11=>u=.pointer (some ⟨g1,10,none⟩)
       | 12=>u=.agg #[.int .i64 yvyl,.int .i64 yvyh]
       | 13=>u=.pointer (some ⟨g1,8,none⟩)
       | 14=>u=.pointer (some ⟨g1,12,none⟩)
       | 15=>u=.agg #[.int .i64 yvzl,.int .i64 yvzh]
       | 16=>u=.func (.func 6) #[] #[.pointer (some ⟨qb,0,none⟩)]
       | 17=>u=.int .i64 g2
       | 18=>u=.agg #[.int .i64 pl,.int .i64 ph]
       | 19=>u=.agg #[.int .i64 ypxl,.int .i64 ypxh,.int .i64 ypyl,.int .i64 ypyh,.int .i64 (max 0 ypzl),.int .i64 (max 0 ypzh),.int .i64 yvxl,.int .i64 yvxh,.int .i64 yvyl,.int .i64 yvyh,.int .i64 yvzl,.int .i64 yvzh,.int .i64 pl,.int .i64 ph,.int .i64 0,.int .i64 0,.int .i64 0,.int .i64 0]
       | 20=>u=.pointer (some ⟨gOf u,0,none⟩)
       | _=>True)
      (by kernel_rfl) (by kernel_rfl) (by kernel_rfl) [20] rfl (by decide) (by kernel_rfl) (by kernel_rfl) HF10.out ?_ ?_
   ·refine ⟨?_,?_,?_,?_,?_,?_,?_,?_,?_,?_,?_,?_,?_,?_,?_,?_,?_,?_,?_,?_,?_,?_,trivial⟩
    all_goals intro a w1 vs dn k K S hpre KE DE kk
    ·have e24:=KE 24 (by decide)
     go_simp;exact kk _ _ (by simp) bR rfl
    ·have e177:=dep (DE 0 _ 177 rfl rfl rfl)
     go_simp;exact kk _ _ (by simp) bR rfl
    ·have e178:=dep (DE 1 _ 178 rfl rfl rfl)
     exact wpo_loadF 31 (.tmp 178) rfl g1 2 (by simpa [Act.eval] using e178) _ _ (S.fr.left.get 7 rfl) #[.int .i64 ypxl,.int .i64 ypxh] rfl _ und_span rfl info_span (kk _ _ (by simp) bR rfl)
    ·have e24:=KE 24 (by decide)
     go_simp;exact kk _ _ (by simp) bR rfl
    ·have e180:=dep (DE 3 _ 180 rfl rfl rfl)
     go_simp;exact kk _ _ (by simp) bR rfl
    ·have e181:=dep (DE 4 _ 181 rfl rfl rfl)
     exact wpo_loadF 31 (.tmp 181) rfl g1 4 (by simpa [Act.eval] using e181) _ _ (S.fr.left.get 7 rfl) #[.int .i64 ypyl,.int .i64 ypyh] rfl _ und_span rfl info_span (kk _ _ (by simp) bR rfl)
    ·have e25:=KE 25 (by decide)
     exact wpo_loadF 31 (.tmp 25) rfl g7 0 (by simpa [Act.eval] using e25) _ _ (S.fr.left.get 8 rfl) #[.int .i64 (max 0 ypzl),.int .i64 (max 0 ypzh)] rfl _ und_span rfl info_span (kk _ _ (by simp) bR rfl)
    ·have e24:=KE 24 (by decide)
     go_simp;exact kk _ _ (by simp) bR rfl
    ·have e184:=dep (DE 7 _ 184 rfl rfl rfl)
     go_simp;exact kk _ _ (by simp) bR rfl
    ·have e185:=dep (DE 8 _ 185 rfl rfl rfl)
     exact wpo_loadF 31 (.tmp 185) rfl g1 8 (by simpa [Act.eval] using e185) _ _ (S.fr.left.get 7 rfl) #[.int .i64 yvxl,.int .i64 yvxh] rfl _ und_span rfl info_span (kk _ _ (by simp) bR rfl)
    ·have e24:=KE 24 (by decide)
     go_simp;exact kk _ _ (by simp) bR rfl
    ·have e187:=dep (DE 10 _ 187 rfl rfl rfl)
     go_simp;exact kk _ _ (by simp) bR rfl
    ·have e188:=dep (DE 11 _ 188 rfl rfl rfl)
     exact wpo_loadF 31 (.tmp 188) rfl g1 10 (by simpa [Act.eval] using e188) _ _ (S.fr.left.get 7 rfl) #[.int .i64 yvyl,.int .i64 yvyh] rfl _ und_span rfl info_span (kk _ _ (by simp) bR rfl)
    ·have e24:=KE 24 (by decide)
     go_simp;exact kk _ _ (by simp) bR rfl
    ·have e190:=dep (DE 13 _ 190 rfl rfl rfl)
     go_simp;exact kk _ _ (by simp) bR rfl
    ·have e191:=dep (DE 14 _ 191 rfl rfl rfl)
     exact wpo_loadF 31 (.tmp 191) rfl g1 12 (by simpa [Act.eval] using e191) _ _ (S.fr.left.get 7 rfl) #[.int .i64 yvzl,.int .i64 yvzh] rfl _ und_span rfl info_span (kk _ _ (by simp) bR rfl)
    ·have e13:=KE 13 (by decide)
     go_simp;exact kk _ _ (by simp) bR rfl
    ·have e7:=KE 7 (by decide)
     go_simp;exact kk _ _ (by simp) bR rfl
    ·have e193:=dep (DE 16 _ 193 rfl rfl rfl)
     have e194:=dep (DE 17 _ 194 rfl rfl rfl)
     exact wpo_callC 6 #[.pointer (some ⟨qb,0,none⟩)] (.tmp 193) _ _ rfl (by simpa [Act.eval] using e193) #[.int .i64 g2] (by simp [Act.eval,e194]) (fun args w=>by kernel_rfl)
      ((HAp.out _ w1 (S.fr.left.get 0 rfl)).mono fun e w' ⟨he,hb⟩=>⟨_,he,kk _ _ (by simp) hb rfl⟩)
    ·have e179:=dep (DE 2 _ 179 rfl rfl rfl)
     have e182:=dep (DE 5 _ 182 rfl rfl rfl)
     have e183:=dep (DE 6 _ 183 rfl rfl rfl)
     have e186:=dep (DE 9 _ 186 rfl rfl rfl)
     have e189:=dep (DE 12 _ 189 rfl rfl rfl)
     have e192:=dep (DE 15 _ 192 rfl rfl rfl)
     have e195:=dep (DE 18 _ 195 rfl rfl rfl)
     go_simp;exact kk _ _ (by simp) bR rfl
    ·go_simp;exact kk _ _ (by simp) (by have h:=S.fr.alloc rfl 60 #[.int .i64 0,.int .i64 0,.int .i64 0,.int .i64 0,.int .i64 0,.int .i64 0,.int .i64 0,.int .i64 0,.int .i64 0,.int .i64 0,.int .i64 0,.int .i64 0,.int .i64 0,.int .i64 0,.int .i64 0,.int .i64 0,.int .i64 0,.int .i64 0];show Fr _ _ (_ ++ [(_,60,if k≤0 then _ else _)]) _;rw [if_pos (S.hi 0 21 rfl rfl)];exact h) rfl
    ·subst hpre
     have e26:=dep (DE 20 _ 26 rfl rfl rfl)
     have e196:=dep (DE 19 _ 196 rfl rfl rfl)
     have HS:=Fr.done S.fr (by exact ⟨S.done 20 rfl,trivial⟩)
     exact wpo_storeF 60 (.tmp 26) (.tmp 196) rfl rfl ((gOf (vs 20))) 0 (by simpa [Act.eval] using e26) #[.int .i64 ypxl,.int .i64 ypxh,.int .i64 ypyl,.int .i64 ypyh,.int .i64 (max 0 ypzl),.int .i64 (max 0 ypzh),.int .i64 yvxl,.int .i64 yvxh,.int .i64 yvyl,.int .i64 yvyh,.int .i64 yvzl,.int .i64 yvzh,.int .i64 pl,.int .i64 ph,.int .i64 0,.int .i64 0,.int .i64 0,.int .i64 0] (by simpa [Act.eval] using e196) _ _ (iC [ypxl,ypxh,ypyl,ypyh,max 0 ypzl,max 0 ypzh,yvxl,yvxh,yvyl,yvyh,yvzl,yvzh,pl,ph,0,0,0,0]) (HS.get 9 rfl) rfl (by show 0+18≤18;omega) (one_all rfl) info_60 fun w' hk ho=>kk _ _ (by simp) (Fr.undone (HS.only 9 rfl ho hk) (by exact ⟨S.done 20 rfl,trivial⟩)) trivial
   ·intro vs wf HFr HR
    have HFr':Fr w [] [(qb,24,#[.int .u8 x0,.int .u8 x1,.int .u8 x2,.int .u8 x3,.int .u8 x4,.int .u8 x5,.int .u8 x6,.int .u8 x7,.int .u16 off]),(qb+1,27,#[.string nm,.slice A n c]),(b36,36,iC [0,0,0,0,0,0,0,0,0,0,0,0,ml,mh]),(b38,38,iC [0,xl,xh,yl,yh,jl,jh,al,ah,bl,bh,cl,ch,4294967296,4294967296]),(b46,46,#[.int .i64 (T * 4294967296),.int .i64 (st * 4294967296),.int .i64 0,.int .i64 0,.int .i64 0,.int .i64 0,.int .i64 0,.int .i64 0,.int .i64 0,.int .i64 0,.int .i64 0,.int .i64 0,.slice none 0 0,.int .i64 0,.int .i64 0]),(gt,58,cur),(b56,56,iC [LX,LY]),(g1,58,iC [yf,yg,ypxl,ypxh,ypyl,ypyh,ypzl,ypzh,yvxl,yvxh,yvyl,yvyh,yvzl,yvzh,yml,ymh]),(g7,31,iC [max 0 ypzl,max 0 ypzh]),((gOf (vs 20)),60,iC [ypxl,ypxh,ypyl,ypyh,max 0 ypzl,max 0 ypzh,yvxl,yvxh,yvyl,yvyh,yvzl,yvzh,pl,ph,0,0,0,0])] wf:=HFr
    have v20:vs 20=.pointer (some ⟨(gOf (vs 20)),0,none⟩):=HR 20 _ rfl
    clear HFr HR
    obtain ⟨g11_20,hg11_20⟩:∃ g,gOf (vs 20)=g:=⟨_,rfl⟩
    rw [hg11_20] at HFr'
    rw [hg11_20] at v20
    clear hg11_20
    have HF11:=Lib.hid HFr'
    clear HFr'
    simp only [putAll,Act.put,List.setIfInBounds_toArray,List.set_cons_zero,List.set_cons_succ]
    simp only [v20]
    clear v20
    obtain ⟨w11,rfl⟩:∃ u:World,u=wf:=⟨_,rfl⟩
    go_wp2_with (refine wpLoadF rfl 60 _ rfl g11_20 0 rfl _ _ (HF11.out.get 9 rfl) #[.int .i64 ypxl,.int .i64 ypxh,.int .i64 ypyl,.int .i64 ypyh,.int .i64 (max 0 ypzl),.int .i64 (max 0 ypzh),.int .i64 yvxl,.int .i64 yvxh,.int .i64 yvyl,.int .i64 yvyh,.int .i64 yvzl,.int .i64 yvzh,.int .i64 pl,.int .i64 ph,.int .i64 0,.int .i64 0,.int .i64 0,.int .i64 0] rfl _ und_60 rfl info_60 ?_)
    refine (HIM.out _).mono ?_
    rintro e w12 ⟨rfl,hw⟩
    have HF13:=Lib.hid (HF11.out.below hw)
    clear hw
    obtain ⟨g14,hg14⟩:∃ g,w12.heap.size=g:=⟨_,rfl⟩
    obtain ⟨w14,hw14⟩:∃ u,w12.alloc (.cells #[.int .i64 0,.int .i64 0,.int .i64 0,.int .i64 0] 62)=u:=⟨_,rfl⟩
    have HF15:=Lib.hid (frE hw14 (HF13.out.alloc hg14.symm 62 #[.int .i64 0,.int .i64 0,.int .i64 0,.int .i64 0]))
    go_upto_region 25 with (refine wpStoreF rfl rfl 62 _ _ rfl g14 0 rfl #[.int .i64 rax,.int .i64 ray,.int .i64 rbx,.int .i64 rby] rfl _ _ (iC [rax,ray,rbx,rby]) (HF15.out.get 10 rfl) rfl (by show 0+4≤4;omega) (one_all rfl) info_62 ?_;intro w16 hk ho;clear hw14 hg14;have HF17:=Lib.hid (HF15.out.only 10 rfl ho hk);clear ho hk)
    by_cases he9:e9=0
    rotate_left
    ·have he9b:(e9 != 0)=true:=by simpa using he9
     go_wp2_with fail
     go_roundw
     case rel=>exact ⟨false,i+1,rfl,by have:=HHI.out;omega,by go_num,Lib.hid ⟨rfl,HF17.out.sub (List.sublist_append_left [_,_,_,_,_,_,_] _)⟩⟩
     case measure=>simp [intOf];omega
    ·subst he9
     obtain ⟨hbo,hrb⟩:=HLW.out rfl
     have HBO:=Lib.hid hbo
     have HRB:=Lib.hid hrb
     obtain ⟨o1,o2,o3,o4⟩:=hbo
     have n1:¬ LX<rax:=by omega
     have n2:¬ rbx<LX:=by omega
     have n3:¬ LY<ray:=by omega
     have n4:¬ rby<LY:=by omega
     clear hrb o1 o2 o3 o4 HLW
     have c18:w16.cell? ⟨b56,0,none⟩=some (.int .i64 LX):=(HF17.out.get 6 rfl).cell 0
     have c19:w16.cell? ⟨g14,0,none⟩=some (.int .i64 rax):=(HF17.out.get 10 rfl).cell 0
     have c20:w16.cell? ⟨b56,0,none⟩=some (.int .i64 LX):=(HF17.out.get 6 rfl).cell 0
     have c21:w16.cell? ⟨g14,2,none⟩=some (.int .i64 rbx):=(HF17.out.get 10 rfl).cell 2
     have c22:w16.cell? ⟨b56,1,none⟩=some (.int .i64 LY):=(HF17.out.get 6 rfl).cell 1
     have c23:w16.cell? ⟨g14,1,none⟩=some (.int .i64 ray):=(HF17.out.get 10 rfl).cell 1
     have c24:w16.cell? ⟨b56,1,none⟩=some (.int .i64 LY):=(HF17.out.get 6 rfl).cell 1
     have c25:w16.cell? ⟨g14,3,none⟩=some (.int .i64 rby):=(HF17.out.get 10 rfl).cell 3
     go_upto_region 28 with (fail)
     clear c18 c19 c20 c21 c22 c23 c24 c25
     clear n1 n2 n3 n4
     go_wp2_with fail
     go_roundw
     case rel=>exact ⟨false,i+1,rfl,by have:=HHI.out;omega,by go_num,Lib.hid ⟨rfl,HF17.out.sub (List.sublist_append_left [_,_,_,_,_,_,_] _)⟩⟩
     case measure=>simp [intOf];omega
  ·obtain rfl:i=N:=by omega
   have hneg:¬ (i:Int)<(i:Int):=by omega
   go_wp2_with fail
   refine (HAW.out _).mono ?_
   rintro e w1 ⟨rfl,hw⟩
   have HF2:=Lib.hid (HFR.out.below hw)
   clear hw
   go_wp2_with fail
   exact HFIN.out _ (HF2.out.sub (List.nil_sublist _))
end Go.Proofs.YtmkoegljnebdiaaGreat
