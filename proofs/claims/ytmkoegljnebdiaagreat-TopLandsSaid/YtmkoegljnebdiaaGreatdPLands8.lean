/- What is proved: the texts Ga Gb Gc Gd Ge Gf Gg, one behind the other; each says at its head what it proves, and under which conditions. -/
import Derived.Test.YtmkoegljnebdiaaGreatdPLands7
namespace Go.Proofs.YtmkoegljnebdiaaGreat
open Go.RowKit
set_option maxRecDepth 100000
set_option maxHeartbeats 16000000

def betwI (a lo hi:Int):Bool:=decide (lo≤a) && decide (a≤hi)
theorem betw_any (a lo hi:Int) (w:World):Calls Tryz.prog 37 #[.int .i64 a,.int .i64 lo,.int .i64 hi] w fun e w'=>e=.returned (.bool (betwI a lo hi))∧w'=w:=by
 have HR:Hid (betwI a lo hi=(decide (lo≤a) && decide (a≤hi))):=Lib.hid rfl
 by_cases h1:lo≤a
 ·have g1:decide (lo≤a)=true:=decide_eq_true h1
  rw [g1,Bool.true_and] at HR
  go_enter Tryz.func37,Tryz.ntmps37
  go_wp2_with fail
  go_ret
  exact ⟨ret_bool HR.out.symm,rfl⟩
 ·have g1:decide (lo≤a)=false:=decide_eq_false h1
  rw [g1,Bool.false_and] at HR
  go_enter Tryz.func37,Tryz.ntmps37
  go_wp2_with fail
  go_ret
  exact ⟨ret_bool HR.out.symm,rfl⟩
def downI (n:Int):Int:=if n < -4503599627370496 ∨ 4503599627370496<n then 536870913 else n * 1000 / 4294967296
theorem down_any (n:Int) (w:World):Calls Tryz.prog 29 #[.int .i64 n] w fun e w'=>e=.returned (.int .i64 (downI n))∧w'=w:=by
 have HR:Hid (downI n=if n < -4503599627370496 ∨ 4503599627370496<n then 536870913 else n * 1000 / 4294967296):=Lib.hid rfl
 by_cases h1:n < -4503599627370496
 ·have g1:decide (n < -4503599627370496)=true:=decide_eq_true h1
  rw [if_pos (.inl h1)] at HR
  go_enter Tryz.func29,Tryz.ntmps29
  go_wp2_with fail
  go_ret
  exact ⟨by rw [HR.out];rfl,rfl⟩
 ·have g1:decide (n < -4503599627370496)=false:=decide_eq_false h1
  by_cases h2:4503599627370496<n
  ·have g2:decide (4503599627370496<n)=true:=decide_eq_true h2
   rw [if_pos (.inr h2)] at HR
   go_enter Tryz.func29,Tryz.ntmps29
   go_wp2_with fail
   go_ret
   exact ⟨by rw [HR.out];rfl,rfl⟩
  ·have g2:decide (4503599627370496<n)=false:=decide_eq_false h2
   rw [if_neg (by omega)] at HR
   have m1:IntKind.i64.wrap (n * 1000)=n * 1000:=IntWalk.i64_in _ (by omega)
   have m1':wrap64 (n * 1000)=n * 1000:=w64_in (by omega) (by omega)
   go_enter Tryz.func29,Tryz.ntmps29
   go_wp2_with fail
   go_ret
   exact ⟨by rw [HR.out];rfl,rfl⟩
def upI (n:Int):Int:=-(downI (-n))
theorem up_any (n:Int) (hn:-9223372036854775807≤n∧n≤9223372036854775807) (w:World):Calls Tryz.prog 30 #[.int .i64 n] w fun e w'=>e=.returned (.int .i64 (upI n))∧w'=w:=by
 have HD:=Lib.hid (fun w=>down_any (-n) w)
 have hr:upI n=-(downI (-n)):=rfl
 have hb:-9223372036854775807≤downI (-n)∧downI (-n)≤9223372036854775807:=by
  unfold downI
  split
  ·omega
  ·omega
 obtain ⟨d,hd⟩:∃ d,downI (-n)=d:=⟨_,rfl⟩
 rw [hd] at HD hr hb
 rw [hr]
 have m1:IntKind.i64.wrap (-n)=-n:=IntWalk.i64_in _ (by omega)
 have m1':wrap64 (-n)=-n:=w64_in (by omega) (by omega)
 have m2:IntKind.i64.wrap (-d)=-d:=IntWalk.i64_in _ (by omega)
 have m2':wrap64 (-d)=-d:=w64_in (by omega) (by omega)
 clear hd hr hb hn
 go_enter Tryz.func30,Tryz.ntmps30
 go_wp2_with fail
 refine (HD.out _).mono ?_
 rintro e w1 ⟨rfl,hw⟩
 rw [hw]
 clear hw w1
 go_wp2_with fail
 go_ret
 exact ⟨by simp,rfl⟩

structure SpotD where
 x:Int
 y:Int
deriving DecidableEq
structure RectD where
 a:SpotD
 b:SpotD
deriving DecidableEq
def spotV (s:SpotD):Value:=.agg #[.int .i64 s.x,.int .i64 s.y]
def rectV (r:RectD):Value:=.agg #[.int .i64 r.a.x,.int .i64 r.a.y,.int .i64 r.b.x,.int .i64 r.b.y]
theorem und_56:Tryz.prog.underlying 56=some (.struct (match Tryz.prog.underlying 56 with | some (.struct f)=>f | _=>#[])):=by kernel_rfl
theorem info_56:(Tryz.prog.info? 56).map (·.size)=some 2:=by kernel_rfl
theorem und_62:Tryz.prog.underlying 62=some (.struct (match Tryz.prog.underlying 62 with | some (.struct f)=>f | _=>#[])):=by kernel_rfl
theorem info_62:(Tryz.prog.info? 62).map (·.size)=some 4:=by kernel_rfl
def rectB (r:RectD):Bool:=betwI r.a.x (-536870912) r.b.x && (decide (r.b.x≤536870912) && (betwI r.a.y (-536870912) r.b.y && decide (r.b.y≤536870912)))
theorem checkRect_any (r:RectD) (w:World):Calls Tryz.prog 31 #[rectV r] w fun e w'=>e=.returned (.bool (rectB r))∧Below w.heap.size w w':=by
 obtain ⟨⟨ax,ay⟩,bx,byy⟩:=r
 have HX:=Lib.hid (fun w=>betw_any ax (-536870912) bx w)
 have HY:=Lib.hid (fun w=>betw_any ay (-536870912) byy w)
 obtain ⟨PQ,hPQ⟩:∃ Q:Ending→World→Prop,(fun e w'=>e=.returned (.bool (rectB ⟨⟨ax,ay⟩,bx,byy⟩))∧Below w.heap.size w w')=Q:=⟨_,rfl⟩
 have HFIN:Hid (∀ w' b,b=rectB ⟨⟨ax,ay⟩,bx,byy⟩→Fr w [] [] w'→PQ (.returned (.bool b)) w'):=Lib.hid fun w' b hb h=>by rw [← hPQ,hb];exact ⟨rfl,h.toBelow⟩
 rw [hPQ]
 unfold rectB at HFIN
 obtain ⟨b1,h1⟩:∃ b,betwI ax (-536870912) bx=b:=⟨_,rfl⟩
 obtain ⟨b3,h3⟩:∃ b,betwI ay (-536870912) byy=b:=⟨_,rfl⟩
 dsimp only at HFIN
 rw [h1] at HX HFIN
 rw [h3] at HY HFIN
 unfold rectV
 dsimp only
 clear hPQ h1 h3
 obtain ⟨qb,hqb⟩:∃ qb,w.heap.size=qb:=⟨_,rfl⟩
 obtain ⟨W0,hW0⟩:∃ W0,w.alloc (.cells #[.int .i64 ax,.int .i64 ay,.int .i64 bx,.int .i64 byy] 62)=W0:=⟨_,rfl⟩
 have HF0:Hid (Fr w [] [(qb,62,iC [ax,ay,bx,byy])] W0):=Lib.hid (by rw [← hW0];exact (Fr.start w).alloc (by simp [← hqb]) 62 #[.int .i64 ax,.int .i64 ay,.int .i64 bx,.int .i64 byy])
 go_enter Tryz.func31,Tryz.ntmps31
 go_upto_region 1 with (fail)
 clear hW0 hqb
 have c1:W0.cell? ⟨qb,0,none⟩=some (.int .i64 ax):=(HF0.out.get 0 rfl).cell 0
 have c2:W0.cell? ⟨qb,2,none⟩=some (.int .i64 bx):=(HF0.out.get 0 rfl).cell 2
 go_wp2_with fail
 clear c1 c2
 refine (HX.out _).mono ?_
 rintro e w3 ⟨rfl,hw⟩
 rw [hw]
 clear hw w3
 cases b1 with
 | false =>
  go_wp2_with fail
  exact HFIN.out _ _ (by simp) HF0.out.drop
 | true =>
  by_cases hx:bx≤536870912
  ·have g1:decide (bx≤536870912)=true:=decide_eq_true hx
   rw [g1] at HFIN
   clear hx
   have c4:W0.cell? ⟨qb,2,none⟩=some (.int .i64 bx):=(HF0.out.get 0 rfl).cell 2
   have c5:W0.cell? ⟨qb,1,none⟩=some (.int .i64 ay):=(HF0.out.get 0 rfl).cell 1
   have c6:W0.cell? ⟨qb,3,none⟩=some (.int .i64 byy):=(HF0.out.get 0 rfl).cell 3
   go_wp2_with fail
   clear c4 c5 c6
   refine (HY.out _).mono ?_
   rintro e w7 ⟨rfl,hw⟩
   rw [hw]
   clear hw w7
   cases b3 with
   | false =>
    go_wp2_with fail
    exact HFIN.out _ _ (by simp) HF0.out.drop
   | true =>
    have c8:W0.cell? ⟨qb,3,none⟩=some (.int .i64 byy):=(HF0.out.get 0 rfl).cell 3
    go_wp2_with fail
    clear c8
    exact HFIN.out _ _ (by simp) HF0.out.drop
  ·have g1:decide (bx≤536870912)=false:=decide_eq_false hx
   rw [g1] at HFIN
   clear hx
   have c4:W0.cell? ⟨qb,2,none⟩=some (.int .i64 bx):=(HF0.out.get 0 rfl).cell 2
   go_wp2_with fail
   clear c4
   exact HFIN.out _ _ (by simp) HF0.out.drop

/-- A quotient, but for what is below 0. -/
def forwB (a b:SpanD):SpanD × Int:=(⟨max 0 (divB a b).1.lo,(divB a b).1.hi⟩,(divB a b).2)
theorem sqr2_any (a b:SpanD) (ha:WdS a) (w:World):Calls Tryz.prog 72 #[spanV a,spanV b] w (SpPost (squareB a) w.heap.size w):=by
 have H1:=Lib.hid (fun w=>square_any a ha w)
 obtain ⟨⟨⟨rl,rh⟩,re⟩,hr⟩:∃ z,squareB a=z:=⟨_,rfl⟩
 rw [hr] at H1 ⊢
 obtain ⟨PQ,hPQ⟩:∃ Q,SpPost (⟨rl,rh⟩,re) w.heap.size w=Q:=⟨_,rfl⟩
 have HFIN:Hid (∀ w',Fr w [] [] w'→PQ (.returned (.tuple #[.agg #[.int .i64 rl,.int .i64 rh],.int .i64 re])) w'):=Lib.hid fun w' h=>by rw [← hPQ];exact ⟨rfl,h.toBelow⟩
 rw [hPQ]
 obtain ⟨al,ah⟩:=a
 obtain ⟨bl,bh⟩:=b
 unfold SpPost spanV at H1
 unfold spanV
 dsimp only at H1 ⊢
 clear hPQ hr ha
 obtain ⟨qb,hqb⟩:∃ qb,w.heap.size=qb:=⟨_,rfl⟩
 obtain ⟨W0,hW0⟩:∃ W0,((w.alloc (.cells #[.int .i64 al,.int .i64 ah] 31)).alloc (.cells #[.int .i64 bl,.int .i64 bh] 31)).alloc (.cells #[.int .i64 0,.int .i64 0] 31)=W0:=⟨_,rfl⟩
 have HF0:Hid (Fr w [] [(qb,31,iC [al,ah]),(qb+1,31,iC [bl,bh]),(qb+1+1,31,iC [0,0])] W0):=Lib.hid (by rw [← hW0];exact (((Fr.start w).alloc (by simp [← hqb]) 31 #[.int .i64 al,.int .i64 ah]).alloc (by simp [← hqb]) 31 #[.int .i64 bl,.int .i64 bh]).alloc (by simp [← hqb]) 31 #[.int .i64 0,.int .i64 0])
 go_enter Tryz.func72,Tryz.ntmps72
 go_upto_region 1 with (fail)
 clear hW0 hqb
 go_wp2_with (refine wpLoadF rfl 31 _ rfl qb 0 rfl _ _ (HF0.out.get 0 rfl) #[.int .i64 al,.int .i64 ah] rfl _ und_span rfl info_span ?_)
 refine (H1.out _).mono ?_
 rintro e w1 ⟨rfl,hw⟩
 have HF2:=Lib.hid (HF0.out.below hw)
 clear hw
 go_wp2_with (refine wpStoreF rfl rfl 31 _ _ rfl (qb+1+1) 0 rfl #[.int .i64 rl,.int .i64 rh] rfl _ _ (iC [rl,rh]) (HF2.out.get 2 rfl) rfl (by show 0+2≤2;omega) (one_all rfl) info_span ?_;intro w3 hk ho;have HF4:=Lib.hid (HF2.out.only 2 rfl ho hk);clear ho hk)
 refine ret_agg2 rfl rfl rfl (HF4.out.get 2 rfl) rfl und_span rfl info_span ?_
 exact HFIN.out _ HF4.out.drop
theorem dbl2_any (a b:SpanD) (ha:WdS a) (w:World):Calls Tryz.prog 73 #[spanV a,spanV b] w (SpPost (scaleB a 2) w.heap.size w):=by
 have H1:=Lib.hid (fun w=>scale_any a 2 ha (by unfold I64;decide) w)
 obtain ⟨⟨⟨rl,rh⟩,re⟩,hr⟩:∃ z,scaleB a 2=z:=⟨_,rfl⟩
 rw [hr] at H1 ⊢
 obtain ⟨PQ,hPQ⟩:∃ Q,SpPost (⟨rl,rh⟩,re) w.heap.size w=Q:=⟨_,rfl⟩
 have HFIN:Hid (∀ w',Fr w [] [] w'→PQ (.returned (.tuple #[.agg #[.int .i64 rl,.int .i64 rh],.int .i64 re])) w'):=Lib.hid fun w' h=>by rw [← hPQ];exact ⟨rfl,h.toBelow⟩
 rw [hPQ]
 obtain ⟨al,ah⟩:=a
 obtain ⟨bl,bh⟩:=b
 unfold SpPost spanV at H1
 unfold spanV
 dsimp only at H1 ⊢
 clear hPQ hr ha
 obtain ⟨qb,hqb⟩:∃ qb,w.heap.size=qb:=⟨_,rfl⟩
 obtain ⟨W0,hW0⟩:∃ W0,((w.alloc (.cells #[.int .i64 al,.int .i64 ah] 31)).alloc (.cells #[.int .i64 bl,.int .i64 bh] 31)).alloc (.cells #[.int .i64 0,.int .i64 0] 31)=W0:=⟨_,rfl⟩
 have HF0:Hid (Fr w [] [(qb,31,iC [al,ah]),(qb+1,31,iC [bl,bh]),(qb+1+1,31,iC [0,0])] W0):=Lib.hid (by rw [← hW0];exact (((Fr.start w).alloc (by simp [← hqb]) 31 #[.int .i64 al,.int .i64 ah]).alloc (by simp [← hqb]) 31 #[.int .i64 bl,.int .i64 bh]).alloc (by simp [← hqb]) 31 #[.int .i64 0,.int .i64 0])
 go_enter Tryz.func73,Tryz.ntmps73
 go_upto_region 1 with (fail)
 clear hW0 hqb
 go_wp2_with (refine wpLoadF rfl 31 _ rfl qb 0 rfl _ _ (HF0.out.get 0 rfl) #[.int .i64 al,.int .i64 ah] rfl _ und_span rfl info_span ?_)
 refine (H1.out _).mono ?_
 rintro e w1 ⟨rfl,hw⟩
 have HF2:=Lib.hid (HF0.out.below hw)
 clear hw
 go_wp2_with (refine wpStoreF rfl rfl 31 _ _ rfl (qb+1+1) 0 rfl #[.int .i64 rl,.int .i64 rh] rfl _ _ (iC [rl,rh]) (HF2.out.get 2 rfl) rfl (by show 0+2≤2;omega) (one_all rfl) info_span ?_;intro w3 hk ho;have HF4:=Lib.hid (HF2.out.only 2 rfl ho hk);clear ho hk)
 refine ret_agg2 rfl rfl rfl (HF4.out.get 2 rfl) rfl und_span rfl info_span ?_
 exact HFIN.out _ HF4.out.drop
theorem root2_any (a b:SpanD) (ha:WdS a) (w:World):Calls Tryz.prog 75 #[spanV a,spanV b] w (SpPost (rootB a) w.heap.size w):=by
 have H1:=Lib.hid (fun w=>rootS_any a ha w)
 obtain ⟨⟨⟨rl,rh⟩,re⟩,hr⟩:∃ z,rootB a=z:=⟨_,rfl⟩
 rw [hr] at H1 ⊢
 obtain ⟨PQ,hPQ⟩:∃ Q,SpPost (⟨rl,rh⟩,re) w.heap.size w=Q:=⟨_,rfl⟩
 have HFIN:Hid (∀ w',Fr w [] [] w'→PQ (.returned (.tuple #[.agg #[.int .i64 rl,.int .i64 rh],.int .i64 re])) w'):=Lib.hid fun w' h=>by rw [← hPQ];exact ⟨rfl,h.toBelow⟩
 rw [hPQ]
 obtain ⟨al,ah⟩:=a
 obtain ⟨bl,bh⟩:=b
 unfold SpPost spanV at H1
 unfold spanV
 dsimp only at H1 ⊢
 clear hPQ hr ha
 obtain ⟨qb,hqb⟩:∃ qb,w.heap.size=qb:=⟨_,rfl⟩
 obtain ⟨W0,hW0⟩:∃ W0,((w.alloc (.cells #[.int .i64 al,.int .i64 ah] 31)).alloc (.cells #[.int .i64 bl,.int .i64 bh] 31)).alloc (.cells #[.int .i64 0,.int .i64 0] 31)=W0:=⟨_,rfl⟩
 have HF0:Hid (Fr w [] [(qb,31,iC [al,ah]),(qb+1,31,iC [bl,bh]),(qb+1+1,31,iC [0,0])] W0):=Lib.hid (by rw [← hW0];exact (((Fr.start w).alloc (by simp [← hqb]) 31 #[.int .i64 al,.int .i64 ah]).alloc (by simp [← hqb]) 31 #[.int .i64 bl,.int .i64 bh]).alloc (by simp [← hqb]) 31 #[.int .i64 0,.int .i64 0])
 go_enter Tryz.func75,Tryz.ntmps75
 go_upto_region 1 with (fail)
 clear hW0 hqb
 go_wp2_with (refine wpLoadF rfl 31 _ rfl qb 0 rfl _ _ (HF0.out.get 0 rfl) #[.int .i64 al,.int .i64 ah] rfl _ und_span rfl info_span ?_)
 refine (H1.out _).mono ?_
 rintro e w1 ⟨rfl,hw⟩
 have HF2:=Lib.hid (HF0.out.below hw)
 clear hw
 go_wp2_with (refine wpStoreF rfl rfl 31 _ _ rfl (qb+1+1) 0 rfl #[.int .i64 rl,.int .i64 rh] rfl _ _ (iC [rl,rh]) (HF2.out.get 2 rfl) rfl (by show 0+2≤2;omega) (one_all rfl) info_span ?_;intro w3 hk ho;have HF4:=Lib.hid (HF2.out.only 2 rfl ho hk);clear ho hk)
 refine ret_agg2 rfl rfl rfl (HF4.out.get 2 rfl) rfl und_span rfl info_span ?_
 exact HFIN.out _ HF4.out.drop
theorem forw_any (a b:SpanD) (ha:WdS a) (hb:WdS b) (w:World):Calls Tryz.prog 76 #[spanV a,spanV b] w (SpPost (forwB a b) w.heap.size w):=by
 have H1:=Lib.hid (fun w=>div_any a b ha hb w)
 have he:forwB a b=(⟨max 0 (divB a b).1.lo,(divB a b).1.hi⟩,(divB a b).2):=rfl
 rw [he]
 obtain ⟨⟨⟨rl,rh⟩,re⟩,hr⟩:∃ z,divB a b=z:=⟨_,rfl⟩
 rw [hr] at H1 ⊢
 dsimp only
 obtain ⟨PQ,hPQ⟩:∃ Q,SpPost (⟨max 0 rl,rh⟩,re) w.heap.size w=Q:=⟨_,rfl⟩
 have HFIN:Hid (∀ w',Fr w [] [] w'→PQ (.returned (.tuple #[.agg #[.int .i64 (max 0 rl),.int .i64 rh],.int .i64 re])) w'):=Lib.hid fun w' h=>by rw [← hPQ];exact ⟨rfl,h.toBelow⟩
 rw [hPQ]
 obtain ⟨al,ah⟩:=a
 obtain ⟨bl,bh⟩:=b
 unfold SpPost spanV at H1
 unfold spanV
 dsimp only at H1 ⊢
 clear hPQ hr he ha hb
 obtain ⟨qb,hqb⟩:∃ qb,w.heap.size=qb:=⟨_,rfl⟩
 obtain ⟨W0,hW0⟩:∃ W0,((w.alloc (.cells #[.int .i64 al,.int .i64 ah] 31)).alloc (.cells #[.int .i64 bl,.int .i64 bh] 31)).alloc (.cells #[.int .i64 0,.int .i64 0] 31)=W0:=⟨_,rfl⟩
 have HF0:Hid (Fr w [] [(qb,31,iC [al,ah]),(qb+1,31,iC [bl,bh]),(qb+1+1,31,iC [0,0])] W0):=Lib.hid (by rw [← hW0];exact (((Fr.start w).alloc (by simp [← hqb]) 31 #[.int .i64 al,.int .i64 ah]).alloc (by simp [← hqb]) 31 #[.int .i64 bl,.int .i64 bh]).alloc (by simp [← hqb]) 31 #[.int .i64 0,.int .i64 0])
 go_enter Tryz.func76,Tryz.ntmps76
 go_upto_region 1 with (fail)
 clear hW0 hqb
 go_wp2_with (first
   | (refine wpLoadF rfl 31 _ rfl qb 0 rfl _ _ (HF0.out.get 0 rfl) #[.int .i64 al,.int .i64 ah] rfl _ und_span rfl info_span ?_)
   | (refine wpLoadF rfl 31 _ rfl (qb+1) 0 rfl _ _ (HF0.out.get 1 rfl) #[.int .i64 bl,.int .i64 bh] rfl _ und_span rfl info_span ?_))
 refine (H1.out _).mono ?_
 rintro e w1 ⟨rfl,hw⟩
 have HF2:=Lib.hid (HF0.out.below hw)
 clear hw
 obtain ⟨g3,hg3⟩:∃ g,w1.heap.size=g:=⟨_,rfl⟩
 obtain ⟨w3,hw3⟩:∃ u,w1.alloc (.cells #[.int .i64 0,.int .i64 0] 31)=u:=⟨_,rfl⟩
 have HF4:=Lib.hid (frE hw3 (HF2.out.alloc hg3.symm 31 #[.int .i64 0,.int .i64 0]))
 go_wp2_with (first
   | (refine wpStoreF rfl rfl 31 _ _ rfl g3 0 rfl #[.int .i64 rl,.int .i64 rh] rfl _ _ (iC [rl,rh]) (HF4.out.get 3 rfl) rfl (by show 0+2≤2;omega) (one_all rfl) info_span ?_;intro w5 hk ho;clear hw3 hg3;have HF6:=Lib.hid (HF4.out.only 3 rfl ho hk);clear ho hk;have c7:w5.cell? ⟨g3,0,none⟩=some (.int .i64 rl):=(HF6.out.get 3 rfl).cell 0)
   | (refine wpLoadF rfl 31 _ rfl g3 0 rfl _ _ (HF9.out.get 3 rfl) #[.int .i64 (max 0 rl),.int .i64 rh] rfl _ und_span rfl info_span ?_)
   | (refine wpStoreCell rfl rfl 29 _ _ rfl g3 0 rfl (.int .i64 (max 0 rl)) rfl _ _ (HF6.out.get 3 rfl) (by show 0<2;omega) rfl (by kernel_rfl) ?_;intro w8 hk ho;clear c7;have HF9:=Lib.hid (HF6.out.only 3 rfl ho hk);clear ho hk)
   | (refine wpStoreF rfl rfl 31 _ _ rfl (qb+1+1) 0 rfl #[.int .i64 (max 0 rl),.int .i64 rh] rfl _ _ (iC [max 0 rl,rh]) (HF9.out.get 2 rfl) rfl (by show 0+2≤2;omega) (one_all rfl) info_span ?_;intro w10 hk ho;have HF11:=Lib.hid (HF9.out.only 2 rfl ho hk);clear ho hk))
 refine ret_agg2 rfl rfl rfl (HF11.out.get 2 rfl) rfl und_span rfl info_span ?_
 exact HFIN.out _ HF11.out.drop

structure FallD where
 x:SpanD
 y:SpanD
 h:SpanD
 vx:SpanD
 vy:SpanD
 vz:SpanD
 pull:SpanD
 wx:SpanD
 wy:SpanD
def fallA (f:FallD):Array Value:=#[.int .i64 f.x.lo,.int .i64 f.x.hi,.int .i64 f.y.lo,.int .i64 f.y.hi,.int .i64 f.h.lo,.int .i64 f.h.hi,.int .i64 f.vx.lo,.int .i64 f.vx.hi,.int .i64 f.vy.lo,.int .i64 f.vy.hi,.int .i64 f.vz.lo,.int .i64 f.vz.hi,.int .i64 f.pull.lo,.int .i64 f.pull.hi,.int .i64 f.wx.lo,.int .i64 f.wx.hi,.int .i64 f.wy.lo,.int .i64 f.wy.hi]
def fallV (f:FallD):Value:=.agg (fallA f)
def fallB (f:FallD):Bool:=chkB f.x && (chkB f.y && (chkB f.h && (chkB f.vx && (chkB f.vy && (chkB f.vz && (chkB f.pull && (chkB f.wx && (chkB f.wy && (decide (0<f.pull.lo) && decide (0≤f.h.lo))))))))))
theorem und_60:Tryz.prog.underlying 60=some (.struct (match Tryz.prog.underlying 60 with | some (.struct f)=>f | _=>#[])):=by kernel_rfl
theorem info_60:(Tryz.prog.info? 60).map (·.size)=some 18:=by kernel_rfl
theorem und171a:Tryz.prog.underlying 171=some (.array 9 31):=by kernel_rfl
theorem index171 (a0 b0 a1 b1 a2 b2 a3 b3 a4 b4 a5 b5 a6 b6 a7 b7 a8 b8:Int) (w:World):(Instr.index 171 (.agg #[.int .i64 a0,.int .i64 b0,.int .i64 a1,.int .i64 b1,.int .i64 a2,.int .i64 b2,.int .i64 a3,.int .i64 b3,.int .i64 a4,.int .i64 b4,.int .i64 a5,.int .i64 b5,.int .i64 a6,.int .i64 b6,.int .i64 a7,.int .i64 b7,.int .i64 a8,.int .i64 b8]) (.int .i64 0)).run Tryz.prog w=.ok (.agg #[.int .i64 a0,.int .i64 b0]) w∧(Instr.index 171 (.agg #[.int .i64 a0,.int .i64 b0,.int .i64 a1,.int .i64 b1,.int .i64 a2,.int .i64 b2,.int .i64 a3,.int .i64 b3,.int .i64 a4,.int .i64 b4,.int .i64 a5,.int .i64 b5,.int .i64 a6,.int .i64 b6,.int .i64 a7,.int .i64 b7,.int .i64 a8,.int .i64 b8]) (.int .i64 1)).run Tryz.prog w=.ok (.agg #[.int .i64 a1,.int .i64 b1]) w∧(Instr.index 171 (.agg #[.int .i64 a0,.int .i64 b0,.int .i64 a1,.int .i64 b1,.int .i64 a2,.int .i64 b2,.int .i64 a3,.int .i64 b3,.int .i64 a4,.int .i64 b4,.int .i64 a5,.int .i64 b5,.int .i64 a6,.int .i64 b6,.int .i64 a7,.int .i64 b7,.int .i64 a8,.int .i64 b8]) (.int .i64 2)).run Tryz.prog w=.ok (.agg #[.int .i64 a2,.int .i64 b2]) w∧(Instr.index 171 (.agg #[.int .i64 a0,.int .i64 b0,.int .i64 a1,.int .i64 b1,.int .i64 a2,.int .i64 b2,.int .i64 a3,.int .i64 b3,.int .i64 a4,.int .i64 b4,.int .i64 a5,.int .i64 b5,.int .i64 a6,.int .i64 b6,.int .i64 a7,.int .i64 b7,.int .i64 a8,.int .i64 b8]) (.int .i64 3)).run Tryz.prog w=.ok (.agg #[.int .i64 a3,.int .i64 b3]) w∧(Instr.index 171 (.agg #[.int .i64 a0,.int .i64 b0,.int .i64 a1,.int .i64 b1,.int .i64 a2,.int .i64 b2,.int .i64 a3,.int .i64 b3,.int .i64 a4,.int .i64 b4,.int .i64 a5,.int .i64 b5,.int .i64 a6,.int .i64 b6,.int .i64 a7,.int .i64 b7,.int .i64 a8,.int .i64 b8]) (.int .i64 4)).run Tryz.prog w=.ok (.agg #[.int .i64 a4,.int .i64 b4]) w∧(Instr.index 171 (.agg #[.int .i64 a0,.int .i64 b0,.int .i64 a1,.int .i64 b1,.int .i64 a2,.int .i64 b2,.int .i64 a3,.int .i64 b3,.int .i64 a4,.int .i64 b4,.int .i64 a5,.int .i64 b5,.int .i64 a6,.int .i64 b6,.int .i64 a7,.int .i64 b7,.int .i64 a8,.int .i64 b8]) (.int .i64 5)).run Tryz.prog w=.ok (.agg #[.int .i64 a5,.int .i64 b5]) w∧(Instr.index 171 (.agg #[.int .i64 a0,.int .i64 b0,.int .i64 a1,.int .i64 b1,.int .i64 a2,.int .i64 b2,.int .i64 a3,.int .i64 b3,.int .i64 a4,.int .i64 b4,.int .i64 a5,.int .i64 b5,.int .i64 a6,.int .i64 b6,.int .i64 a7,.int .i64 b7,.int .i64 a8,.int .i64 b8]) (.int .i64 6)).run Tryz.prog w=.ok (.agg #[.int .i64 a6,.int .i64 b6]) w∧(Instr.index 171 (.agg #[.int .i64 a0,.int .i64 b0,.int .i64 a1,.int .i64 b1,.int .i64 a2,.int .i64 b2,.int .i64 a3,.int .i64 b3,.int .i64 a4,.int .i64 b4,.int .i64 a5,.int .i64 b5,.int .i64 a6,.int .i64 b6,.int .i64 a7,.int .i64 b7,.int .i64 a8,.int .i64 b8]) (.int .i64 7)).run Tryz.prog w=.ok (.agg #[.int .i64 a7,.int .i64 b7]) w∧(Instr.index 171 (.agg #[.int .i64 a0,.int .i64 b0,.int .i64 a1,.int .i64 b1,.int .i64 a2,.int .i64 b2,.int .i64 a3,.int .i64 b3,.int .i64 a4,.int .i64 b4,.int .i64 a5,.int .i64 b5,.int .i64 a6,.int .i64 b6,.int .i64 a7,.int .i64 b7,.int .i64 a8,.int .i64 b8]) (.int .i64 8)).run Tryz.prog w=.ok (.agg #[.int .i64 a8,.int .i64 b8]) w:=by
 obtain ⟨i,hi,hs⟩:=Option.map_eq_some_iff.1 info_span
 refine ⟨?_,?_,?_,?_,?_,?_,?_,?_,?_⟩ <;> simp [Instr.index,run_underlying und171a,asIntOf,sizeOf,typeInfo,hi,hs,part]
theorem fvalidF_any (f:FallD) (w:World):Calls Tryz.prog 27 #[fallV f] w fun e w'=>e=.returned (.bool (fallB f))∧Below w.heap.size w w':=by
 obtain ⟨PQ,hPQ⟩:∃ Q:Ending→World→Prop,(fun e w'=>e=.returned (.bool (fallB f))∧Below w.heap.size w w')=Q:=⟨_,rfl⟩
 have HFIN:Hid (∀ w' b,b=fallB f→Fr w [] [] w'→PQ (.returned (.bool b)) w'):=Lib.hid fun w' b hb h=>by rw [← hPQ,hb];exact ⟨rfl,h.toBelow⟩
 rw [hPQ]
 unfold fallB at HFIN
 have C0:=Lib.hid (fun w=>check_any f.x w)
 have C1:=Lib.hid (fun w=>check_any f.y w)
 have C2:=Lib.hid (fun w=>check_any f.h w)
 have C3:=Lib.hid (fun w=>check_any f.vx w)
 have C4:=Lib.hid (fun w=>check_any f.vy w)
 have C5:=Lib.hid (fun w=>check_any f.vz w)
 have C6:=Lib.hid (fun w=>check_any f.pull w)
 have C7:=Lib.hid (fun w=>check_any f.wx w)
 have C8:=Lib.hid (fun w=>check_any f.wy w)
 obtain ⟨⟨a0,b0⟩,⟨a1,b1⟩,⟨a2,b2⟩,⟨a3,b3⟩,⟨a4,b4⟩,⟨a5,b5⟩,⟨a6,b6⟩,⟨a7,b7⟩,⟨a8,b8⟩⟩:=f
 have I0:=fun w=>(index171 a0 b0 a1 b1 a2 b2 a3 b3 a4 b4 a5 b5 a6 b6 a7 b7 a8 b8 w).1
 have I1:=fun w=>(index171 a0 b0 a1 b1 a2 b2 a3 b3 a4 b4 a5 b5 a6 b6 a7 b7 a8 b8 w).2.1
 have I2:=fun w=>(index171 a0 b0 a1 b1 a2 b2 a3 b3 a4 b4 a5 b5 a6 b6 a7 b7 a8 b8 w).2.2.1
 have I3:=fun w=>(index171 a0 b0 a1 b1 a2 b2 a3 b3 a4 b4 a5 b5 a6 b6 a7 b7 a8 b8 w).2.2.2.1
 have I4:=fun w=>(index171 a0 b0 a1 b1 a2 b2 a3 b3 a4 b4 a5 b5 a6 b6 a7 b7 a8 b8 w).2.2.2.2.1
 have I5:=fun w=>(index171 a0 b0 a1 b1 a2 b2 a3 b3 a4 b4 a5 b5 a6 b6 a7 b7 a8 b8 w).2.2.2.2.2.1
 have I6:=fun w=>(index171 a0 b0 a1 b1 a2 b2 a3 b3 a4 b4 a5 b5 a6 b6 a7 b7 a8 b8 w).2.2.2.2.2.2.1
 have I7:=fun w=>(index171 a0 b0 a1 b1 a2 b2 a3 b3 a4 b4 a5 b5 a6 b6 a7 b7 a8 b8 w).2.2.2.2.2.2.2.1
 have I8:=fun w=>(index171 a0 b0 a1 b1 a2 b2 a3 b3 a4 b4 a5 b5 a6 b6 a7 b7 a8 b8 w).2.2.2.2.2.2.2.2
 unfold spanV errC at C0
 dsimp only at C0
 obtain ⟨k0,hk0⟩:∃ b,chkB ⟨a0,b0⟩=b:=⟨_,rfl⟩
 rw [hk0] at C0
 unfold spanV errC at C1
 dsimp only at C1
 obtain ⟨k1,hk1⟩:∃ b,chkB ⟨a1,b1⟩=b:=⟨_,rfl⟩
 rw [hk1] at C1
 unfold spanV errC at C2
 dsimp only at C2
 obtain ⟨k2,hk2⟩:∃ b,chkB ⟨a2,b2⟩=b:=⟨_,rfl⟩
 rw [hk2] at C2
 unfold spanV errC at C3
 dsimp only at C3
 obtain ⟨k3,hk3⟩:∃ b,chkB ⟨a3,b3⟩=b:=⟨_,rfl⟩
 rw [hk3] at C3
 unfold spanV errC at C4
 dsimp only at C4
 obtain ⟨k4,hk4⟩:∃ b,chkB ⟨a4,b4⟩=b:=⟨_,rfl⟩
 rw [hk4] at C4
 unfold spanV errC at C5
 dsimp only at C5
 obtain ⟨k5,hk5⟩:∃ b,chkB ⟨a5,b5⟩=b:=⟨_,rfl⟩
 rw [hk5] at C5
 unfold spanV errC at C6
 dsimp only at C6
 obtain ⟨k6,hk6⟩:∃ b,chkB ⟨a6,b6⟩=b:=⟨_,rfl⟩
 rw [hk6] at C6
 unfold spanV errC at C7
 dsimp only at C7
 obtain ⟨k7,hk7⟩:∃ b,chkB ⟨a7,b7⟩=b:=⟨_,rfl⟩
 rw [hk7] at C7
 unfold spanV errC at C8
 dsimp only at C8
 obtain ⟨k8,hk8⟩:∃ b,chkB ⟨a8,b8⟩=b:=⟨_,rfl⟩
 rw [hk8] at C8
 dsimp only at HFIN
 rw [hk0,hk1,hk2,hk3,hk4,hk5,hk6,hk7,hk8] at HFIN
 unfold fallV fallA
 dsimp only
 clear hPQ hk0 hk1 hk2 hk3 hk4 hk5 hk6 hk7 hk8
 obtain ⟨qb,hqb⟩:∃ qb,w.heap.size=qb:=⟨_,rfl⟩
 obtain ⟨W0,hW0⟩:∃ W0,w.alloc (.cells #[.int .i64 a0,.int .i64 b0,.int .i64 a1,.int .i64 b1,.int .i64 a2,.int .i64 b2,.int .i64 a3,.int .i64 b3,.int .i64 a4,.int .i64 b4,.int .i64 a5,.int .i64 b5,.int .i64 a6,.int .i64 b6,.int .i64 a7,.int .i64 b7,.int .i64 a8,.int .i64 b8] 60)=W0:=⟨_,rfl⟩
 have HF0:Hid (Fr w [] [(qb,60,iC [a0,b0,a1,b1,a2,b2,a3,b3,a4,b4,a5,b5,a6,b6,a7,b7,a8,b8])] W0):=Lib.hid (by rw [← hW0];exact (Fr.start w).alloc (by simp [← hqb]) 60 #[.int .i64 a0,.int .i64 b0,.int .i64 a1,.int .i64 b1,.int .i64 a2,.int .i64 b2,.int .i64 a3,.int .i64 b3,.int .i64 a4,.int .i64 b4,.int .i64 a5,.int .i64 b5,.int .i64 a6,.int .i64 b6,.int .i64 a7,.int .i64 b7,.int .i64 a8,.int .i64 b8])
 go_enter Tryz.func27,Tryz.ntmps27
 go_upto_region 1 with (fail)
 clear hW0 hqb
 go_wp2_with (first
   | (refine wpLoadF rfl 31 _ rfl qb 0 rfl _ _ (HF0.out.get 0 rfl) #[.int .i64 a0,.int .i64 b0] rfl _ und_span rfl info_span ?_)
   | (refine wpLoadF rfl 31 _ rfl qb 2 rfl _ _ (HF0.out.get 0 rfl) #[.int .i64 a1,.int .i64 b1] rfl _ und_span rfl info_span ?_)
   | (refine wpLoadF rfl 31 _ rfl qb 4 rfl _ _ (HF0.out.get 0 rfl) #[.int .i64 a2,.int .i64 b2] rfl _ und_span rfl info_span ?_)
   | (refine wpLoadF rfl 31 _ rfl qb 6 rfl _ _ (HF0.out.get 0 rfl) #[.int .i64 a3,.int .i64 b3] rfl _ und_span rfl info_span ?_)
   | (refine wpLoadF rfl 31 _ rfl qb 8 rfl _ _ (HF0.out.get 0 rfl) #[.int .i64 a4,.int .i64 b4] rfl _ und_span rfl info_span ?_)
   | (refine wpLoadF rfl 31 _ rfl qb 10 rfl _ _ (HF0.out.get 0 rfl) #[.int .i64 a5,.int .i64 b5] rfl _ und_span rfl info_span ?_)
   | (refine wpLoadF rfl 31 _ rfl qb 12 rfl _ _ (HF0.out.get 0 rfl) #[.int .i64 a6,.int .i64 b6] rfl _ und_span rfl info_span ?_)
   | (refine wpLoadF rfl 31 _ rfl qb 14 rfl _ _ (HF0.out.get 0 rfl) #[.int .i64 a7,.int .i64 b7] rfl _ und_span rfl info_span ?_)
   | (refine wpLoadF rfl 31 _ rfl qb 16 rfl _ _ (HF0.out.get 0 rfl) #[.int .i64 a8,.int .i64 b8] rfl _ und_span rfl info_span ?_))
 refine wp_loop_rounds 10 ?_
 rw [rounds_succ]
 cases k0 with
 | false =>
  simp only [Bool.false_eq_true,if_false] at C0
  obtain ⟨g1,hg1⟩:∃ g,W0.heap.size=g:=⟨_,rfl⟩
  obtain ⟨w1,hw1⟩:∃ u,W0.alloc (.cells #[.int .i64 0,.int .i64 0] 31)=u:=⟨_,rfl⟩
  have HF2:Hid (Fr w [] [(qb,60,iC [a0,b0,a1,b1,a2,b2,a3,b3,a4,b4,a5,b5,a6,b6,a7,b7,a8,b8]),(g1,31,iC [0,0])] w1):=Lib.hid (by rw [← hw1];exact HF0.out.alloc hg1.symm 31 #[.int .i64 0,.int .i64 0])
  go_wp2_with (first
    | (refine wpLoadF rfl 31 _ rfl g1 0 rfl _ _ (HF4.out.get 1 rfl) #[.int .i64 a0,.int .i64 b0] rfl _ und_span rfl info_span ?_)
    | (refine wpStoreF rfl rfl 31 _ _ rfl g1 0 rfl #[.int .i64 a0,.int .i64 b0] rfl _ _ (iC [a0,b0]) (HF2.out.get 1 rfl) rfl (by show 0+2≤2;omega) (one_all rfl) info_span ?_;intro w3 hk ho;clear hw1 hg1;have HF4:Hid (Fr w [] [(qb,60,iC [a0,b0,a1,b1,a2,b2,a3,b3,a4,b4,a5,b5,a6,b6,a7,b7,a8,b8]),(g1,31,iC [a0,b0])] w3):=Lib.hid (HF2.out.only 1 rfl ho hk);clear ho hk))
  refine (C0.out _).mono ?_
  rintro e w5 ⟨rfl,hw⟩
  have HF6:Hid (Fr w [] [(qb,60,iC [a0,b0,a1,b1,a2,b2,a3,b3,a4,b4,a5,b5,a6,b6,a7,b7,a8,b8]),(g1,31,iC [a0,b0])] w5):=Lib.hid (HF4.out.below hw)
  clear hw
  go_wp2_with fail
  exact HFIN.out _ _ (by simp) HF6.out.drop
 | true =>
  simp only [if_true] at C0
  obtain ⟨g1,hg1⟩:∃ g,W0.heap.size=g:=⟨_,rfl⟩
  obtain ⟨w1,hw1⟩:∃ u,W0.alloc (.cells #[.int .i64 0,.int .i64 0] 31)=u:=⟨_,rfl⟩
  have HF2:Hid (Fr w [] [(qb,60,iC [a0,b0,a1,b1,a2,b2,a3,b3,a4,b4,a5,b5,a6,b6,a7,b7,a8,b8]),(g1,31,iC [0,0])] w1):=Lib.hid (by rw [← hw1];exact HF0.out.alloc hg1.symm 31 #[.int .i64 0,.int .i64 0])
  go_wp2_with (first
    | (refine wpLoadF rfl 31 _ rfl g1 0 rfl _ _ (HF4.out.get 1 rfl) #[.int .i64 a0,.int .i64 b0] rfl _ und_span rfl info_span ?_)
    | (refine wpStoreF rfl rfl 31 _ _ rfl g1 0 rfl #[.int .i64 a0,.int .i64 b0] rfl _ _ (iC [a0,b0]) (HF2.out.get 1 rfl) rfl (by show 0+2≤2;omega) (one_all rfl) info_span ?_;intro w3 hk ho;clear hw1 hg1;have HF4:Hid (Fr w [] [(qb,60,iC [a0,b0,a1,b1,a2,b2,a3,b3,a4,b4,a5,b5,a6,b6,a7,b7,a8,b8]),(g1,31,iC [a0,b0])] w3):=Lib.hid (HF2.out.only 1 rfl ho hk);clear ho hk))
  refine (C0.out _).mono ?_
  rintro e w5 ⟨rfl,hw⟩
  have HF6:Hid (Fr w [] [(qb,60,iC [a0,b0,a1,b1,a2,b2,a3,b3,a4,b4,a5,b5,a6,b6,a7,b7,a8,b8]),(g1,31,iC [a0,b0])] w5):=Lib.hid (HF4.out.below hw)
  clear hw
  go_wp2_with fail
  clear C0 I0
  rw [rounds_succ]
  cases k1 with
  | false =>
   simp only [Bool.false_eq_true,if_false] at C1
   obtain ⟨g7,hg7⟩:∃ g,w5.heap.size=g:=⟨_,rfl⟩
   obtain ⟨w7,hw7⟩:∃ u,w5.alloc (.cells #[.int .i64 0,.int .i64 0] 31)=u:=⟨_,rfl⟩
   have HF8:Hid (Fr w [] [(qb,60,iC [a0,b0,a1,b1,a2,b2,a3,b3,a4,b4,a5,b5,a6,b6,a7,b7,a8,b8]),(g1,31,iC [a0,b0]),(g7,31,iC [0,0])] w7):=Lib.hid (by rw [← hw7];exact HF6.out.alloc hg7.symm 31 #[.int .i64 0,.int .i64 0])
   go_wp2_with (first
     | (refine wpLoadF rfl 31 _ rfl g7 0 rfl _ _ (HF10.out.get 2 rfl) #[.int .i64 a1,.int .i64 b1] rfl _ und_span rfl info_span ?_)
     | (refine wpStoreF rfl rfl 31 _ _ rfl g7 0 rfl #[.int .i64 a1,.int .i64 b1] rfl _ _ (iC [a1,b1]) (HF8.out.get 2 rfl) rfl (by show 0+2≤2;omega) (one_all rfl) info_span ?_;intro w9 hk ho;clear hw7 hg7;have HF10:Hid (Fr w [] [(qb,60,iC [a0,b0,a1,b1,a2,b2,a3,b3,a4,b4,a5,b5,a6,b6,a7,b7,a8,b8]),(g1,31,iC [a0,b0]),(g7,31,iC [a1,b1])] w9):=Lib.hid (HF8.out.only 2 rfl ho hk);clear ho hk))
   refine (C1.out _).mono ?_
   rintro e w11 ⟨rfl,hw⟩
   have HF12:Hid (Fr w [] [(qb,60,iC [a0,b0,a1,b1,a2,b2,a3,b3,a4,b4,a5,b5,a6,b6,a7,b7,a8,b8]),(g1,31,iC [a0,b0]),(g7,31,iC [a1,b1])] w11):=Lib.hid (HF10.out.below hw)
   clear hw
   go_wp2_with fail
   exact HFIN.out _ _ (by simp) HF12.out.drop
  | true =>
   simp only [if_true] at C1
   obtain ⟨g7,hg7⟩:∃ g,w5.heap.size=g:=⟨_,rfl⟩
   obtain ⟨w7,hw7⟩:∃ u,w5.alloc (.cells #[.int .i64 0,.int .i64 0] 31)=u:=⟨_,rfl⟩
   have HF8:Hid (Fr w [] [(qb,60,iC [a0,b0,a1,b1,a2,b2,a3,b3,a4,b4,a5,b5,a6,b6,a7,b7,a8,b8]),(g1,31,iC [a0,b0]),(g7,31,iC [0,0])] w7):=Lib.hid (by rw [← hw7];exact HF6.out.alloc hg7.symm 31 #[.int .i64 0,.int .i64 0])
   go_wp2_with (first
     | (refine wpLoadF rfl 31 _ rfl g7 0 rfl _ _ (HF10.out.get 2 rfl) #[.int .i64 a1,.int .i64 b1] rfl _ und_span rfl info_span ?_)
     | (refine wpStoreF rfl rfl 31 _ _ rfl g7 0 rfl #[.int .i64 a1,.int .i64 b1] rfl _ _ (iC [a1,b1]) (HF8.out.get 2 rfl) rfl (by show 0+2≤2;omega) (one_all rfl) info_span ?_;intro w9 hk ho;clear hw7 hg7;have HF10:Hid (Fr w [] [(qb,60,iC [a0,b0,a1,b1,a2,b2,a3,b3,a4,b4,a5,b5,a6,b6,a7,b7,a8,b8]),(g1,31,iC [a0,b0]),(g7,31,iC [a1,b1])] w9):=Lib.hid (HF8.out.only 2 rfl ho hk);clear ho hk))
   refine (C1.out _).mono ?_
   rintro e w11 ⟨rfl,hw⟩
   have HF12:Hid (Fr w [] [(qb,60,iC [a0,b0,a1,b1,a2,b2,a3,b3,a4,b4,a5,b5,a6,b6,a7,b7,a8,b8]),(g1,31,iC [a0,b0]),(g7,31,iC [a1,b1])] w11):=Lib.hid (HF10.out.below hw)
   clear hw
   go_wp2_with fail
   clear C1 I1
   rw [rounds_succ]
   cases k2 with
   | false =>
    simp only [Bool.false_eq_true,if_false] at C2
    obtain ⟨g13,hg13⟩:∃ g,w11.heap.size=g:=⟨_,rfl⟩
    obtain ⟨w13,hw13⟩:∃ u,w11.alloc (.cells #[.int .i64 0,.int .i64 0] 31)=u:=⟨_,rfl⟩
    have HF14:Hid (Fr w [] [(qb,60,iC [a0,b0,a1,b1,a2,b2,a3,b3,a4,b4,a5,b5,a6,b6,a7,b7,a8,b8]),(g1,31,iC [a0,b0]),(g7,31,iC [a1,b1]),(g13,31,iC [0,0])] w13):=Lib.hid (by rw [← hw13];exact HF12.out.alloc hg13.symm 31 #[.int .i64 0,.int .i64 0])
    go_wp2_with (first
      | (refine wpLoadF rfl 31 _ rfl g13 0 rfl _ _ (HF16.out.get 3 rfl) #[.int .i64 a2,.int .i64 b2] rfl _ und_span rfl info_span ?_)
      | (refine wpStoreF rfl rfl 31 _ _ rfl g13 0 rfl #[.int .i64 a2,.int .i64 b2] rfl _ _ (iC [a2,b2]) (HF14.out.get 3 rfl) rfl (by show 0+2≤2;omega) (one_all rfl) info_span ?_;intro w15 hk ho;clear hw13 hg13;have HF16:Hid (Fr w [] [(qb,60,iC [a0,b0,a1,b1,a2,b2,a3,b3,a4,b4,a5,b5,a6,b6,a7,b7,a8,b8]),(g1,31,iC [a0,b0]),(g7,31,iC [a1,b1]),(g13,31,iC [a2,b2])] w15):=Lib.hid (HF14.out.only 3 rfl ho hk);clear ho hk))
    refine (C2.out _).mono ?_
    rintro e w17 ⟨rfl,hw⟩
    have HF18:Hid (Fr w [] [(qb,60,iC [a0,b0,a1,b1,a2,b2,a3,b3,a4,b4,a5,b5,a6,b6,a7,b7,a8,b8]),(g1,31,iC [a0,b0]),(g7,31,iC [a1,b1]),(g13,31,iC [a2,b2])] w17):=Lib.hid (HF16.out.below hw)
    clear hw
    go_wp2_with fail
    exact HFIN.out _ _ (by simp) HF18.out.drop
   | true =>
    simp only [if_true] at C2
    obtain ⟨g13,hg13⟩:∃ g,w11.heap.size=g:=⟨_,rfl⟩
    obtain ⟨w13,hw13⟩:∃ u,w11.alloc (.cells #[.int .i64 0,.int .i64 0] 31)=u:=⟨_,rfl⟩
    have HF14:Hid (Fr w [] [(qb,60,iC [a0,b0,a1,b1,a2,b2,a3,b3,a4,b4,a5,b5,a6,b6,a7,b7,a8,b8]),(g1,31,iC [a0,b0]),(g7,31,iC [a1,b1]),(g13,31,iC [0,0])] w13):=Lib.hid (by rw [← hw13];exact HF12.out.alloc hg13.symm 31 #[.int .i64 0,.int .i64 0])
    go_wp2_with (first
      | (refine wpLoadF rfl 31 _ rfl g13 0 rfl _ _ (HF16.out.get 3 rfl) #[.int .i64 a2,.int .i64 b2] rfl _ und_span rfl info_span ?_)
      | (refine wpStoreF rfl rfl 31 _ _ rfl g13 0 rfl #[.int .i64 a2,.int .i64 b2] rfl _ _ (iC [a2,b2]) (HF14.out.get 3 rfl) rfl (by show 0+2≤2;omega) (one_all rfl) info_span ?_;intro w15 hk ho;clear hw13 hg13;have HF16:Hid (Fr w [] [(qb,60,iC [a0,b0,a1,b1,a2,b2,a3,b3,a4,b4,a5,b5,a6,b6,a7,b7,a8,b8]),(g1,31,iC [a0,b0]),(g7,31,iC [a1,b1]),(g13,31,iC [a2,b2])] w15):=Lib.hid (HF14.out.only 3 rfl ho hk);clear ho hk))
    refine (C2.out _).mono ?_
    rintro e w17 ⟨rfl,hw⟩
    have HF18:Hid (Fr w [] [(qb,60,iC [a0,b0,a1,b1,a2,b2,a3,b3,a4,b4,a5,b5,a6,b6,a7,b7,a8,b8]),(g1,31,iC [a0,b0]),(g7,31,iC [a1,b1]),(g13,31,iC [a2,b2])] w17):=Lib.hid (HF16.out.below hw)
    clear hw
    go_wp2_with fail
    clear C2 I2
    rw [rounds_succ]
    cases k3 with
    | false =>
     simp only [Bool.false_eq_true,if_false] at C3
     obtain ⟨g19,hg19⟩:∃ g,w17.heap.size=g:=⟨_,rfl⟩
     obtain ⟨w19,hw19⟩:∃ u,w17.alloc (.cells #[.int .i64 0,.int .i64 0] 31)=u:=⟨_,rfl⟩
     have HF20:Hid (Fr w [] [(qb,60,iC [a0,b0,a1,b1,a2,b2,a3,b3,a4,b4,a5,b5,a6,b6,a7,b7,a8,b8]),(g1,31,iC [a0,b0]),(g7,31,iC [a1,b1]),(g13,31,iC [a2,b2]),(g19,31,iC [0,0])] w19):=Lib.hid (by rw [← hw19];exact HF18.out.alloc hg19.symm 31 #[.int .i64 0,.int .i64 0])
     go_wp2_with (first
       | (refine wpLoadF rfl 31 _ rfl g19 0 rfl _ _ (HF22.out.get 4 rfl) #[.int .i64 a3,.int .i64 b3] rfl _ und_span rfl info_span ?_)
       | (refine wpStoreF rfl rfl 31 _ _ rfl g19 0 rfl #[.int .i64 a3,.int .i64 b3] rfl _ _ (iC [a3,b3]) (HF20.out.get 4 rfl) rfl (by show 0+2≤2;omega) (one_all rfl) info_span ?_;intro w21 hk ho;clear hw19 hg19;have HF22:Hid (Fr w [] [(qb,60,iC [a0,b0,a1,b1,a2,b2,a3,b3,a4,b4,a5,b5,a6,b6,a7,b7,a8,b8]),(g1,31,iC [a0,b0]),(g7,31,iC [a1,b1]),(g13,31,iC [a2,b2]),(g19,31,iC [a3,b3])] w21):=Lib.hid (HF20.out.only 4 rfl ho hk);clear ho hk))
     refine (C3.out _).mono ?_
     rintro e w23 ⟨rfl,hw⟩
     have HF24:Hid (Fr w [] [(qb,60,iC [a0,b0,a1,b1,a2,b2,a3,b3,a4,b4,a5,b5,a6,b6,a7,b7,a8,b8]),(g1,31,iC [a0,b0]),(g7,31,iC [a1,b1]),(g13,31,iC [a2,b2]),(g19,31,iC [a3,b3])] w23):=Lib.hid (HF22.out.below hw)
     clear hw
     go_wp2_with fail
     exact HFIN.out _ _ (by simp) HF24.out.drop
    | true =>
     simp only [if_true] at C3
     obtain ⟨g19,hg19⟩:∃ g,w17.heap.size=g:=⟨_,rfl⟩
     obtain ⟨w19,hw19⟩:∃ u,w17.alloc (.cells #[.int .i64 0,.int .i64 0] 31)=u:=⟨_,rfl⟩
     have HF20:Hid (Fr w [] [(qb,60,iC [a0,b0,a1,b1,a2,b2,a3,b3,a4,b4,a5,b5,a6,b6,a7,b7,a8,b8]),(g1,31,iC [a0,b0]),(g7,31,iC [a1,b1]),(g13,31,iC [a2,b2]),(g19,31,iC [0,0])] w19):=Lib.hid (by rw [← hw19];exact HF18.out.alloc hg19.symm 31 #[.int .i64 0,.int .i64 0])
     go_wp2_with (first
       | (refine wpLoadF rfl 31 _ rfl g19 0 rfl _ _ (HF22.out.get 4 rfl) #[.int .i64 a3,.int .i64 b3] rfl _ und_span rfl info_span ?_)
       | (refine wpStoreF rfl rfl 31 _ _ rfl g19 0 rfl #[.int .i64 a3,.int .i64 b3] rfl _ _ (iC [a3,b3]) (HF20.out.get 4 rfl) rfl (by show 0+2≤2;omega) (one_all rfl) info_span ?_;intro w21 hk ho;clear hw19 hg19;have HF22:Hid (Fr w [] [(qb,60,iC [a0,b0,a1,b1,a2,b2,a3,b3,a4,b4,a5,b5,a6,b6,a7,b7,a8,b8]),(g1,31,iC [a0,b0]),(g7,31,iC [a1,b1]),(g13,31,iC [a2,b2]),(g19,31,iC [a3,b3])] w21):=Lib.hid (HF20.out.only 4 rfl ho hk);clear ho hk))
     refine (C3.out _).mono ?_
     rintro e w23 ⟨rfl,hw⟩
     have HF24:Hid (Fr w [] [(qb,60,iC [a0,b0,a1,b1,a2,b2,a3,b3,a4,b4,a5,b5,a6,b6,a7,b7,a8,b8]),(g1,31,iC [a0,b0]),(g7,31,iC [a1,b1]),(g13,31,iC [a2,b2]),(g19,31,iC [a3,b3])] w23):=Lib.hid (HF22.out.below hw)
     clear hw
     go_wp2_with fail
     clear C3 I3
     rw [rounds_succ]
     cases k4 with
     | false =>
      simp only [Bool.false_eq_true,if_false] at C4
      obtain ⟨g25,hg25⟩:∃ g,w23.heap.size=g:=⟨_,rfl⟩
      obtain ⟨w25,hw25⟩:∃ u,w23.alloc (.cells #[.int .i64 0,.int .i64 0] 31)=u:=⟨_,rfl⟩
      have HF26:Hid (Fr w [] [(qb,60,iC [a0,b0,a1,b1,a2,b2,a3,b3,a4,b4,a5,b5,a6,b6,a7,b7,a8,b8]),(g1,31,iC [a0,b0]),(g7,31,iC [a1,b1]),(g13,31,iC [a2,b2]),(g19,31,iC [a3,b3]),(g25,31,iC [0,0])] w25):=Lib.hid (by rw [← hw25];exact HF24.out.alloc hg25.symm 31 #[.int .i64 0,.int .i64 0])
      go_wp2_with (first
        | (refine wpLoadF rfl 31 _ rfl g25 0 rfl _ _ (HF28.out.get 5 rfl) #[.int .i64 a4,.int .i64 b4] rfl _ und_span rfl info_span ?_)
        | (refine wpStoreF rfl rfl 31 _ _ rfl g25 0 rfl #[.int .i64 a4,.int .i64 b4] rfl _ _ (iC [a4,b4]) (HF26.out.get 5 rfl) rfl (by show 0+2≤2;omega) (one_all rfl) info_span ?_;intro w27 hk ho;clear hw25 hg25;have HF28:Hid (Fr w [] [(qb,60,iC [a0,b0,a1,b1,a2,b2,a3,b3,a4,b4,a5,b5,a6,b6,a7,b7,a8,b8]),(g1,31,iC [a0,b0]),(g7,31,iC [a1,b1]),(g13,31,iC [a2,b2]),(g19,31,iC [a3,b3]),(g25,31,iC [a4,b4])] w27):=Lib.hid (HF26.out.only 5 rfl ho hk);clear ho hk))
      refine (C4.out _).mono ?_
      rintro e w29 ⟨rfl,hw⟩
      have HF30:Hid (Fr w [] [(qb,60,iC [a0,b0,a1,b1,a2,b2,a3,b3,a4,b4,a5,b5,a6,b6,a7,b7,a8,b8]),(g1,31,iC [a0,b0]),(g7,31,iC [a1,b1]),(g13,31,iC [a2,b2]),(g19,31,iC [a3,b3]),(g25,31,iC [a4,b4])] w29):=Lib.hid (HF28.out.below hw)
      clear hw
      go_wp2_with fail
      exact HFIN.out _ _ (by simp) HF30.out.drop
     | true =>
      simp only [if_true] at C4
      obtain ⟨g25,hg25⟩:∃ g,w23.heap.size=g:=⟨_,rfl⟩
      obtain ⟨w25,hw25⟩:∃ u,w23.alloc (.cells #[.int .i64 0,.int .i64 0] 31)=u:=⟨_,rfl⟩
      have HF26:Hid (Fr w [] [(qb,60,iC [a0,b0,a1,b1,a2,b2,a3,b3,a4,b4,a5,b5,a6,b6,a7,b7,a8,b8]),(g1,31,iC [a0,b0]),(g7,31,iC [a1,b1]),(g13,31,iC [a2,b2]),(g19,31,iC [a3,b3]),(g25,31,iC [0,0])] w25):=Lib.hid (by rw [← hw25];exact HF24.out.alloc hg25.symm 31 #[.int .i64 0,.int .i64 0])
      go_wp2_with (first
        | (refine wpLoadF rfl 31 _ rfl g25 0 rfl _ _ (HF28.out.get 5 rfl) #[.int .i64 a4,.int .i64 b4] rfl _ und_span rfl info_span ?_)
        | (refine wpStoreF rfl rfl 31 _ _ rfl g25 0 rfl #[.int .i64 a4,.int .i64 b4] rfl _ _ (iC [a4,b4]) (HF26.out.get 5 rfl) rfl (by show 0+2≤2;omega) (one_all rfl) info_span ?_;intro w27 hk ho;clear hw25 hg25;have HF28:Hid (Fr w [] [(qb,60,iC [a0,b0,a1,b1,a2,b2,a3,b3,a4,b4,a5,b5,a6,b6,a7,b7,a8,b8]),(g1,31,iC [a0,b0]),(g7,31,iC [a1,b1]),(g13,31,iC [a2,b2]),(g19,31,iC [a3,b3]),(g25,31,iC [a4,b4])] w27):=Lib.hid (HF26.out.only 5 rfl ho hk);clear ho hk))
      refine (C4.out _).mono ?_
      rintro e w29 ⟨rfl,hw⟩
      have HF30:Hid (Fr w [] [(qb,60,iC [a0,b0,a1,b1,a2,b2,a3,b3,a4,b4,a5,b5,a6,b6,a7,b7,a8,b8]),(g1,31,iC [a0,b0]),(g7,31,iC [a1,b1]),(g13,31,iC [a2,b2]),(g19,31,iC [a3,b3]),(g25,31,iC [a4,b4])] w29):=Lib.hid (HF28.out.below hw)
      clear hw
      go_wp2_with fail
      clear C4 I4
      rw [rounds_succ]
      cases k5 with
      | false =>
       simp only [Bool.false_eq_true,if_false] at C5
       obtain ⟨g31,hg31⟩:∃ g,w29.heap.size=g:=⟨_,rfl⟩
       obtain ⟨w31,hw31⟩:∃ u,w29.alloc (.cells #[.int .i64 0,.int .i64 0] 31)=u:=⟨_,rfl⟩
       have HF32:Hid (Fr w [] [(qb,60,iC [a0,b0,a1,b1,a2,b2,a3,b3,a4,b4,a5,b5,a6,b6,a7,b7,a8,b8]),(g1,31,iC [a0,b0]),(g7,31,iC [a1,b1]),(g13,31,iC [a2,b2]),(g19,31,iC [a3,b3]),(g25,31,iC [a4,b4]),(g31,31,iC [0,0])] w31):=Lib.hid (by rw [← hw31];exact HF30.out.alloc hg31.symm 31 #[.int .i64 0,.int .i64 0])
       go_wp2_with (first
         | (refine wpLoadF rfl 31 _ rfl g31 0 rfl _ _ (HF34.out.get 6 rfl) #[.int .i64 a5,.int .i64 b5] rfl _ und_span rfl info_span ?_)
         | (refine wpStoreF rfl rfl 31 _ _ rfl g31 0 rfl #[.int .i64 a5,.int .i64 b5] rfl _ _ (iC [a5,b5]) (HF32.out.get 6 rfl) rfl (by show 0+2≤2;omega) (one_all rfl) info_span ?_;intro w33 hk ho;clear hw31 hg31;have HF34:Hid (Fr w [] [(qb,60,iC [a0,b0,a1,b1,a2,b2,a3,b3,a4,b4,a5,b5,a6,b6,a7,b7,a8,b8]),(g1,31,iC [a0,b0]),(g7,31,iC [a1,b1]),(g13,31,iC [a2,b2]),(g19,31,iC [a3,b3]),(g25,31,iC [a4,b4]),(g31,31,iC [a5,b5])] w33):=Lib.hid (HF32.out.only 6 rfl ho hk);clear ho hk))
       refine (C5.out _).mono ?_
       rintro e w35 ⟨rfl,hw⟩
       have HF36:Hid (Fr w [] [(qb,60,iC [a0,b0,a1,b1,a2,b2,a3,b3,a4,b4,a5,b5,a6,b6,a7,b7,a8,b8]),(g1,31,iC [a0,b0]),(g7,31,iC [a1,b1]),(g13,31,iC [a2,b2]),(g19,31,iC [a3,b3]),(g25,31,iC [a4,b4]),(g31,31,iC [a5,b5])] w35):=Lib.hid (HF34.out.below hw)
       clear hw
       go_wp2_with fail
       exact HFIN.out _ _ (by simp) HF36.out.drop
      | true =>
       simp only [if_true] at C5
       obtain ⟨g31,hg31⟩:∃ g,w29.heap.size=g:=⟨_,rfl⟩
       obtain ⟨w31,hw31⟩:∃ u,w29.alloc (.cells #[.int .i64 0,.int .i64 0] 31)=u:=⟨_,rfl⟩
       have HF32:Hid (Fr w [] [(qb,60,iC [a0,b0,a1,b1,a2,b2,a3,b3,a4,b4,a5,b5,a6,b6,a7,b7,a8,b8]),(g1,31,iC [a0,b0]),(g7,31,iC [a1,b1]),(g13,31,iC [a2,b2]),(g19,31,iC [a3,b3]),(g25,31,iC [a4,b4]),(g31,31,iC [0,0])] w31):=Lib.hid (by rw [← hw31];exact HF30.out.alloc hg31.symm 31 #[.int .i64 0,.int .i64 0])
       go_wp2_with (first
         | (refine wpLoadF rfl 31 _ rfl g31 0 rfl _ _ (HF34.out.get 6 rfl) #[.int .i64 a5,.int .i64 b5] rfl _ und_span rfl info_span ?_)
         | (refine wpStoreF rfl rfl 31 _ _ rfl g31 0 rfl #[.int .i64 a5,.int .i64 b5] rfl _ _ (iC [a5,b5]) (HF32.out.get 6 rfl) rfl (by show 0+2≤2;omega) (one_all rfl) info_span ?_;intro w33 hk ho;clear hw31 hg31;have HF34:Hid (Fr w [] [(qb,60,iC [a0,b0,a1,b1,a2,b2,a3,b3,a4,b4,a5,b5,a6,b6,a7,b7,a8,b8]),(g1,31,iC [a0,b0]),(g7,31,iC [a1,b1]),(g13,31,iC [a2,b2]),(g19,31,iC [a3,b3]),(g25,31,iC [a4,b4]),(g31,31,iC [a5,b5])] w33):=Lib.hid (HF32.out.only 6 rfl ho hk);clear ho hk))
       refine (C5.out _).mono ?_
       rintro e w35 ⟨rfl,hw⟩
       have HF36:Hid (Fr w [] [(qb,60,iC [a0,b0,a1,b1,a2,b2,a3,b3,a4,b4,a5,b5,a6,b6,a7,b7,a8,b8]),(g1,31,iC [a0,b0]),(g7,31,iC [a1,b1]),(g13,31,iC [a2,b2]),(g19,31,iC [a3,b3]),(g25,31,iC [a4,b4]),(g31,31,iC [a5,b5])] w35):=Lib.hid (HF34.out.below hw)
       clear hw
       go_wp2_with fail
       clear C5 I5
       rw [rounds_succ]
       cases k6 with
       | false =>
        simp only [Bool.false_eq_true,if_false] at C6
        obtain ⟨g37,hg37⟩:∃ g,w35.heap.size=g:=⟨_,rfl⟩
        obtain ⟨w37,hw37⟩:∃ u,w35.alloc (.cells #[.int .i64 0,.int .i64 0] 31)=u:=⟨_,rfl⟩
        have HF38:Hid (Fr w [] [(qb,60,iC [a0,b0,a1,b1,a2,b2,a3,b3,a4,b4,a5,b5,a6,b6,a7,b7,a8,b8]),(g1,31,iC [a0,b0]),(g7,31,iC [a1,b1]),(g13,31,iC [a2,b2]),(g19,31,iC [a3,b3]),(g25,31,iC [a4,b4]),(g31,31,iC [a5,b5]),(g37,31,iC [0,0])] w37):=Lib.hid (by rw [← hw37];exact HF36.out.alloc hg37.symm 31 #[.int .i64 0,.int .i64 0])
        go_wp2_with (first
          | (refine wpLoadF rfl 31 _ rfl g37 0 rfl _ _ (HF40.out.get 7 rfl) #[.int .i64 a6,.int .i64 b6] rfl _ und_span rfl info_span ?_)
          | (refine wpStoreF rfl rfl 31 _ _ rfl g37 0 rfl #[.int .i64 a6,.int .i64 b6] rfl _ _ (iC [a6,b6]) (HF38.out.get 7 rfl) rfl (by show 0+2≤2;omega) (one_all rfl) info_span ?_;intro w39 hk ho;clear hw37 hg37;have HF40:Hid (Fr w [] [(qb,60,iC [a0,b0,a1,b1,a2,b2,a3,b3,a4,b4,a5,b5,a6,b6,a7,b7,a8,b8]),(g1,31,iC [a0,b0]),(g7,31,iC [a1,b1]),(g13,31,iC [a2,b2]),(g19,31,iC [a3,b3]),(g25,31,iC [a4,b4]),(g31,31,iC [a5,b5]),(g37,31,iC [a6,b6])] w39):=Lib.hid (HF38.out.only 7 rfl ho hk);clear ho hk))
        refine (C6.out _).mono ?_
        rintro e w41 ⟨rfl,hw⟩
        have HF42:Hid (Fr w [] [(qb,60,iC [a0,b0,a1,b1,a2,b2,a3,b3,a4,b4,a5,b5,a6,b6,a7,b7,a8,b8]),(g1,31,iC [a0,b0]),(g7,31,iC [a1,b1]),(g13,31,iC [a2,b2]),(g19,31,iC [a3,b3]),(g25,31,iC [a4,b4]),(g31,31,iC [a5,b5]),(g37,31,iC [a6,b6])] w41):=Lib.hid (HF40.out.below hw)
        clear hw
        go_wp2_with fail
        exact HFIN.out _ _ (by simp) HF42.out.drop
       | true =>
        simp only [if_true] at C6
        obtain ⟨g37,hg37⟩:∃ g,w35.heap.size=g:=⟨_,rfl⟩
        obtain ⟨w37,hw37⟩:∃ u,w35.alloc (.cells #[.int .i64 0,.int .i64 0] 31)=u:=⟨_,rfl⟩
        have HF38:Hid (Fr w [] [(qb,60,iC [a0,b0,a1,b1,a2,b2,a3,b3,a4,b4,a5,b5,a6,b6,a7,b7,a8,b8]),(g1,31,iC [a0,b0]),(g7,31,iC [a1,b1]),(g13,31,iC [a2,b2]),(g19,31,iC [a3,b3]),(g25,31,iC [a4,b4]),(g31,31,iC [a5,b5]),(g37,31,iC [0,0])] w37):=Lib.hid (by rw [← hw37];exact HF36.out.alloc hg37.symm 31 #[.int .i64 0,.int .i64 0])
        go_wp2_with (first
          | (refine wpLoadF rfl 31 _ rfl g37 0 rfl _ _ (HF40.out.get 7 rfl) #[.int .i64 a6,.int .i64 b6] rfl _ und_span rfl info_span ?_)
          | (refine wpStoreF rfl rfl 31 _ _ rfl g37 0 rfl #[.int .i64 a6,.int .i64 b6] rfl _ _ (iC [a6,b6]) (HF38.out.get 7 rfl) rfl (by show 0+2≤2;omega) (one_all rfl) info_span ?_;intro w39 hk ho;clear hw37 hg37;have HF40:Hid (Fr w [] [(qb,60,iC [a0,b0,a1,b1,a2,b2,a3,b3,a4,b4,a5,b5,a6,b6,a7,b7,a8,b8]),(g1,31,iC [a0,b0]),(g7,31,iC [a1,b1]),(g13,31,iC [a2,b2]),(g19,31,iC [a3,b3]),(g25,31,iC [a4,b4]),(g31,31,iC [a5,b5]),(g37,31,iC [a6,b6])] w39):=Lib.hid (HF38.out.only 7 rfl ho hk);clear ho hk))
        refine (C6.out _).mono ?_
        rintro e w41 ⟨rfl,hw⟩
        have HF42:Hid (Fr w [] [(qb,60,iC [a0,b0,a1,b1,a2,b2,a3,b3,a4,b4,a5,b5,a6,b6,a7,b7,a8,b8]),(g1,31,iC [a0,b0]),(g7,31,iC [a1,b1]),(g13,31,iC [a2,b2]),(g19,31,iC [a3,b3]),(g25,31,iC [a4,b4]),(g31,31,iC [a5,b5]),(g37,31,iC [a6,b6])] w41):=Lib.hid (HF40.out.below hw)
        clear hw
        go_wp2_with fail
        clear C6 I6
        rw [rounds_succ]
        cases k7 with
        | false =>
         simp only [Bool.false_eq_true,if_false] at C7
         obtain ⟨g43,hg43⟩:∃ g,w41.heap.size=g:=⟨_,rfl⟩
         obtain ⟨w43,hw43⟩:∃ u,w41.alloc (.cells #[.int .i64 0,.int .i64 0] 31)=u:=⟨_,rfl⟩
         have HF44:Hid (Fr w [] [(qb,60,iC [a0,b0,a1,b1,a2,b2,a3,b3,a4,b4,a5,b5,a6,b6,a7,b7,a8,b8]),(g1,31,iC [a0,b0]),(g7,31,iC [a1,b1]),(g13,31,iC [a2,b2]),(g19,31,iC [a3,b3]),(g25,31,iC [a4,b4]),(g31,31,iC [a5,b5]),(g37,31,iC [a6,b6]),(g43,31,iC [0,0])] w43):=Lib.hid (by rw [← hw43];exact HF42.out.alloc hg43.symm 31 #[.int .i64 0,.int .i64 0])
         go_wp2_with (first
           | (refine wpLoadF rfl 31 _ rfl g43 0 rfl _ _ (HF46.out.get 8 rfl) #[.int .i64 a7,.int .i64 b7] rfl _ und_span rfl info_span ?_)
           | (refine wpStoreF rfl rfl 31 _ _ rfl g43 0 rfl #[.int .i64 a7,.int .i64 b7] rfl _ _ (iC [a7,b7]) (HF44.out.get 8 rfl) rfl (by show 0+2≤2;omega) (one_all rfl) info_span ?_;intro w45 hk ho;clear hw43 hg43;have HF46:Hid (Fr w [] [(qb,60,iC [a0,b0,a1,b1,a2,b2,a3,b3,a4,b4,a5,b5,a6,b6,a7,b7,a8,b8]),(g1,31,iC [a0,b0]),(g7,31,iC [a1,b1]),(g13,31,iC [a2,b2]),(g19,31,iC [a3,b3]),(g25,31,iC [a4,b4]),(g31,31,iC [a5,b5]),(g37,31,iC [a6,b6]),(g43,31,iC [a7,b7])] w45):=Lib.hid (HF44.out.only 8 rfl ho hk);clear ho hk))
         refine (C7.out _).mono ?_
         rintro e w47 ⟨rfl,hw⟩
         have HF48:Hid (Fr w [] [(qb,60,iC [a0,b0,a1,b1,a2,b2,a3,b3,a4,b4,a5,b5,a6,b6,a7,b7,a8,b8]),(g1,31,iC [a0,b0]),(g7,31,iC [a1,b1]),(g13,31,iC [a2,b2]),(g19,31,iC [a3,b3]),(g25,31,iC [a4,b4]),(g31,31,iC [a5,b5]),(g37,31,iC [a6,b6]),(g43,31,iC [a7,b7])] w47):=Lib.hid (HF46.out.below hw)
         clear hw
         go_wp2_with fail
         exact HFIN.out _ _ (by simp) HF48.out.drop
        | true =>
         simp only [if_true] at C7
         obtain ⟨g43,hg43⟩:∃ g,w41.heap.size=g:=⟨_,rfl⟩
         obtain ⟨w43,hw43⟩:∃ u,w41.alloc (.cells #[.int .i64 0,.int .i64 0] 31)=u:=⟨_,rfl⟩
         have HF44:Hid (Fr w [] [(qb,60,iC [a0,b0,a1,b1,a2,b2,a3,b3,a4,b4,a5,b5,a6,b6,a7,b7,a8,b8]),(g1,31,iC [a0,b0]),(g7,31,iC [a1,b1]),(g13,31,iC [a2,b2]),(g19,31,iC [a3,b3]),(g25,31,iC [a4,b4]),(g31,31,iC [a5,b5]),(g37,31,iC [a6,b6]),(g43,31,iC [0,0])] w43):=Lib.hid (by rw [← hw43];exact HF42.out.alloc hg43.symm 31 #[.int .i64 0,.int .i64 0])
         go_wp2_with (first
           | (refine wpLoadF rfl 31 _ rfl g43 0 rfl _ _ (HF46.out.get 8 rfl) #[.int .i64 a7,.int .i64 b7] rfl _ und_span rfl info_span ?_)
           | (refine wpStoreF rfl rfl 31 _ _ rfl g43 0 rfl #[.int .i64 a7,.int .i64 b7] rfl _ _ (iC [a7,b7]) (HF44.out.get 8 rfl) rfl (by show 0+2≤2;omega) (one_all rfl) info_span ?_;intro w45 hk ho;clear hw43 hg43;have HF46:Hid (Fr w [] [(qb,60,iC [a0,b0,a1,b1,a2,b2,a3,b3,a4,b4,a5,b5,a6,b6,a7,b7,a8,b8]),(g1,31,iC [a0,b0]),(g7,31,iC [a1,b1]),(g13,31,iC [a2,b2]),(g19,31,iC [a3,b3]),(g25,31,iC [a4,b4]),(g31,31,iC [a5,b5]),(g37,31,iC [a6,b6]),(g43,31,iC [a7,b7])] w45):=Lib.hid (HF44.out.only 8 rfl ho hk);clear ho hk))
         refine (C7.out _).mono ?_
         rintro e w47 ⟨rfl,hw⟩
         have HF48:Hid (Fr w [] [(qb,60,iC [a0,b0,a1,b1,a2,b2,a3,b3,a4,b4,a5,b5,a6,b6,a7,b7,a8,b8]),(g1,31,iC [a0,b0]),(g7,31,iC [a1,b1]),(g13,31,iC [a2,b2]),(g19,31,iC [a3,b3]),(g25,31,iC [a4,b4]),(g31,31,iC [a5,b5]),(g37,31,iC [a6,b6]),(g43,31,iC [a7,b7])] w47):=Lib.hid (HF46.out.below hw)
         clear hw
         go_wp2_with fail
         clear C7 I7
         rw [rounds_succ]
         cases k8 with
         | false =>
          simp only [Bool.false_eq_true,if_false] at C8
          obtain ⟨g49,hg49⟩:∃ g,w47.heap.size=g:=⟨_,rfl⟩
          obtain ⟨w49,hw49⟩:∃ u,w47.alloc (.cells #[.int .i64 0,.int .i64 0] 31)=u:=⟨_,rfl⟩
          have HF50:Hid (Fr w [] [(qb,60,iC [a0,b0,a1,b1,a2,b2,a3,b3,a4,b4,a5,b5,a6,b6,a7,b7,a8,b8]),(g1,31,iC [a0,b0]),(g7,31,iC [a1,b1]),(g13,31,iC [a2,b2]),(g19,31,iC [a3,b3]),(g25,31,iC [a4,b4]),(g31,31,iC [a5,b5]),(g37,31,iC [a6,b6]),(g43,31,iC [a7,b7]),(g49,31,iC [0,0])] w49):=Lib.hid (by rw [← hw49];exact HF48.out.alloc hg49.symm 31 #[.int .i64 0,.int .i64 0])
          go_wp2_with (first
            | (refine wpLoadF rfl 31 _ rfl g49 0 rfl _ _ (HF52.out.get 9 rfl) #[.int .i64 a8,.int .i64 b8] rfl _ und_span rfl info_span ?_)
            | (refine wpStoreF rfl rfl 31 _ _ rfl g49 0 rfl #[.int .i64 a8,.int .i64 b8] rfl _ _ (iC [a8,b8]) (HF50.out.get 9 rfl) rfl (by show 0+2≤2;omega) (one_all rfl) info_span ?_;intro w51 hk ho;clear hw49 hg49;have HF52:Hid (Fr w [] [(qb,60,iC [a0,b0,a1,b1,a2,b2,a3,b3,a4,b4,a5,b5,a6,b6,a7,b7,a8,b8]),(g1,31,iC [a0,b0]),(g7,31,iC [a1,b1]),(g13,31,iC [a2,b2]),(g19,31,iC [a3,b3]),(g25,31,iC [a4,b4]),(g31,31,iC [a5,b5]),(g37,31,iC [a6,b6]),(g43,31,iC [a7,b7]),(g49,31,iC [a8,b8])] w51):=Lib.hid (HF50.out.only 9 rfl ho hk);clear ho hk))
          refine (C8.out _).mono ?_
          rintro e w53 ⟨rfl,hw⟩
          have HF54:Hid (Fr w [] [(qb,60,iC [a0,b0,a1,b1,a2,b2,a3,b3,a4,b4,a5,b5,a6,b6,a7,b7,a8,b8]),(g1,31,iC [a0,b0]),(g7,31,iC [a1,b1]),(g13,31,iC [a2,b2]),(g19,31,iC [a3,b3]),(g25,31,iC [a4,b4]),(g31,31,iC [a5,b5]),(g37,31,iC [a6,b6]),(g43,31,iC [a7,b7]),(g49,31,iC [a8,b8])] w53):=Lib.hid (HF52.out.below hw)
          clear hw
          go_wp2_with fail
          exact HFIN.out _ _ (by simp) HF54.out.drop
         | true =>
          simp only [if_true] at C8
          obtain ⟨g49,hg49⟩:∃ g,w47.heap.size=g:=⟨_,rfl⟩
          obtain ⟨w49,hw49⟩:∃ u,w47.alloc (.cells #[.int .i64 0,.int .i64 0] 31)=u:=⟨_,rfl⟩
          have HF50:Hid (Fr w [] [(qb,60,iC [a0,b0,a1,b1,a2,b2,a3,b3,a4,b4,a5,b5,a6,b6,a7,b7,a8,b8]),(g1,31,iC [a0,b0]),(g7,31,iC [a1,b1]),(g13,31,iC [a2,b2]),(g19,31,iC [a3,b3]),(g25,31,iC [a4,b4]),(g31,31,iC [a5,b5]),(g37,31,iC [a6,b6]),(g43,31,iC [a7,b7]),(g49,31,iC [0,0])] w49):=Lib.hid (by rw [← hw49];exact HF48.out.alloc hg49.symm 31 #[.int .i64 0,.int .i64 0])
          go_wp2_with (first
            | (refine wpLoadF rfl 31 _ rfl g49 0 rfl _ _ (HF52.out.get 9 rfl) #[.int .i64 a8,.int .i64 b8] rfl _ und_span rfl info_span ?_)
            | (refine wpStoreF rfl rfl 31 _ _ rfl g49 0 rfl #[.int .i64 a8,.int .i64 b8] rfl _ _ (iC [a8,b8]) (HF50.out.get 9 rfl) rfl (by show 0+2≤2;omega) (one_all rfl) info_span ?_;intro w51 hk ho;clear hw49 hg49;have HF52:Hid (Fr w [] [(qb,60,iC [a0,b0,a1,b1,a2,b2,a3,b3,a4,b4,a5,b5,a6,b6,a7,b7,a8,b8]),(g1,31,iC [a0,b0]),(g7,31,iC [a1,b1]),(g13,31,iC [a2,b2]),(g19,31,iC [a3,b3]),(g25,31,iC [a4,b4]),(g31,31,iC [a5,b5]),(g37,31,iC [a6,b6]),(g43,31,iC [a7,b7]),(g49,31,iC [a8,b8])] w51):=Lib.hid (HF50.out.only 9 rfl ho hk);clear ho hk))
          refine (C8.out _).mono ?_
          rintro e w53 ⟨rfl,hw⟩
          have HF54:Hid (Fr w [] [(qb,60,iC [a0,b0,a1,b1,a2,b2,a3,b3,a4,b4,a5,b5,a6,b6,a7,b7,a8,b8]),(g1,31,iC [a0,b0]),(g7,31,iC [a1,b1]),(g13,31,iC [a2,b2]),(g19,31,iC [a3,b3]),(g25,31,iC [a4,b4]),(g31,31,iC [a5,b5]),(g37,31,iC [a6,b6]),(g43,31,iC [a7,b7]),(g49,31,iC [a8,b8])] w53):=Lib.hid (HF52.out.below hw)
          clear hw
          go_wp2_with fail
          clear C8 I8
          rw [rounds_succ]
          by_cases h6:0<a6
          ·have g6:decide (0<a6)=true:=decide_eq_true h6
           rw [g6] at HFIN
           clear h6
           have c55:w53.cell? ⟨qb,12,none⟩=some (.int .i64 a6):=(HF54.out.get 0 rfl).cell 12
           have c56:w53.cell? ⟨qb,4,none⟩=some (.int .i64 a2):=(HF54.out.get 0 rfl).cell 4
           go_wp2_with fail
           clear c55 c56
           exact HFIN.out _ _ (by simp) HF54.out.drop
          ·have g6:decide (0<a6)=false:=decide_eq_false h6
           rw [g6] at HFIN
           clear h6
           have c55:w53.cell? ⟨qb,12,none⟩=some (.int .i64 a6):=(HF54.out.get 0 rfl).cell 12
           go_wp2_with fail
           clear c55
           exact HFIN.out _ _ (by simp) HF54.out.drop

theorem corners_any (r:RectD) (w:World):Calls Tryz.prog 78 #[rectV r] w fun e w'=>∃ g,e=.returned (.slice (some ⟨g,0,none⟩) 4 4)∧Fr w [] [(g,56,#[.int .i64 r.a.x,.int .i64 r.a.y,.int .i64 r.b.x,.int .i64 r.a.y,.int .i64 r.b.x,.int .i64 r.b.y,.int .i64 r.a.x,.int .i64 r.b.y])] w':=by
 obtain ⟨⟨ax,ay⟩,bx,byy⟩:=r
 obtain ⟨PQ,hPQ⟩:∃ Q:Ending→World→Prop,(fun e w'=>∃ g,e=.returned (.slice (some ⟨g,0,none⟩) 4 4)∧Fr w [] [(g,56,#[.int .i64 ax,.int .i64 ay,.int .i64 bx,.int .i64 ay,.int .i64 bx,.int .i64 byy,.int .i64 ax,.int .i64 byy])] w')=Q:=⟨_,rfl⟩
 have HFIN:Hid (∀ w' g,Fr w [] [(g,56,#[.int .i64 ax,.int .i64 ay,.int .i64 bx,.int .i64 ay,.int .i64 bx,.int .i64 byy,.int .i64 ax,.int .i64 byy])] w'→PQ (.returned (.slice (some ⟨g,0,none⟩) 4 4)) w'):=Lib.hid fun w' g h=>by rw [← hPQ];exact ⟨g,rfl,h⟩
 dsimp only
 rw [hPQ]
 unfold rectV
 dsimp only
 clear hPQ
 obtain ⟨qb,hqb⟩:∃ qb,w.heap.size=qb:=⟨_,rfl⟩
 obtain ⟨W0,hW0⟩:∃ W0,w.alloc (.cells #[.int .i64 ax,.int .i64 ay,.int .i64 bx,.int .i64 byy] 62)=W0:=⟨_,rfl⟩
 have HF0:Hid (Fr w [] [(qb,62,iC [ax,ay,bx,byy])] W0):=Lib.hid (by rw [← hW0];exact (Fr.start w).alloc (by simp [← hqb]) 62 #[.int .i64 ax,.int .i64 ay,.int .i64 bx,.int .i64 byy])
 go_enter Tryz.func78,Tryz.ntmps78
 go_upto_region 1 with (fail)
 clear hW0 hqb
 have c1:W0.cell? ⟨qb,2,none⟩=some (.int .i64 bx):=(HF0.out.get 0 rfl).cell 2
 have c2:W0.cell? ⟨qb,1,none⟩=some (.int .i64 ay):=(HF0.out.get 0 rfl).cell 1
 have c3:W0.cell? ⟨qb,0,none⟩=some (.int .i64 ax):=(HF0.out.get 0 rfl).cell 0
 have c4:W0.cell? ⟨qb,3,none⟩=some (.int .i64 byy):=(HF0.out.get 0 rfl).cell 3
 obtain ⟨g5,hg5⟩:∃ g,W0.heap.size=g:=⟨_,rfl⟩
 obtain ⟨w5,hw5⟩:∃ u,W0.alloc (.cells #[.int .i64 ax,.int .i64 ay,.int .i64 bx,.int .i64 ay,.int .i64 bx,.int .i64 byy,.int .i64 ax,.int .i64 byy] 56)=u:=⟨_,rfl⟩
 have HF6:=Lib.hid (frE hw5 (HF0.out.alloc hg5.symm 56 #[.int .i64 ax,.int .i64 ay,.int .i64 bx,.int .i64 ay,.int .i64 bx,.int .i64 byy,.int .i64 ax,.int .i64 byy]))
 go_wp2_with (first
   | (refine wpLoadF rfl 56 _ rfl qb 0 rfl _ _ (HF0.out.get 0 rfl) #[.int .i64 ax,.int .i64 ay] rfl _ und_56 rfl info_56 ?_)
   | (refine wpLoadF rfl 56 _ rfl qb 2 rfl _ _ (HF0.out.get 0 rfl) #[.int .i64 bx,.int .i64 byy] rfl _ und_56 rfl info_56 ?_))
 clear c1 c2 c3 c4 hw5 hg5
 exact HFIN.out _ _ (HF6.out.sub (.cons _ (List.Sublist.refl _)))

def spotOk (s:SpotD):Prop:=(-536870912≤s.x∧s.x≤536870912)∧(-536870912≤s.y∧s.y≤536870912)
def leftI (a b c:SpotD):Int:=(b.x - a.x) * (c.y - a.y) - (b.y - a.y) * (c.x - a.x)
theorem mul_bd {x y:Int} (hx:-1073741824≤x∧x≤1073741824) (hy:-1073741824≤y∧y≤1073741824):-1152921504606846976≤x * y∧x * y≤1152921504606846976:=by
 have h:=Nat.mul_le_mul (show x.natAbs≤1073741824 by omega) (show y.natAbs≤1073741824 by omega)
 rw [← Int.natAbs_mul] at h
 omega
theorem left_any (a b c:SpotD) (ha:spotOk a) (hb:spotOk b) (hc:spotOk c) (w:World):Calls Tryz.prog 86 #[spotV a,spotV b,spotV c] w fun e w'=>e=.returned (.int .i64 (leftI a b c))∧Below w.heap.size w w':=by
 obtain ⟨PQ,hPQ⟩:∃ Q:Ending→World→Prop,(fun e w'=>e=.returned (.int .i64 (leftI a b c))∧Below w.heap.size w w')=Q:=⟨_,rfl⟩
 have HFIN:Hid (∀ w' r,r=leftI a b c→Fr w [] [] w'→PQ (.returned (.int .i64 r)) w'):=Lib.hid fun w' r hr h=>by rw [← hPQ,hr];exact ⟨rfl,h.toBelow⟩
 rw [hPQ]
 obtain ⟨ax,ay⟩:=a
 obtain ⟨bx,byy⟩:=b
 obtain ⟨cx,cy⟩:=c
 unfold spotOk at ha hb hc
 unfold leftI at HFIN
 unfold spotV
 dsimp only at ha hb hc HFIN ⊢
 obtain ⟨d1,h1⟩:∃ d,bx - ax=d:=⟨_,rfl⟩
 obtain ⟨d2,h2⟩:∃ d,cy - ay=d:=⟨_,rfl⟩
 obtain ⟨d3,h3⟩:∃ d,byy - ay=d:=⟨_,rfl⟩
 obtain ⟨d4,h4⟩:∃ d,cx - ax=d:=⟨_,rfl⟩
 have p1:=mul_bd (x:=d1) (y:=d2) (by omega) (by omega)
 have p2:=mul_bd (x:=d3) (y:=d4) (by omega) (by omega)
 obtain ⟨q1,g1⟩:∃ d,d1 * d2=d:=⟨_,rfl⟩
 obtain ⟨q2,g2⟩:∃ d,d3 * d4=d:=⟨_,rfl⟩
 rw [h1,h2,h3,h4,g1,g2] at HFIN
 rw [g1] at p1
 rw [g2] at p2
 have m1:IntKind.i64.wrap (bx - ax)=d1:=by rw [h1];exact IntWalk.i64_in _ (by omega)
 have m2:IntKind.i64.wrap (cy - ay)=d2:=by rw [h2];exact IntWalk.i64_in _ (by omega)
 have m3:IntKind.i64.wrap (byy - ay)=d3:=by rw [h3];exact IntWalk.i64_in _ (by omega)
 have m4:IntKind.i64.wrap (cx - ax)=d4:=by rw [h4];exact IntWalk.i64_in _ (by omega)
 have m5:IntKind.i64.wrap (d1 * d2)=q1:=by rw [g1];exact IntWalk.i64_in _ (by omega)
 have m6:IntKind.i64.wrap (d3 * d4)=q2:=by rw [g2];exact IntWalk.i64_in _ (by omega)
 have m7:IntKind.i64.wrap (q1 - q2)=q1 - q2:=IntWalk.i64_in _ (by omega)
 have n1:wrap64 (bx - ax)=d1:=by rw [h1];exact w64_in (by omega) (by omega)
 have n2:wrap64 (cy - ay)=d2:=by rw [h2];exact w64_in (by omega) (by omega)
 have n3:wrap64 (byy - ay)=d3:=by rw [h3];exact w64_in (by omega) (by omega)
 have n4:wrap64 (cx - ax)=d4:=by rw [h4];exact w64_in (by omega) (by omega)
 have n5:wrap64 (d1 * d2)=q1:=by rw [g1];exact w64_in (by omega) (by omega)
 have n6:wrap64 (d3 * d4)=q2:=by rw [g2];exact w64_in (by omega) (by omega)
 have n7:wrap64 (q1 - q2)=q1 - q2:=w64_in (by omega) (by omega)
 clear hPQ ha hb hc h1 h2 h3 h4 g1 g2 p1 p2
 obtain ⟨qb,hqb⟩:∃ qb,w.heap.size=qb:=⟨_,rfl⟩
 obtain ⟨W0,hW0⟩:∃ W0,((w.alloc (.cells #[.int .i64 ax,.int .i64 ay] 56)).alloc (.cells #[.int .i64 bx,.int .i64 byy] 56)).alloc (.cells #[.int .i64 cx,.int .i64 cy] 56)=W0:=⟨_,rfl⟩
 have HF0:Hid (Fr w [] [(qb,56,iC [ax,ay]),(qb+1,56,iC [bx,byy]),(qb+1+1,56,iC [cx,cy])] W0):=Lib.hid (by rw [← hW0];exact (((Fr.start w).alloc (by simp [← hqb]) 56 #[.int .i64 ax,.int .i64 ay]).alloc (by simp [← hqb]) 56 #[.int .i64 bx,.int .i64 byy]).alloc (by simp [← hqb]) 56 #[.int .i64 cx,.int .i64 cy])
 go_enter Tryz.func86,Tryz.ntmps86
 go_upto_region 1 with (fail)
 clear hW0 hqb
 have c1:W0.cell? ⟨qb+1,0,none⟩=some (.int .i64 bx):=(HF0.out.get 1 rfl).cell 0
 have c2:W0.cell? ⟨qb,0,none⟩=some (.int .i64 ax):=(HF0.out.get 0 rfl).cell 0
 have c3:W0.cell? ⟨qb+1+1,1,none⟩=some (.int .i64 cy):=(HF0.out.get 2 rfl).cell 1
 have c4:W0.cell? ⟨qb,1,none⟩=some (.int .i64 ay):=(HF0.out.get 0 rfl).cell 1
 have c5:W0.cell? ⟨qb+1,1,none⟩=some (.int .i64 byy):=(HF0.out.get 1 rfl).cell 1
 have c6:W0.cell? ⟨qb,1,none⟩=some (.int .i64 ay):=(HF0.out.get 0 rfl).cell 1
 have c7:W0.cell? ⟨qb+1+1,0,none⟩=some (.int .i64 cx):=(HF0.out.get 2 rfl).cell 0
 have c8:W0.cell? ⟨qb,0,none⟩=some (.int .i64 ax):=(HF0.out.get 0 rfl).cell 0
 go_wp2_with fail
 clear c1 c2 c3 c4 c5 c6 c7 c8
 exact HFIN.out _ _ rfl HF0.out.drop

def stepA (b f i j k:Nat):List Value:=[.func (.func f) #[] #[],.pointer (some ⟨b,2 * i,none⟩),.pointer (some ⟨b,2 * j,none⟩),.pointer (some ⟨b,2 * k,none⟩)]
def opsI:List (Nat × Nat × Nat × Nat):=[(72,5,5,9),(73,6,6,10),(74,10,2,10),(65,9,10,10),(75,10,10,11),(65,5,11,11),(76,11,6,12),(74,3,12,13),(65,0,13,14),(74,7,12,13),(65,14,13,14),(74,4,12,13),(65,1,13,15),(74,8,12,13),(65,15,13,15)]
def stepsA (b:Nat):Array Value:=#[.func (.func 72) #[] #[],.pointer (some ⟨b,10,none⟩),.pointer (some ⟨b,10,none⟩),.pointer (some ⟨b,18,none⟩),.func (.func 73) #[] #[],.pointer (some ⟨b,12,none⟩),.pointer (some ⟨b,12,none⟩),.pointer (some ⟨b,20,none⟩),.func (.func 74) #[] #[],.pointer (some ⟨b,20,none⟩),.pointer (some ⟨b,4,none⟩),.pointer (some ⟨b,20,none⟩),.func (.func 65) #[] #[],.pointer (some ⟨b,18,none⟩),.pointer (some ⟨b,20,none⟩),.pointer (some ⟨b,20,none⟩),.func (.func 75) #[] #[],.pointer (some ⟨b,20,none⟩),.pointer (some ⟨b,20,none⟩),.pointer (some ⟨b,22,none⟩),.func (.func 65) #[] #[],.pointer (some ⟨b,10,none⟩),.pointer (some ⟨b,22,none⟩),.pointer (some ⟨b,22,none⟩),.func (.func 76) #[] #[],.pointer (some ⟨b,22,none⟩),.pointer (some ⟨b,12,none⟩),.pointer (some ⟨b,24,none⟩),.func (.func 74) #[] #[],.pointer (some ⟨b,6,none⟩),.pointer (some ⟨b,24,none⟩),.pointer (some ⟨b,26,none⟩),.func (.func 65) #[] #[],.pointer (some ⟨b,0,none⟩),.pointer (some ⟨b,26,none⟩),.pointer (some ⟨b,28,none⟩),.func (.func 74) #[] #[],.pointer (some ⟨b,14,none⟩),.pointer (some ⟨b,24,none⟩),.pointer (some ⟨b,26,none⟩),.func (.func 65) #[] #[],.pointer (some ⟨b,28,none⟩),.pointer (some ⟨b,26,none⟩),.pointer (some ⟨b,28,none⟩),.func (.func 74) #[] #[],.pointer (some ⟨b,8,none⟩),.pointer (some ⟨b,24,none⟩),.pointer (some ⟨b,26,none⟩),.func (.func 65) #[] #[],.pointer (some ⟨b,2,none⟩),.pointer (some ⟨b,26,none⟩),.pointer (some ⟨b,30,none⟩),.func (.func 74) #[] #[],.pointer (some ⟨b,16,none⟩),.pointer (some ⟨b,24,none⟩),.pointer (some ⟨b,26,none⟩),.func (.func 65) #[] #[],.pointer (some ⟨b,30,none⟩),.pointer (some ⟨b,26,none⟩),.pointer (some ⟨b,30,none⟩)]
theorem info_115:(Tryz.prog.info? 115).map (·.size)=some 4:=by kernel_rfl
theorem und116a:Tryz.prog.underlying 116=some (.array 15 115):=by kernel_rfl
theorem und_116:Tryz.prog.underlying 116=some (.array 15 115):=by kernel_rfl
theorem info_116:(Tryz.prog.info? 116).map (·.size)=some 60:=by kernel_rfl
theorem index116 (b k:Nat) (hk:k<15) (w:World):∃ f i j t,opsI[k]?=some (f,i,j,t)∧(Instr.index 116 (.agg (stepsA b)) (.int .i64 (k:Int))).run Tryz.prog w=.ok (.agg (stepA b f i j t).toArray) w:=by
 obtain ⟨i,hi,hs⟩:=Option.map_eq_some_iff.1 info_115
 have h15:k=0 ∨ k=1 ∨ k=2 ∨ k=3 ∨ k=4 ∨ k=5 ∨ k=6 ∨ k=7 ∨ k=8 ∨ k=9 ∨ k=10 ∨ k=11 ∨ k=12 ∨ k=13 ∨ k=14:=by omega
 rcases h15 with rfl | rfl | rfl | rfl | rfl | rfl | rfl | rfl | rfl | rfl | rfl | rfl | rfl | rfl | rfl <;> exact ⟨_,_,_,_,rfl,by simp [Instr.index,run_underlying und116a,asIntOf,sizeOf,typeInfo,hi,hs,part,stepsA,stepA]⟩
theorem steps28_any (b:Nat) (w:World):Calls Tryz.prog 28 #[.pointer (some ⟨b,0,none⟩)] w fun e w'=>e=.returned (.agg (stepsA b))∧Below w.heap.size w w':=by
 obtain ⟨PQ,hPQ⟩:∃ Q:Ending→World→Prop,(fun e w'=>e=.returned (.agg (stepsA b))∧Below w.heap.size w w')=Q:=⟨_,rfl⟩
 have HFIN:Hid (∀ w' g,Fr w [] [(g,116,stepsA b)] w'→PQ (.returned (.agg (stepsA b))) w'):=Lib.hid fun w' g h=>by rw [← hPQ];exact ⟨rfl,h.toBelow⟩
 rw [hPQ]
 clear hPQ
 obtain ⟨qb,hqb⟩:∃ qb,w.heap.size=qb:=⟨_,rfl⟩
 obtain ⟨W0,hW0⟩:∃ W0,w.alloc (.cells #[.nilFunc,.pointer none,.pointer none,.pointer none,.nilFunc,.pointer none,.pointer none,.pointer none,.nilFunc,.pointer none,.pointer none,.pointer none,.nilFunc,.pointer none,.pointer none,.pointer none,.nilFunc,.pointer none,.pointer none,.pointer none,.nilFunc,.pointer none,.pointer none,.pointer none,.nilFunc,.pointer none,.pointer none,.pointer none,.nilFunc,.pointer none,.pointer none,.pointer none,.nilFunc,.pointer none,.pointer none,.pointer none,.nilFunc,.pointer none,.pointer none,.pointer none,.nilFunc,.pointer none,.pointer none,.pointer none,.nilFunc,.pointer none,.pointer none,.pointer none,.nilFunc,.pointer none,.pointer none,.pointer none,.nilFunc,.pointer none,.pointer none,.pointer none,.nilFunc,.pointer none,.pointer none,.pointer none] 116)=W0:=⟨_,rfl⟩
 have HF0:Hid (Fr w [] [(qb,116,#[.nilFunc,.pointer none,.pointer none,.pointer none,.nilFunc,.pointer none,.pointer none,.pointer none,.nilFunc,.pointer none,.pointer none,.pointer none,.nilFunc,.pointer none,.pointer none,.pointer none,.nilFunc,.pointer none,.pointer none,.pointer none,.nilFunc,.pointer none,.pointer none,.pointer none,.nilFunc,.pointer none,.pointer none,.pointer none,.nilFunc,.pointer none,.pointer none,.pointer none,.nilFunc,.pointer none,.pointer none,.pointer none,.nilFunc,.pointer none,.pointer none,.pointer none,.nilFunc,.pointer none,.pointer none,.pointer none,.nilFunc,.pointer none,.pointer none,.pointer none,.nilFunc,.pointer none,.pointer none,.pointer none,.nilFunc,.pointer none,.pointer none,.pointer none,.nilFunc,.pointer none,.pointer none,.pointer none])] W0):=Lib.hid (by rw [← hW0];exact (Fr.start w).alloc hqb.symm 116 #[.nilFunc,.pointer none,.pointer none,.pointer none,.nilFunc,.pointer none,.pointer none,.pointer none,.nilFunc,.pointer none,.pointer none,.pointer none,.nilFunc,.pointer none,.pointer none,.pointer none,.nilFunc,.pointer none,.pointer none,.pointer none,.nilFunc,.pointer none,.pointer none,.pointer none,.nilFunc,.pointer none,.pointer none,.pointer none,.nilFunc,.pointer none,.pointer none,.pointer none,.nilFunc,.pointer none,.pointer none,.pointer none,.nilFunc,.pointer none,.pointer none,.pointer none,.nilFunc,.pointer none,.pointer none,.pointer none,.nilFunc,.pointer none,.pointer none,.pointer none,.nilFunc,.pointer none,.pointer none,.pointer none,.nilFunc,.pointer none,.pointer none,.pointer none,.nilFunc,.pointer none,.pointer none,.pointer none])
 go_enter Tryz.func28,Tryz.ntmps28
 go_upto_region 1 with (fail)
 clear hW0 hqb
 refine wp_region_fr [Kind.p,Kind.p,Kind.p,Kind.p,Kind.p,Kind.p,Kind.p,Kind.p,Kind.p,Kind.p,Kind.p,Kind.p,Kind.p,Kind.p,Kind.p,Kind.p,Kind.p,Kind.p,Kind.p,Kind.p,Kind.p,Kind.p,Kind.p,Kind.p,Kind.p,Kind.p,Kind.p,Kind.p,Kind.p,Kind.p,Kind.p,Kind.p,Kind.p,Kind.p,Kind.p,Kind.p,Kind.p,Kind.p,Kind.p,Kind.p,Kind.p,Kind.p,Kind.p,Kind.p,Kind.p,Kind.p,Kind.p,Kind.p,Kind.p,Kind.p,Kind.p,Kind.p,Kind.p,Kind.p,Kind.p,Kind.p,Kind.p,Kind.p,Kind.p,Kind.p,Kind.p,Kind.p,Kind.p,Kind.p,Kind.p,Kind.p,Kind.p,Kind.p,Kind.p,Kind.p,Kind.p,Kind.p,Kind.p,Kind.p,Kind.p,Kind.p,Kind.p,Kind.p,Kind.p,Kind.p,Kind.p,Kind.p,Kind.p,Kind.p,Kind.p,Kind.p,Kind.p,Kind.p,Kind.p,Kind.p,Kind.p,Kind.p,Kind.p,Kind.p,Kind.p,Kind.p,Kind.p,Kind.p,Kind.p,Kind.p,Kind.p,Kind.p,Kind.p,Kind.p,Kind.p,Kind.p,Kind.p,Kind.p,Kind.p,Kind.p,Kind.p,Kind.p,Kind.p,Kind.p,Kind.p,Kind.p,Kind.p,Kind.p,Kind.p,Kind.p,Kind.p,Kind.p,Kind.p,Kind.p,Kind.p,Kind.p,Kind.p,Kind.p,Kind.p,Kind.p,Kind.p,Kind.p,Kind.p,Kind.p,Kind.p,Kind.p,Kind.p,Kind.p,Kind.p,Kind.p,Kind.p,Kind.p,Kind.p,Kind.p,Kind.p,Kind.p,Kind.p,Kind.p,Kind.p,Kind.p,Kind.p,Kind.p,Kind.p,Kind.p,Kind.p,Kind.p,Kind.p,Kind.p,Kind.p,Kind.p,Kind.p,Kind.p,Kind.p,Kind.p,Kind.c 0] [164] [] w (fun _=>[]) (fun k=>[(qb,116,(if k≤0 then #[.nilFunc,.pointer none,.pointer none,.pointer none,.nilFunc,.pointer none,.pointer none,.pointer none,.nilFunc,.pointer none,.pointer none,.pointer none,.nilFunc,.pointer none,.pointer none,.pointer none,.nilFunc,.pointer none,.pointer none,.pointer none,.nilFunc,.pointer none,.pointer none,.pointer none,.nilFunc,.pointer none,.pointer none,.pointer none,.nilFunc,.pointer none,.pointer none,.pointer none,.nilFunc,.pointer none,.pointer none,.pointer none,.nilFunc,.pointer none,.pointer none,.pointer none,.nilFunc,.pointer none,.pointer none,.pointer none,.nilFunc,.pointer none,.pointer none,.pointer none,.nilFunc,.pointer none,.pointer none,.pointer none,.nilFunc,.pointer none,.pointer none,.pointer none,.nilFunc,.pointer none,.pointer none,.pointer none] else #[.func (.func 72) #[] #[],.pointer (some ⟨b,10,none⟩),.pointer (some ⟨b,10,none⟩),.pointer (some ⟨b,18,none⟩),.func (.func 73) #[] #[],.pointer (some ⟨b,12,none⟩),.pointer (some ⟨b,12,none⟩),.pointer (some ⟨b,20,none⟩),.func (.func 74) #[] #[],.pointer (some ⟨b,20,none⟩),.pointer (some ⟨b,4,none⟩),.pointer (some ⟨b,20,none⟩),.func (.func 65) #[] #[],.pointer (some ⟨b,18,none⟩),.pointer (some ⟨b,20,none⟩),.pointer (some ⟨b,20,none⟩),.func (.func 75) #[] #[],.pointer (some ⟨b,20,none⟩),.pointer (some ⟨b,20,none⟩),.pointer (some ⟨b,22,none⟩),.func (.func 65) #[] #[],.pointer (some ⟨b,10,none⟩),.pointer (some ⟨b,22,none⟩),.pointer (some ⟨b,22,none⟩),.func (.func 76) #[] #[],.pointer (some ⟨b,22,none⟩),.pointer (some ⟨b,12,none⟩),.pointer (some ⟨b,24,none⟩),.func (.func 74) #[] #[],.pointer (some ⟨b,6,none⟩),.pointer (some ⟨b,24,none⟩),.pointer (some ⟨b,26,none⟩),.func (.func 65) #[] #[],.pointer (some ⟨b,0,none⟩),.pointer (some ⟨b,26,none⟩),.pointer (some ⟨b,28,none⟩),.func (.func 74) #[] #[],.pointer (some ⟨b,14,none⟩),.pointer (some ⟨b,24,none⟩),.pointer (some ⟨b,26,none⟩),.func (.func 65) #[] #[],.pointer (some ⟨b,28,none⟩),.pointer (some ⟨b,26,none⟩),.pointer (some ⟨b,28,none⟩),.func (.func 74) #[] #[],.pointer (some ⟨b,8,none⟩),.pointer (some ⟨b,24,none⟩),.pointer (some ⟨b,26,none⟩),.func (.func 65) #[] #[],.pointer (some ⟨b,2,none⟩),.pointer (some ⟨b,26,none⟩),.pointer (some ⟨b,30,none⟩),.func (.func 74) #[] #[],.pointer (some ⟨b,16,none⟩),.pointer (some ⟨b,24,none⟩),.pointer (some ⟨b,26,none⟩),.func (.func 65) #[] #[],.pointer (some ⟨b,30,none⟩),.pointer (some ⟨b,26,none⟩),.pointer (some ⟨b,30,none⟩)]))])
    (fun ix u _=>match ix with
     | 0=>u=.pointer (some ⟨b,0,none⟩)
     | 1=>u=.pointer (some ⟨b,0,none⟩)
     | 2=>u=.pointer (some ⟨b,0,none⟩)
     | 3=>u=.pointer (some ⟨b,10,none⟩)
     | 4=>u=.pointer (some ⟨b,0,none⟩)
     | 5=>u=.pointer (some ⟨b,0,none⟩)
     | 6=>u=.pointer (some ⟨b,0,none⟩)
     | 7=>u=.pointer (some ⟨b,10,none⟩)
     | 8=>u=.pointer (some ⟨b,0,none⟩)
     | 9=>u=.pointer (some ⟨b,0,none⟩)
     | 10=>u=.pointer (some ⟨b,18,none⟩)
     | 11=>u=.agg #[.func (.func 72) #[] #[],.pointer (some ⟨b,10,none⟩),.pointer (some ⟨b,10,none⟩),.pointer (some ⟨b,18,none⟩)]
     | 12=>u=.pointer (some ⟨b,0,none⟩)
     | 13=>u=.pointer (some ⟨b,0,none⟩)
     | 14=>u=.pointer (some ⟨b,0,none⟩)
     | 15=>u=.pointer (some ⟨b,12,none⟩)
     | 16=>u=.pointer (some ⟨b,0,none⟩)
     | 17=>u=.pointer (some ⟨b,0,none⟩)
     | 18=>u=.pointer (some ⟨b,0,none⟩)
     | 19=>u=.pointer (some ⟨b,12,none⟩)
     | 20=>u=.pointer (some ⟨b,0,none⟩)
     | 21=>u=.pointer (some ⟨b,0,none⟩)
     | 22=>u=.pointer (some ⟨b,20,none⟩)
     | 23=>u=.agg #[.func (.func 73) #[] #[],.pointer (some ⟨b,12,none⟩),.pointer (some ⟨b,12,none⟩),.pointer (some ⟨b,20,none⟩)]
     | 24=>u=.pointer (some ⟨b,0,none⟩)
     | 25=>u=.pointer (some ⟨b,0,none⟩)
     | 26=>u=.pointer (some ⟨b,20,none⟩)
     | 27=>u=.pointer (some ⟨b,0,none⟩)
     | 28=>u=.pointer (some ⟨b,0,none⟩)
     | 29=>u=.pointer (some ⟨b,0,none⟩)
     | 30=>u=.pointer (some ⟨b,4,none⟩)
     | 31=>u=.pointer (some ⟨b,0,none⟩)
     | 32=>u=.pointer (some ⟨b,0,none⟩)
     | 33=>u=.pointer (some ⟨b,20,none⟩)
     | 34=>u=.agg #[.func (.func 74) #[] #[],.pointer (some ⟨b,20,none⟩),.pointer (some ⟨b,4,none⟩),.pointer (some ⟨b,20,none⟩)]
     | 35=>u=.pointer (some ⟨b,0,none⟩)
     | 36=>u=.pointer (some ⟨b,0,none⟩)
     | 37=>u=.pointer (some ⟨b,18,none⟩)
     | 38=>u=.pointer (some ⟨b,0,none⟩)
     | 39=>u=.pointer (some ⟨b,0,none⟩)
     | 40=>u=.pointer (some ⟨b,20,none⟩)
     | 41=>u=.pointer (some ⟨b,0,none⟩)
     | 42=>u=.pointer (some ⟨b,0,none⟩)
     | 43=>u=.pointer (some ⟨b,20,none⟩)
     | 44=>u=.agg #[.func (.func 65) #[] #[],.pointer (some ⟨b,18,none⟩),.pointer (some ⟨b,20,none⟩),.pointer (some ⟨b,20,none⟩)]
     | 45=>u=.pointer (some ⟨b,0,none⟩)
     | 46=>u=.pointer (some ⟨b,0,none⟩)
     | 47=>u=.pointer (some ⟨b,20,none⟩)
     | 48=>u=.pointer (some ⟨b,0,none⟩)
     | 49=>u=.pointer (some ⟨b,0,none⟩)
     | 50=>u=.pointer (some ⟨b,20,none⟩)
     | 51=>u=.pointer (some ⟨b,0,none⟩)
     | 52=>u=.pointer (some ⟨b,0,none⟩)
     | 53=>u=.pointer (some ⟨b,22,none⟩)
     | 54=>u=.agg #[.func (.func 75) #[] #[],.pointer (some ⟨b,20,none⟩),.pointer (some ⟨b,20,none⟩),.pointer (some ⟨b,22,none⟩)]
     | 55=>u=.pointer (some ⟨b,0,none⟩)
     | 56=>u=.pointer (some ⟨b,0,none⟩)
     | 57=>u=.pointer (some ⟨b,0,none⟩)
     | 58=>u=.pointer (some ⟨b,10,none⟩)
     | 59=>u=.pointer (some ⟨b,0,none⟩)
     | 60=>u=.pointer (some ⟨b,0,none⟩)
     | 61=>u=.pointer (some ⟨b,22,none⟩)
     | 62=>u=.pointer (some ⟨b,0,none⟩)
     | 63=>u=.pointer (some ⟨b,0,none⟩)
     | 64=>u=.pointer (some ⟨b,22,none⟩)
     | 65=>u=.agg #[.func (.func 65) #[] #[],.pointer (some ⟨b,10,none⟩),.pointer (some ⟨b,22,none⟩),.pointer (some ⟨b,22,none⟩)]
     | 66=>u=.pointer (some ⟨b,0,none⟩)
     | 67=>u=.pointer (some ⟨b,0,none⟩)
     | 68=>u=.pointer (some ⟨b,22,none⟩)
     | 69=>u=.pointer (some ⟨b,0,none⟩)
     | 70=>u=.pointer (some ⟨b,0,none⟩)
     | 71=>u=.pointer (some ⟨b,0,none⟩)
     | 72=>u=.pointer (some ⟨b,12,none⟩)
     | 73=>u=.pointer (some ⟨b,0,none⟩)
     | 74=>u=.pointer (some ⟨b,0,none⟩)
     | 75=>u=.pointer (some ⟨b,24,none⟩)
     | 76=>u=.agg #[.func (.func 76) #[] #[],.pointer (some ⟨b,22,none⟩),.pointer (some ⟨b,12,none⟩),.pointer (some ⟨b,24,none⟩)]
     | 77=>u=.pointer (some ⟨b,0,none⟩)
     | 78=>u=.pointer (some ⟨b,0,none⟩)
     | 79=>u=.pointer (some ⟨b,0,none⟩)
     | 80=>u=.pointer (some ⟨b,6,none⟩)
     | 81=>u=.pointer (some ⟨b,0,none⟩)
     | 82=>u=.pointer (some ⟨b,0,none⟩)
     | 83=>u=.pointer (some ⟨b,24,none⟩)
     | 84=>u=.pointer (some ⟨b,0,none⟩)
     | 85=>u=.pointer (some ⟨b,0,none⟩)
     | 86=>u=.pointer (some ⟨b,26,none⟩)
     | 87=>u=.agg #[.func (.func 74) #[] #[],.pointer (some ⟨b,6,none⟩),.pointer (some ⟨b,24,none⟩),.pointer (some ⟨b,26,none⟩)]
     | 88=>u=.pointer (some ⟨b,0,none⟩)
     | 89=>u=.pointer (some ⟨b,0,none⟩)
     | 90=>u=.pointer (some ⟨b,0,none⟩)
     | 91=>u=.pointer (some ⟨b,0,none⟩)
     | 92=>u=.pointer (some ⟨b,0,none⟩)
     | 93=>u=.pointer (some ⟨b,0,none⟩)
     | 94=>u=.pointer (some ⟨b,26,none⟩)
     | 95=>u=.pointer (some ⟨b,0,none⟩)
     | 96=>u=.pointer (some ⟨b,0,none⟩)
     | 97=>u=.pointer (some ⟨b,28,none⟩)
     | 98=>u=.agg #[.func (.func 65) #[] #[],.pointer (some ⟨b,0,none⟩),.pointer (some ⟨b,26,none⟩),.pointer (some ⟨b,28,none⟩)]
     | 99=>u=.pointer (some ⟨b,0,none⟩)
     | 100=>u=.pointer (some ⟨b,0,none⟩)
     | 101=>u=.pointer (some ⟨b,0,none⟩)
     | 102=>u=.pointer (some ⟨b,14,none⟩)
     | 103=>u=.pointer (some ⟨b,0,none⟩)
     | 104=>u=.pointer (some ⟨b,0,none⟩)
     | 105=>u=.pointer (some ⟨b,24,none⟩)
     | 106=>u=.pointer (some ⟨b,0,none⟩)
     | 107=>u=.pointer (some ⟨b,0,none⟩)
     | 108=>u=.pointer (some ⟨b,26,none⟩)
     | 109=>u=.agg #[.func (.func 74) #[] #[],.pointer (some ⟨b,14,none⟩),.pointer (some ⟨b,24,none⟩),.pointer (some ⟨b,26,none⟩)]
     | 110=>u=.pointer (some ⟨b,0,none⟩)
     | 111=>u=.pointer (some ⟨b,0,none⟩)
     | 112=>u=.pointer (some ⟨b,28,none⟩)
     | 113=>u=.pointer (some ⟨b,0,none⟩)
     | 114=>u=.pointer (some ⟨b,0,none⟩)
     | 115=>u=.pointer (some ⟨b,26,none⟩)
     | 116=>u=.pointer (some ⟨b,0,none⟩)
     | 117=>u=.pointer (some ⟨b,0,none⟩)
     | 118=>u=.pointer (some ⟨b,28,none⟩)
     | 119=>u=.agg #[.func (.func 65) #[] #[],.pointer (some ⟨b,28,none⟩),.pointer (some ⟨b,26,none⟩),.pointer (some ⟨b,28,none⟩)]
     | 120=>u=.pointer (some ⟨b,0,none⟩)
     | 121=>u=.pointer (some ⟨b,0,none⟩)
     | 122=>u=.pointer (some ⟨b,0,none⟩)
     | 123=>u=.pointer (some ⟨b,8,none⟩)
     | 124=>u=.pointer (some ⟨b,0,none⟩)
     | 125=>u=.pointer (some ⟨b,0,none⟩)
     | 126=>u=.pointer (some ⟨b,24,none⟩)
     | 127=>u=.pointer (some ⟨b,0,none⟩)
     | 128=>u=.pointer (some ⟨b,0,none⟩)
     | 129=>u=.pointer (some ⟨b,26,none⟩)
     | 130=>u=.agg #[.func (.func 74) #[] #[],.pointer (some ⟨b,8,none⟩),.pointer (some ⟨b,24,none⟩),.pointer (some ⟨b,26,none⟩)]
     | 131=>u=.pointer (some ⟨b,0,none⟩)
     | 132=>u=.pointer (some ⟨b,0,none⟩)
     | 133=>u=.pointer (some ⟨b,0,none⟩)
     | 134=>u=.pointer (some ⟨b,2,none⟩)
     | 135=>u=.pointer (some ⟨b,0,none⟩)
     | 136=>u=.pointer (some ⟨b,0,none⟩)
     | 137=>u=.pointer (some ⟨b,26,none⟩)
     | 138=>u=.pointer (some ⟨b,0,none⟩)
     | 139=>u=.pointer (some ⟨b,0,none⟩)
     | 140=>u=.pointer (some ⟨b,30,none⟩)
     | 141=>u=.agg #[.func (.func 65) #[] #[],.pointer (some ⟨b,2,none⟩),.pointer (some ⟨b,26,none⟩),.pointer (some ⟨b,30,none⟩)]
     | 142=>u=.pointer (some ⟨b,0,none⟩)
     | 143=>u=.pointer (some ⟨b,0,none⟩)
     | 144=>u=.pointer (some ⟨b,0,none⟩)
     | 145=>u=.pointer (some ⟨b,16,none⟩)
     | 146=>u=.pointer (some ⟨b,0,none⟩)
     | 147=>u=.pointer (some ⟨b,0,none⟩)
     | 148=>u=.pointer (some ⟨b,24,none⟩)
     | 149=>u=.pointer (some ⟨b,0,none⟩)
     | 150=>u=.pointer (some ⟨b,0,none⟩)
     | 151=>u=.pointer (some ⟨b,26,none⟩)
     | 152=>u=.agg #[.func (.func 74) #[] #[],.pointer (some ⟨b,16,none⟩),.pointer (some ⟨b,24,none⟩),.pointer (some ⟨b,26,none⟩)]
     | 153=>u=.pointer (some ⟨b,0,none⟩)
     | 154=>u=.pointer (some ⟨b,0,none⟩)
     | 155=>u=.pointer (some ⟨b,30,none⟩)
     | 156=>u=.pointer (some ⟨b,0,none⟩)
     | 157=>u=.pointer (some ⟨b,0,none⟩)
     | 158=>u=.pointer (some ⟨b,26,none⟩)
     | 159=>u=.pointer (some ⟨b,0,none⟩)
     | 160=>u=.pointer (some ⟨b,0,none⟩)
     | 161=>u=.pointer (some ⟨b,30,none⟩)
     | 162=>u=.agg #[.func (.func 65) #[] #[],.pointer (some ⟨b,30,none⟩),.pointer (some ⟨b,26,none⟩),.pointer (some ⟨b,30,none⟩)]
     | 163=>u=.agg #[.func (.func 72) #[] #[],.pointer (some ⟨b,10,none⟩),.pointer (some ⟨b,10,none⟩),.pointer (some ⟨b,18,none⟩),.func (.func 73) #[] #[],.pointer (some ⟨b,12,none⟩),.pointer (some ⟨b,12,none⟩),.pointer (some ⟨b,20,none⟩),.func (.func 74) #[] #[],.pointer (some ⟨b,20,none⟩),.pointer (some ⟨b,4,none⟩),.pointer (some ⟨b,20,none⟩),.func (.func 65) #[] #[],.pointer (some ⟨b,18,none⟩),.pointer (some ⟨b,20,none⟩),.pointer (some ⟨b,20,none⟩),.func (.func 75) #[] #[],.pointer (some ⟨b,20,none⟩),.pointer (some ⟨b,20,none⟩),.pointer (some ⟨b,22,none⟩),.func (.func 65) #[] #[],.pointer (some ⟨b,10,none⟩),.pointer (some ⟨b,22,none⟩),.pointer (some ⟨b,22,none⟩),.func (.func 76) #[] #[],.pointer (some ⟨b,22,none⟩),.pointer (some ⟨b,12,none⟩),.pointer (some ⟨b,24,none⟩),.func (.func 74) #[] #[],.pointer (some ⟨b,6,none⟩),.pointer (some ⟨b,24,none⟩),.pointer (some ⟨b,26,none⟩),.func (.func 65) #[] #[],.pointer (some ⟨b,0,none⟩),.pointer (some ⟨b,26,none⟩),.pointer (some ⟨b,28,none⟩),.func (.func 74) #[] #[],.pointer (some ⟨b,14,none⟩),.pointer (some ⟨b,24,none⟩),.pointer (some ⟨b,26,none⟩),.func (.func 65) #[] #[],.pointer (some ⟨b,28,none⟩),.pointer (some ⟨b,26,none⟩),.pointer (some ⟨b,28,none⟩),.func (.func 74) #[] #[],.pointer (some ⟨b,8,none⟩),.pointer (some ⟨b,24,none⟩),.pointer (some ⟨b,26,none⟩),.func (.func 65) #[] #[],.pointer (some ⟨b,2,none⟩),.pointer (some ⟨b,26,none⟩),.pointer (some ⟨b,30,none⟩),.func (.func 74) #[] #[],.pointer (some ⟨b,16,none⟩),.pointer (some ⟨b,24,none⟩),.pointer (some ⟨b,26,none⟩),.func (.func 65) #[] #[],.pointer (some ⟨b,30,none⟩),.pointer (some ⟨b,26,none⟩),.pointer (some ⟨b,30,none⟩)]
     | _=>True)
    (by kernel_rfl) (by kernel_rfl) (by kernel_rfl) [] rfl (by decide) (by kernel_rfl) (by kernel_rfl) HF0.out ?_ ?_
 ·refine ⟨?_,?_,?_,?_,?_,?_,?_,?_,?_,?_,?_,?_,?_,?_,?_,?_,?_,?_,?_,?_,?_,?_,?_,?_,?_,?_,?_,?_,?_,?_,?_,?_,?_,?_,?_,?_,?_,?_,?_,?_,?_,?_,?_,?_,?_,?_,?_,?_,?_,?_,?_,?_,?_,?_,?_,?_,?_,?_,?_,?_,?_,?_,?_,?_,?_,?_,?_,?_,?_,?_,?_,?_,?_,?_,?_,?_,?_,?_,?_,?_,?_,?_,?_,?_,?_,?_,?_,?_,?_,?_,?_,?_,?_,?_,?_,?_,?_,?_,?_,?_,?_,?_,?_,?_,?_,?_,?_,?_,?_,?_,?_,?_,?_,?_,?_,?_,?_,?_,?_,?_,?_,?_,?_,?_,?_,?_,?_,?_,?_,?_,?_,?_,?_,?_,?_,?_,?_,?_,?_,?_,?_,?_,?_,?_,?_,?_,?_,?_,?_,?_,?_,?_,?_,?_,?_,?_,?_,?_,?_,?_,?_,?_,?_,?_,?_,trivial⟩
  all_goals intro a w1 vs dn k K S hpre KE DE kk
  ·have e0:=KE 0 (by decide)
   go_simp;exact kk _ _ (by simp) bR rfl
  ·have e3:=dep (DE 0 _ 3 rfl rfl rfl)
   go_simp;exact kk _ _ (by simp) bR rfl
  ·have e4:=dep (DE 1 _ 4 rfl rfl rfl)
   go_simp;exact kk _ _ (by simp) bR rfl
  ·have e5:=dep (DE 2 _ 5 rfl rfl rfl)
   go_simp;exact kk _ _ (by simp) bR rfl
  ·have e0:=KE 0 (by decide)
   go_simp;exact kk _ _ (by simp) bR rfl
  ·have e7:=dep (DE 4 _ 7 rfl rfl rfl)
   go_simp;exact kk _ _ (by simp) bR rfl
  ·have e8:=dep (DE 5 _ 8 rfl rfl rfl)
   go_simp;exact kk _ _ (by simp) bR rfl
  ·have e9:=dep (DE 6 _ 9 rfl rfl rfl)
   go_simp;exact kk _ _ (by simp) bR rfl
  ·have e0:=KE 0 (by decide)
   go_simp;exact kk _ _ (by simp) bR rfl
  ·have e11:=dep (DE 8 _ 11 rfl rfl rfl)
   go_simp;exact kk _ _ (by simp) bR rfl
  ·have e12:=dep (DE 9 _ 12 rfl rfl rfl)
   go_simp;exact kk _ _ (by simp) bR rfl
  ·have e6:=dep (DE 3 _ 6 rfl rfl rfl)
   have e10:=dep (DE 7 _ 10 rfl rfl rfl)
   have e13:=dep (DE 10 _ 13 rfl rfl rfl)
   go_simp;exact kk _ _ (by simp) bR rfl
  ·have e0:=KE 0 (by decide)
   go_simp;exact kk _ _ (by simp) bR rfl
  ·have e15:=dep (DE 12 _ 15 rfl rfl rfl)
   go_simp;exact kk _ _ (by simp) bR rfl
  ·have e16:=dep (DE 13 _ 16 rfl rfl rfl)
   go_simp;exact kk _ _ (by simp) bR rfl
  ·have e17:=dep (DE 14 _ 17 rfl rfl rfl)
   go_simp;exact kk _ _ (by simp) bR rfl
  ·have e0:=KE 0 (by decide)
   go_simp;exact kk _ _ (by simp) bR rfl
  ·have e19:=dep (DE 16 _ 19 rfl rfl rfl)
   go_simp;exact kk _ _ (by simp) bR rfl
  ·have e20:=dep (DE 17 _ 20 rfl rfl rfl)
   go_simp;exact kk _ _ (by simp) bR rfl
  ·have e21:=dep (DE 18 _ 21 rfl rfl rfl)
   go_simp;exact kk _ _ (by simp) bR rfl
  ·have e0:=KE 0 (by decide)
   go_simp;exact kk _ _ (by simp) bR rfl
  ·have e23:=dep (DE 20 _ 23 rfl rfl rfl)
   go_simp;exact kk _ _ (by simp) bR rfl
  ·have e24:=dep (DE 21 _ 24 rfl rfl rfl)
   go_simp;exact kk _ _ (by simp) bR rfl
  ·have e18:=dep (DE 15 _ 18 rfl rfl rfl)
   have e22:=dep (DE 19 _ 22 rfl rfl rfl)
   have e25:=dep (DE 22 _ 25 rfl rfl rfl)
   go_simp;exact kk _ _ (by simp) bR rfl
  ·have e0:=KE 0 (by decide)
   go_simp;exact kk _ _ (by simp) bR rfl
  ·have e27:=dep (DE 24 _ 27 rfl rfl rfl)
   go_simp;exact kk _ _ (by simp) bR rfl
  ·have e28:=dep (DE 25 _ 28 rfl rfl rfl)
   go_simp;exact kk _ _ (by simp) bR rfl
  ·have e0:=KE 0 (by decide)
   go_simp;exact kk _ _ (by simp) bR rfl
  ·have e30:=dep (DE 27 _ 30 rfl rfl rfl)
   go_simp;exact kk _ _ (by simp) bR rfl
  ·have e31:=dep (DE 28 _ 31 rfl rfl rfl)
   go_simp;exact kk _ _ (by simp) bR rfl
  ·have e32:=dep (DE 29 _ 32 rfl rfl rfl)
   go_simp;exact kk _ _ (by simp) bR rfl
  ·have e0:=KE 0 (by decide)
   go_simp;exact kk _ _ (by simp) bR rfl
  ·have e34:=dep (DE 31 _ 34 rfl rfl rfl)
   go_simp;exact kk _ _ (by simp) bR rfl
  ·have e35:=dep (DE 32 _ 35 rfl rfl rfl)
   go_simp;exact kk _ _ (by simp) bR rfl
  ·have e29:=dep (DE 26 _ 29 rfl rfl rfl)
   have e33:=dep (DE 30 _ 33 rfl rfl rfl)
   have e36:=dep (DE 33 _ 36 rfl rfl rfl)
   go_simp;exact kk _ _ (by simp) bR rfl
  ·have e0:=KE 0 (by decide)
   go_simp;exact kk _ _ (by simp) bR rfl
  ·have e38:=dep (DE 35 _ 38 rfl rfl rfl)
   go_simp;exact kk _ _ (by simp) bR rfl
  ·have e39:=dep (DE 36 _ 39 rfl rfl rfl)
   go_simp;exact kk _ _ (by simp) bR rfl
  ·have e0:=KE 0 (by decide)
   go_simp;exact kk _ _ (by simp) bR rfl
  ·have e41:=dep (DE 38 _ 41 rfl rfl rfl)
   go_simp;exact kk _ _ (by simp) bR rfl
  ·have e42:=dep (DE 39 _ 42 rfl rfl rfl)
   go_simp;exact kk _ _ (by simp) bR rfl
  ·have e0:=KE 0 (by decide)
   go_simp;exact kk _ _ (by simp) bR rfl
  ·have e44:=dep (DE 41 _ 44 rfl rfl rfl)
   go_simp;exact kk _ _ (by simp) bR rfl
  ·have e45:=dep (DE 42 _ 45 rfl rfl rfl)
   go_simp;exact kk _ _ (by simp) bR rfl
  ·have e40:=dep (DE 37 _ 40 rfl rfl rfl)
   have e43:=dep (DE 40 _ 43 rfl rfl rfl)
   have e46:=dep (DE 43 _ 46 rfl rfl rfl)
   go_simp;exact kk _ _ (by simp) bR rfl
  ·have e0:=KE 0 (by decide)
   go_simp;exact kk _ _ (by simp) bR rfl
  ·have e48:=dep (DE 45 _ 48 rfl rfl rfl)
   go_simp;exact kk _ _ (by simp) bR rfl
  ·have e49:=dep (DE 46 _ 49 rfl rfl rfl)
   go_simp;exact kk _ _ (by simp) bR rfl
  ·have e0:=KE 0 (by decide)
   go_simp;exact kk _ _ (by simp) bR rfl
  ·have e51:=dep (DE 48 _ 51 rfl rfl rfl)
   go_simp;exact kk _ _ (by simp) bR rfl
  ·have e52:=dep (DE 49 _ 52 rfl rfl rfl)
   go_simp;exact kk _ _ (by simp) bR rfl
  ·have e0:=KE 0 (by decide)
   go_simp;exact kk _ _ (by simp) bR rfl
  ·have e54:=dep (DE 51 _ 54 rfl rfl rfl)
   go_simp;exact kk _ _ (by simp) bR rfl
  ·have e55:=dep (DE 52 _ 55 rfl rfl rfl)
   go_simp;exact kk _ _ (by simp) bR rfl
  ·have e50:=dep (DE 47 _ 50 rfl rfl rfl)
   have e53:=dep (DE 50 _ 53 rfl rfl rfl)
   have e56:=dep (DE 53 _ 56 rfl rfl rfl)
   go_simp;exact kk _ _ (by simp) bR rfl
  ·have e0:=KE 0 (by decide)
   go_simp;exact kk _ _ (by simp) bR rfl
  ·have e58:=dep (DE 55 _ 58 rfl rfl rfl)
   go_simp;exact kk _ _ (by simp) bR rfl
  ·have e59:=dep (DE 56 _ 59 rfl rfl rfl)
   go_simp;exact kk _ _ (by simp) bR rfl
  ·have e60:=dep (DE 57 _ 60 rfl rfl rfl)
   go_simp;exact kk _ _ (by simp) bR rfl
  ·have e0:=KE 0 (by decide)
   go_simp;exact kk _ _ (by simp) bR rfl
  ·have e62:=dep (DE 59 _ 62 rfl rfl rfl)
   go_simp;exact kk _ _ (by simp) bR rfl
  ·have e63:=dep (DE 60 _ 63 rfl rfl rfl)
   go_simp;exact kk _ _ (by simp) bR rfl
  ·have e0:=KE 0 (by decide)
   go_simp;exact kk _ _ (by simp) bR rfl
  ·have e65:=dep (DE 62 _ 65 rfl rfl rfl)
   go_simp;exact kk _ _ (by simp) bR rfl
  ·have e66:=dep (DE 63 _ 66 rfl rfl rfl)
   go_simp;exact kk _ _ (by simp) bR rfl
  ·have e61:=dep (DE 58 _ 61 rfl rfl rfl)
   have e64:=dep (DE 61 _ 64 rfl rfl rfl)
   have e67:=dep (DE 64 _ 67 rfl rfl rfl)
   go_simp;exact kk _ _ (by simp) bR rfl
  ·have e0:=KE 0 (by decide)
   go_simp;exact kk _ _ (by simp) bR rfl
  ·have e69:=dep (DE 66 _ 69 rfl rfl rfl)
   go_simp;exact kk _ _ (by simp) bR rfl
  ·have e70:=dep (DE 67 _ 70 rfl rfl rfl)
   go_simp;exact kk _ _ (by simp) bR rfl
  ·have e0:=KE 0 (by decide)
   go_simp;exact kk _ _ (by simp) bR rfl
  ·have e72:=dep (DE 69 _ 72 rfl rfl rfl)
   go_simp;exact kk _ _ (by simp) bR rfl
  ·have e73:=dep (DE 70 _ 73 rfl rfl rfl)
   go_simp;exact kk _ _ (by simp) bR rfl
  ·have e74:=dep (DE 71 _ 74 rfl rfl rfl)
   go_simp;exact kk _ _ (by simp) bR rfl
  ·have e0:=KE 0 (by decide)
   go_simp;exact kk _ _ (by simp) bR rfl
  ·have e76:=dep (DE 73 _ 76 rfl rfl rfl)
   go_simp;exact kk _ _ (by simp) bR rfl
  ·have e77:=dep (DE 74 _ 77 rfl rfl rfl)
   go_simp;exact kk _ _ (by simp) bR rfl
  ·have e71:=dep (DE 68 _ 71 rfl rfl rfl)
   have e75:=dep (DE 72 _ 75 rfl rfl rfl)
   have e78:=dep (DE 75 _ 78 rfl rfl rfl)
   go_simp;exact kk _ _ (by simp) bR rfl
  ·have e0:=KE 0 (by decide)
   go_simp;exact kk _ _ (by simp) bR rfl
  ·have e80:=dep (DE 77 _ 80 rfl rfl rfl)
   go_simp;exact kk _ _ (by simp) bR rfl
  ·have e81:=dep (DE 78 _ 81 rfl rfl rfl)
   go_simp;exact kk _ _ (by simp) bR rfl
  ·have e82:=dep (DE 79 _ 82 rfl rfl rfl)
   go_simp;exact kk _ _ (by simp) bR rfl
  ·have e0:=KE 0 (by decide)
   go_simp;exact kk _ _ (by simp) bR rfl
  ·have e84:=dep (DE 81 _ 84 rfl rfl rfl)
   go_simp;exact kk _ _ (by simp) bR rfl
  ·have e85:=dep (DE 82 _ 85 rfl rfl rfl)
   go_simp;exact kk _ _ (by simp) bR rfl
  ·have e0:=KE 0 (by decide)
   go_simp;exact kk _ _ (by simp) bR rfl
  ·have e87:=dep (DE 84 _ 87 rfl rfl rfl)
   go_simp;exact kk _ _ (by simp) bR rfl
  ·have e88:=dep (DE 85 _ 88 rfl rfl rfl)
   go_simp;exact kk _ _ (by simp) bR rfl
  ·have e83:=dep (DE 80 _ 83 rfl rfl rfl)
   have e86:=dep (DE 83 _ 86 rfl rfl rfl)
   have e89:=dep (DE 86 _ 89 rfl rfl rfl)
   go_simp;exact kk _ _ (by simp) bR rfl
  ·have e0:=KE 0 (by decide)
   go_simp;exact kk _ _ (by simp) bR rfl
  ·have e91:=dep (DE 88 _ 91 rfl rfl rfl)
   go_simp;exact kk _ _ (by simp) bR rfl
  ·have e92:=dep (DE 89 _ 92 rfl rfl rfl)
   go_simp;exact kk _ _ (by simp) bR rfl
  ·have e93:=dep (DE 90 _ 93 rfl rfl rfl)
   go_simp;exact kk _ _ (by simp) bR rfl
  ·have e0:=KE 0 (by decide)
   go_simp;exact kk _ _ (by simp) bR rfl
  ·have e95:=dep (DE 92 _ 95 rfl rfl rfl)
   go_simp;exact kk _ _ (by simp) bR rfl
  ·have e96:=dep (DE 93 _ 96 rfl rfl rfl)
   go_simp;exact kk _ _ (by simp) bR rfl
  ·have e0:=KE 0 (by decide)
   go_simp;exact kk _ _ (by simp) bR rfl
  ·have e98:=dep (DE 95 _ 98 rfl rfl rfl)
   go_simp;exact kk _ _ (by simp) bR rfl
  ·have e99:=dep (DE 96 _ 99 rfl rfl rfl)
   go_simp;exact kk _ _ (by simp) bR rfl
  ·have e94:=dep (DE 91 _ 94 rfl rfl rfl)
   have e97:=dep (DE 94 _ 97 rfl rfl rfl)
   have e100:=dep (DE 97 _ 100 rfl rfl rfl)
   go_simp;exact kk _ _ (by simp) bR rfl
  ·have e0:=KE 0 (by decide)
   go_simp;exact kk _ _ (by simp) bR rfl
  ·have e102:=dep (DE 99 _ 102 rfl rfl rfl)
   go_simp;exact kk _ _ (by simp) bR rfl
  ·have e103:=dep (DE 100 _ 103 rfl rfl rfl)
   go_simp;exact kk _ _ (by simp) bR rfl
  ·have e104:=dep (DE 101 _ 104 rfl rfl rfl)
   go_simp;exact kk _ _ (by simp) bR rfl
  ·have e0:=KE 0 (by decide)
   go_simp;exact kk _ _ (by simp) bR rfl
  ·have e106:=dep (DE 103 _ 106 rfl rfl rfl)
   go_simp;exact kk _ _ (by simp) bR rfl
  ·have e107:=dep (DE 104 _ 107 rfl rfl rfl)
   go_simp;exact kk _ _ (by simp) bR rfl
  ·have e0:=KE 0 (by decide)
   go_simp;exact kk _ _ (by simp) bR rfl
  ·have e109:=dep (DE 106 _ 109 rfl rfl rfl)
   go_simp;exact kk _ _ (by simp) bR rfl
  ·have e110:=dep (DE 107 _ 110 rfl rfl rfl)
   go_simp;exact kk _ _ (by simp) bR rfl
  ·have e105:=dep (DE 102 _ 105 rfl rfl rfl)
   have e108:=dep (DE 105 _ 108 rfl rfl rfl)
   have e111:=dep (DE 108 _ 111 rfl rfl rfl)
   go_simp;exact kk _ _ (by simp) bR rfl
  ·have e0:=KE 0 (by decide)
   go_simp;exact kk _ _ (by simp) bR rfl
  ·have e113:=dep (DE 110 _ 113 rfl rfl rfl)
   go_simp;exact kk _ _ (by simp) bR rfl
  ·have e114:=dep (DE 111 _ 114 rfl rfl rfl)
   go_simp;exact kk _ _ (by simp) bR rfl
  ·have e0:=KE 0 (by decide)
   go_simp;exact kk _ _ (by simp) bR rfl
  ·have e116:=dep (DE 113 _ 116 rfl rfl rfl)
   go_simp;exact kk _ _ (by simp) bR rfl
  ·have e117:=dep (DE 114 _ 117 rfl rfl rfl)
   go_simp;exact kk _ _ (by simp) bR rfl
  ·have e0:=KE 0 (by decide)
   go_simp;exact kk _ _ (by simp) bR rfl
  ·have e119:=dep (DE 116 _ 119 rfl rfl rfl)
   go_simp;exact kk _ _ (by simp) bR rfl
  ·have e120:=dep (DE 117 _ 120 rfl rfl rfl)
   go_simp;exact kk _ _ (by simp) bR rfl
  ·have e115:=dep (DE 112 _ 115 rfl rfl rfl)
   have e118:=dep (DE 115 _ 118 rfl rfl rfl)
   have e121:=dep (DE 118 _ 121 rfl rfl rfl)
   go_simp;exact kk _ _ (by simp) bR rfl
  ·have e0:=KE 0 (by decide)
   go_simp;exact kk _ _ (by simp) bR rfl
  ·have e123:=dep (DE 120 _ 123 rfl rfl rfl)
   go_simp;exact kk _ _ (by simp) bR rfl
  ·have e124:=dep (DE 121 _ 124 rfl rfl rfl)
   go_simp;exact kk _ _ (by simp) bR rfl
  ·have e125:=dep (DE 122 _ 125 rfl rfl rfl)
   go_simp;exact kk _ _ (by simp) bR rfl
  ·have e0:=KE 0 (by decide)
   go_simp;exact kk _ _ (by simp) bR rfl
  ·have e127:=dep (DE 124 _ 127 rfl rfl rfl)
   go_simp;exact kk _ _ (by simp) bR rfl
  ·have e128:=dep (DE 125 _ 128 rfl rfl rfl)
   go_simp;exact kk _ _ (by simp) bR rfl
  ·have e0:=KE 0 (by decide)
   go_simp;exact kk _ _ (by simp) bR rfl
  ·have e130:=dep (DE 127 _ 130 rfl rfl rfl)
   go_simp;exact kk _ _ (by simp) bR rfl
  ·have e131:=dep (DE 128 _ 131 rfl rfl rfl)
   go_simp;exact kk _ _ (by simp) bR rfl
  ·have e126:=dep (DE 123 _ 126 rfl rfl rfl)
   have e129:=dep (DE 126 _ 129 rfl rfl rfl)
   have e132:=dep (DE 129 _ 132 rfl rfl rfl)
   go_simp;exact kk _ _ (by simp) bR rfl
  ·have e0:=KE 0 (by decide)
   go_simp;exact kk _ _ (by simp) bR rfl
  ·have e134:=dep (DE 131 _ 134 rfl rfl rfl)
   go_simp;exact kk _ _ (by simp) bR rfl
  ·have e135:=dep (DE 132 _ 135 rfl rfl rfl)
   go_simp;exact kk _ _ (by simp) bR rfl
  ·have e136:=dep (DE 133 _ 136 rfl rfl rfl)
   go_simp;exact kk _ _ (by simp) bR rfl
  ·have e0:=KE 0 (by decide)
   go_simp;exact kk _ _ (by simp) bR rfl
  ·have e138:=dep (DE 135 _ 138 rfl rfl rfl)
   go_simp;exact kk _ _ (by simp) bR rfl
  ·have e139:=dep (DE 136 _ 139 rfl rfl rfl)
   go_simp;exact kk _ _ (by simp) bR rfl
  ·have e0:=KE 0 (by decide)
   go_simp;exact kk _ _ (by simp) bR rfl
  ·have e141:=dep (DE 138 _ 141 rfl rfl rfl)
   go_simp;exact kk _ _ (by simp) bR rfl
  ·have e142:=dep (DE 139 _ 142 rfl rfl rfl)
   go_simp;exact kk _ _ (by simp) bR rfl
  ·have e137:=dep (DE 134 _ 137 rfl rfl rfl)
   have e140:=dep (DE 137 _ 140 rfl rfl rfl)
   have e143:=dep (DE 140 _ 143 rfl rfl rfl)
   go_simp;exact kk _ _ (by simp) bR rfl
  ·have e0:=KE 0 (by decide)
   go_simp;exact kk _ _ (by simp) bR rfl
  ·have e145:=dep (DE 142 _ 145 rfl rfl rfl)
   go_simp;exact kk _ _ (by simp) bR rfl
  ·have e146:=dep (DE 143 _ 146 rfl rfl rfl)
   go_simp;exact kk _ _ (by simp) bR rfl
  ·have e147:=dep (DE 144 _ 147 rfl rfl rfl)
   go_simp;exact kk _ _ (by simp) bR rfl
  ·have e0:=KE 0 (by decide)
   go_simp;exact kk _ _ (by simp) bR rfl
  ·have e149:=dep (DE 146 _ 149 rfl rfl rfl)
   go_simp;exact kk _ _ (by simp) bR rfl
  ·have e150:=dep (DE 147 _ 150 rfl rfl rfl)
   go_simp;exact kk _ _ (by simp) bR rfl
  ·have e0:=KE 0 (by decide)
   go_simp;exact kk _ _ (by simp) bR rfl
  ·have e152:=dep (DE 149 _ 152 rfl rfl rfl)
   go_simp;exact kk _ _ (by simp) bR rfl
  ·have e153:=dep (DE 150 _ 153 rfl rfl rfl)
   go_simp;exact kk _ _ (by simp) bR rfl
  ·have e148:=dep (DE 145 _ 148 rfl rfl rfl)
   have e151:=dep (DE 148 _ 151 rfl rfl rfl)
   have e154:=dep (DE 151 _ 154 rfl rfl rfl)
   go_simp;exact kk _ _ (by simp) bR rfl
  ·have e0:=KE 0 (by decide)
   go_simp;exact kk _ _ (by simp) bR rfl
  ·have e156:=dep (DE 153 _ 156 rfl rfl rfl)
   go_simp;exact kk _ _ (by simp) bR rfl
  ·have e157:=dep (DE 154 _ 157 rfl rfl rfl)
   go_simp;exact kk _ _ (by simp) bR rfl
  ·have e0:=KE 0 (by decide)
   go_simp;exact kk _ _ (by simp) bR rfl
  ·have e159:=dep (DE 156 _ 159 rfl rfl rfl)
   go_simp;exact kk _ _ (by simp) bR rfl
  ·have e160:=dep (DE 157 _ 160 rfl rfl rfl)
   go_simp;exact kk _ _ (by simp) bR rfl
  ·have e0:=KE 0 (by decide)
   go_simp;exact kk _ _ (by simp) bR rfl
  ·have e162:=dep (DE 159 _ 162 rfl rfl rfl)
   go_simp;exact kk _ _ (by simp) bR rfl
  ·have e163:=dep (DE 160 _ 163 rfl rfl rfl)
   go_simp;exact kk _ _ (by simp) bR rfl
  ·have e158:=dep (DE 155 _ 158 rfl rfl rfl)
   have e161:=dep (DE 158 _ 161 rfl rfl rfl)
   have e164:=dep (DE 161 _ 164 rfl rfl rfl)
   go_simp;exact kk _ _ (by simp) bR rfl
  ·have e14:=dep (DE 11 _ 14 rfl rfl rfl)
   have e26:=dep (DE 23 _ 26 rfl rfl rfl)
   have e37:=dep (DE 34 _ 37 rfl rfl rfl)
   have e47:=dep (DE 44 _ 47 rfl rfl rfl)
   have e57:=dep (DE 54 _ 57 rfl rfl rfl)
   have e68:=dep (DE 65 _ 68 rfl rfl rfl)
   have e79:=dep (DE 76 _ 79 rfl rfl rfl)
   have e90:=dep (DE 87 _ 90 rfl rfl rfl)
   have e101:=dep (DE 98 _ 101 rfl rfl rfl)
   have e112:=dep (DE 109 _ 112 rfl rfl rfl)
   have e122:=dep (DE 119 _ 122 rfl rfl rfl)
   have e133:=dep (DE 130 _ 133 rfl rfl rfl)
   have e144:=dep (DE 141 _ 144 rfl rfl rfl)
   have e155:=dep (DE 152 _ 155 rfl rfl rfl)
   have e165:=dep (DE 162 _ 165 rfl rfl rfl)
   simp (maxSteps:=100000000) [go_sem, *];exact kk _ _ (by simp) bR rfl
  ·subst hpre
   have e2:=KE 2 (by decide)
   have e166:=dep (DE 163 _ 166 rfl rfl rfl)
   exact wpo_storeF 116 (.tmp 2) (.tmp 166) rfl rfl qb 0 (by simpa [Act.eval] using e2) #[.func (.func 72) #[] #[],.pointer (some ⟨b,10,none⟩),.pointer (some ⟨b,10,none⟩),.pointer (some ⟨b,18,none⟩),.func (.func 73) #[] #[],.pointer (some ⟨b,12,none⟩),.pointer (some ⟨b,12,none⟩),.pointer (some ⟨b,20,none⟩),.func (.func 74) #[] #[],.pointer (some ⟨b,20,none⟩),.pointer (some ⟨b,4,none⟩),.pointer (some ⟨b,20,none⟩),.func (.func 65) #[] #[],.pointer (some ⟨b,18,none⟩),.pointer (some ⟨b,20,none⟩),.pointer (some ⟨b,20,none⟩),.func (.func 75) #[] #[],.pointer (some ⟨b,20,none⟩),.pointer (some ⟨b,20,none⟩),.pointer (some ⟨b,22,none⟩),.func (.func 65) #[] #[],.pointer (some ⟨b,10,none⟩),.pointer (some ⟨b,22,none⟩),.pointer (some ⟨b,22,none⟩),.func (.func 76) #[] #[],.pointer (some ⟨b,22,none⟩),.pointer (some ⟨b,12,none⟩),.pointer (some ⟨b,24,none⟩),.func (.func 74) #[] #[],.pointer (some ⟨b,6,none⟩),.pointer (some ⟨b,24,none⟩),.pointer (some ⟨b,26,none⟩),.func (.func 65) #[] #[],.pointer (some ⟨b,0,none⟩),.pointer (some ⟨b,26,none⟩),.pointer (some ⟨b,28,none⟩),.func (.func 74) #[] #[],.pointer (some ⟨b,14,none⟩),.pointer (some ⟨b,24,none⟩),.pointer (some ⟨b,26,none⟩),.func (.func 65) #[] #[],.pointer (some ⟨b,28,none⟩),.pointer (some ⟨b,26,none⟩),.pointer (some ⟨b,28,none⟩),.func (.func 74) #[] #[],.pointer (some ⟨b,8,none⟩),.pointer (some ⟨b,24,none⟩),.pointer (some ⟨b,26,none⟩),.func (.func 65) #[] #[],.pointer (some ⟨b,2,none⟩),.pointer (some ⟨b,26,none⟩),.pointer (some ⟨b,30,none⟩),.func (.func 74) #[] #[],.pointer (some ⟨b,16,none⟩),.pointer (some ⟨b,24,none⟩),.pointer (some ⟨b,26,none⟩),.func (.func 65) #[] #[],.pointer (some ⟨b,30,none⟩),.pointer (some ⟨b,26,none⟩),.pointer (some ⟨b,30,none⟩)] (by simpa [Act.eval] using e166) _ _ #[.func (.func 72) #[] #[],.pointer (some ⟨b,10,none⟩),.pointer (some ⟨b,10,none⟩),.pointer (some ⟨b,18,none⟩),.func (.func 73) #[] #[],.pointer (some ⟨b,12,none⟩),.pointer (some ⟨b,12,none⟩),.pointer (some ⟨b,20,none⟩),.func (.func 74) #[] #[],.pointer (some ⟨b,20,none⟩),.pointer (some ⟨b,4,none⟩),.pointer (some ⟨b,20,none⟩),.func (.func 65) #[] #[],.pointer (some ⟨b,18,none⟩),.pointer (some ⟨b,20,none⟩),.pointer (some ⟨b,20,none⟩),.func (.func 75) #[] #[],.pointer (some ⟨b,20,none⟩),.pointer (some ⟨b,20,none⟩),.pointer (some ⟨b,22,none⟩),.func (.func 65) #[] #[],.pointer (some ⟨b,10,none⟩),.pointer (some ⟨b,22,none⟩),.pointer (some ⟨b,22,none⟩),.func (.func 76) #[] #[],.pointer (some ⟨b,22,none⟩),.pointer (some ⟨b,12,none⟩),.pointer (some ⟨b,24,none⟩),.func (.func 74) #[] #[],.pointer (some ⟨b,6,none⟩),.pointer (some ⟨b,24,none⟩),.pointer (some ⟨b,26,none⟩),.func (.func 65) #[] #[],.pointer (some ⟨b,0,none⟩),.pointer (some ⟨b,26,none⟩),.pointer (some ⟨b,28,none⟩),.func (.func 74) #[] #[],.pointer (some ⟨b,14,none⟩),.pointer (some ⟨b,24,none⟩),.pointer (some ⟨b,26,none⟩),.func (.func 65) #[] #[],.pointer (some ⟨b,28,none⟩),.pointer (some ⟨b,26,none⟩),.pointer (some ⟨b,28,none⟩),.func (.func 74) #[] #[],.pointer (some ⟨b,8,none⟩),.pointer (some ⟨b,24,none⟩),.pointer (some ⟨b,26,none⟩),.func (.func 65) #[] #[],.pointer (some ⟨b,2,none⟩),.pointer (some ⟨b,26,none⟩),.pointer (some ⟨b,30,none⟩),.func (.func 74) #[] #[],.pointer (some ⟨b,16,none⟩),.pointer (some ⟨b,24,none⟩),.pointer (some ⟨b,26,none⟩),.func (.func 65) #[] #[],.pointer (some ⟨b,30,none⟩),.pointer (some ⟨b,26,none⟩),.pointer (some ⟨b,30,none⟩)] (by have:=S.fr.left.get 0 rfl;rw [if_pos (S.hi 0 164 rfl rfl)] at this;exact this) rfl (by show 0+60≤60;omega) (one_all rfl) info_116 fun w' hk ho=>kk _ _ (by simp) (Fr.stage (S.fr.only 0 rfl ho hk) (by exact trivial)) trivial
 ·intro vs wf HFr HR
  have HFr':Fr w [] [(qb,116,#[.func (.func 72) #[] #[],.pointer (some ⟨b,10,none⟩),.pointer (some ⟨b,10,none⟩),.pointer (some ⟨b,18,none⟩),.func (.func 73) #[] #[],.pointer (some ⟨b,12,none⟩),.pointer (some ⟨b,12,none⟩),.pointer (some ⟨b,20,none⟩),.func (.func 74) #[] #[],.pointer (some ⟨b,20,none⟩),.pointer (some ⟨b,4,none⟩),.pointer (some ⟨b,20,none⟩),.func (.func 65) #[] #[],.pointer (some ⟨b,18,none⟩),.pointer (some ⟨b,20,none⟩),.pointer (some ⟨b,20,none⟩),.func (.func 75) #[] #[],.pointer (some ⟨b,20,none⟩),.pointer (some ⟨b,20,none⟩),.pointer (some ⟨b,22,none⟩),.func (.func 65) #[] #[],.pointer (some ⟨b,10,none⟩),.pointer (some ⟨b,22,none⟩),.pointer (some ⟨b,22,none⟩),.func (.func 76) #[] #[],.pointer (some ⟨b,22,none⟩),.pointer (some ⟨b,12,none⟩),.pointer (some ⟨b,24,none⟩),.func (.func 74) #[] #[],.pointer (some ⟨b,6,none⟩),.pointer (some ⟨b,24,none⟩),.pointer (some ⟨b,26,none⟩),.func (.func 65) #[] #[],.pointer (some ⟨b,0,none⟩),.pointer (some ⟨b,26,none⟩),.pointer (some ⟨b,28,none⟩),.func (.func 74) #[] #[],.pointer (some ⟨b,14,none⟩),.pointer (some ⟨b,24,none⟩),.pointer (some ⟨b,26,none⟩),.func (.func 65) #[] #[],.pointer (some ⟨b,28,none⟩),.pointer (some ⟨b,26,none⟩),.pointer (some ⟨b,28,none⟩),.func (.func 74) #[] #[],.pointer (some ⟨b,8,none⟩),.pointer (some ⟨b,24,none⟩),.pointer (some ⟨b,26,none⟩),.func (.func 65) #[] #[],.pointer (some ⟨b,2,none⟩),.pointer (some ⟨b,26,none⟩),.pointer (some ⟨b,30,none⟩),.func (.func 74) #[] #[],.pointer (some ⟨b,16,none⟩),.pointer (some ⟨b,24,none⟩),.pointer (some ⟨b,26,none⟩),.func (.func 65) #[] #[],.pointer (some ⟨b,30,none⟩),.pointer (some ⟨b,26,none⟩),.pointer (some ⟨b,30,none⟩)])] wf:=HFr
  clear HFr HR
  have HF1:=Lib.hid HFr'
  clear HFr'
  simp (maxSteps:=10000000) only [List.append_eq,List.cons_append,List.nil_append,putAll,Act.put,List.setIfInBounds_toArray,List.set_cons_zero,List.set_cons_succ]
  obtain ⟨w1,rfl⟩:∃ u:World,u=wf:=⟨_,rfl⟩
  go_wp2_with fail
  try rw [Exit.noGoto_ret]
  refine ret_agg rfl rfl rfl (HF1.out.get 0 rfl) und_116 rfl info_116 ?_
  exact HFIN.out _ _ HF1.out
end Go.Proofs.YtmkoegljnebdiaaGreat
